/- Joins of drawn categories. No condition but those of each statement. -/
import Derived.Test.YtjdedelneppnlaaZ10
namespace Go.Proofs.Ytjdedelneppnlaa
open Go Go.GL Go.RowKit Go.Proofs
set_option maxHeartbeats 8000000 in
theorem l03Join_c {c d : Cat} {p q : CatP} {H : GHeap} (hin : c.In H p := by assumption) (hin1 : d.In H q := by assumption) (hc : c.Rect 4) (hd : d.Rect 8) :
    GCalls Try.prog 150 [.agg (c.cells p).toArray, .agg (d.cells q).toArray] H (NewRc 2 22 128 H) := by
  have c1 := hc.obj
  have d1 := hd.obj
  obtain ⟨E, hEq, hE⟩ : ∃ E, c.sum d = E ∧ E.Rect 12 := ⟨_, rfl, hc.sum hd⟩
  have hE0 : E.obj = c.obj + d.obj := by rw [← hEq]; rfl
  obtain ⟨e1, e2, e3, e4, e5, e6, e7, e8, e9, s3⟩ := id hE
  refine GCalls.body (N := 122) (rs := [.cell 4 29]) Try.func150 rfl rfl rfl rfl (fun Qx o8 hend => ?_)
  refine .fg [0, 1] rfl ?_
  have i := GHeap.Le.refl H
  have h := hin
  have e := hin1
  refine .seq (fun K1 t5 => .region ?_)
  refine .R rfl (.boxR rfl sz_29_D rfl) ?_
  rintro _ H2 ⟨g2, rfl, t7, ge2, m⟩
  replace i := i.trans t7
  have lt_at2 := GHeap.ltg m
  replace hin := h.mono i
  have w : Cat.At _ g2 0 c p := ⟨Mem.of_get m, hin⟩
  refine .R rfl (.boxR rfl sz_29_D rfl) ?_
  rintro _ H3 ⟨g3, rfl, r7, ge3, n⟩
  replace i := i.trans r7
  replace m := r7.2 _ _ m
  have lt_at3 := GHeap.ltg n
  replace hin := h.mono i
  replace hin1 := e.mono i
  clear w
  have w : Cat.At _ g2 0 c p := ⟨Mem.of_get m, hin⟩
  have a0 : Cat.At _ g3 0 d q := ⟨Mem.of_get n, hin1⟩
  refine .R rfl (.allocR rfl ze_29_Hj rfl) ?_
  rintro _ H4 ⟨g4, rfl, m6, ge4, i4⟩
  have nx_H4 := m6.1
  replace i := i.trans m6
  replace m := m6.2 _ _ m
  replace n := m6.2 _ _ n
  have lt_at4 := GHeap.ltg i4
  replace hin := h.mono i
  replace hin1 := e.mono i
  clear w
  have w : Cat.At _ g2 0 c p := ⟨Mem.of_get m, hin⟩
  have s9 := w.2
  clear a0
  have a0 : Cat.At _ g3 0 d q := ⟨Mem.of_get n, hin1⟩
  have s6 := a0.2
  refine .nil (t5 _ _ (.seq (fun K2 s5 => .region ?_)))
  refine .q rfl (.loadM ag_29_D rfl ⟨rfl, Mem.of_get m⟩) ?_
  refine .q rfl (.loadM ag_29_D rfl ⟨rfl, Mem.of_get n⟩) ?_
  refine .call rfl rfl rfl rfl @Try.call139 rfl (l03Sum_c (hc := hc.mono (by omega : 4 ≤ 8)) (hd := hd) (hN := by omega)) ?_
  rintro _ t8 hv
  rw [hEq] at hv
  obtain ⟨k0, gF, gT, gI, gC, rr, rfl, i5⟩ := hv
  have aF := i5.a1
  have aT := i5.a2
  have aI := i5.a3
  have aC := i5.a4
  have bF := i5.b1
  have bT := i5.b2
  have bI := i5.b3
  have bC := i5.b4
  have n12 := i5.n12
  have n13 := i5.n13
  have n23 := i5.n23
  have n4 := row_ne aC aF rfl
  have n5 := row_ne aC aT rfl
  have n6 := row_ne aC aI rfl
  have l4 := St.refl [gF] t8
  replace i := i.trans k0
  replace m := k0.2 _ _ m
  replace n := k0.2 _ _ n
  replace i4 := k0.2 _ _ i4
  have lt_aF := GHeap.ltg aF
  have lt_aT := GHeap.ltg aT
  have lt_aI := GHeap.ltg aI
  have lt_aC := GHeap.ltg aC
  replace hin := h.mono i
  replace hin1 := e.mono i
  clear w s9
  have w : Cat.At _ g2 0 c p := ⟨Mem.of_get m, hin⟩
  clear a0 s6
  have a0 : Cat.At _ g3 0 d q := ⟨Mem.of_get n, hin1⟩
  refine .R rfl (.allocR rfl ze_29_Hj rfl) ?_
  rintro _ H5 ⟨g5, rfl, j4, ge5, at5⟩
  have nx_H5 := j4.1
  replace i := i.trans j4
  replace l4 := l4.le j4
  replace m := j4.2 _ _ m
  replace n := j4.2 _ _ n
  replace i4 := j4.2 _ _ i4
  replace aF := j4.2 _ _ aF
  replace aT := j4.2 _ _ aT
  replace aI := j4.2 _ _ aI
  replace aC := j4.2 _ _ aC
  replace hin := h.mono i
  replace hin1 := e.mono i
  clear w
  have w : Cat.At _ g2 0 c p := ⟨Mem.of_get m, hin⟩
  clear a0
  have a0 : Cat.At _ g3 0 d q := ⟨Mem.of_get n, hin1⟩
  refine .r0 rfl rfl (.fillA rfl sz_29_D rfl rfl rfl rfl) ?_
  rintro _ j1 ⟨rfl, a9, k6⟩
  have nx_H1004 := a9.nx
  replace i := i.st a9 (fun k hk => ⟨by omega, trivial⟩)
  replace l4 := l4.sA a9
  have b7 : NE g2 g5 := .a
  replace m := a9.s m b7.ne
  have b6 : NE g3 g5 := .a
  replace n := a9.s n b6.ne
  have f1 : NE g4 g5 := .a
  replace i4 := a9.s i4 f1.ne
  replace aF := a9.s aF
  replace aT := a9.s aT
  have d6 : NE gI g5 := .a
  replace aI := a9.s aI d6.ne
  have i0 : NE gC g5 := .a
  replace aC := a9.s aC i0.ne
  replace hin := h.mono i
  replace hin1 := e.mono i
  clear w
  have w : Cat.At _ g2 0 c p := ⟨Mem.of_get m, hin⟩
  clear a0
  have a0 : Cat.At _ g3 0 d q := ⟨Mem.of_get n, hin1⟩
  refine .nil (s5 _ _ (.seq (fun K3 t3 => .region (.q rfl (.fieldAddr fo_29_1_B rfl) ?_))))
  refine .q rfl (.load on_22_B rfl (by first | assumption | exact Mem.of_get k6 1 _ rfl)) ?_
  refine .q rfl (.len sl_22_A rfl) (.mv rfl (.nil (t3 _ _ (.seq (fun K4 s1 => .seq (fun K5 s0 => .region (.mv rfl (.nil (s0 _ _ ?_)))))))))
  refine .block ?_
  refine .loopR (σ := Nat × List Int × List Int × Nat × Nat) [(2, some _), (3, some _), (4, some _), (5, some _), (6, some _)] (fun (x, ss, ts, gLF, gLT) => [(7, some (.int .i64 (x : Int)))]) (fun (x, ss, ts, gLF, gLT) H' => St [gF, gT, g5] j1 H' ∧ H'.get gLF = some (.row (ints ss) 2 true) ∧ PL gLF gF j1.next ∧ H'.get gLT = some (.row (ints ts) 2 true) ∧ PL gLT gT j1.next ∧ H'.get g5 = some (.row ([.int .i64 E.obj, .slice (some ⟨gLF, 0, none⟩) ss.length ss.length, .slice (some ⟨gLT, 0, none⟩) ts.length ts.length, .slice (some ⟨gI, 0, none⟩) E.idn.length E.idn.length, .slice (some ⟨gC, 0, none⟩) E.comp.length E.comp.length]) 29 true) ∧ gLF ≠ gLT ∧ gLF ≠ g5 ∧ gLT ≠ g5 ∧ ((x : Int) ≤ c.obj ∧ E.src.length ≤ ss.length ∧ ss.length ≤ 12 + 8 * x ∧ ts.length = ss.length) ∧ Bd 0 12 ss ∧ Bd 0 12 ts ∧ OwnL H.next H' 2 rr E.comp ∧ (∀ j, j < E.comp.length → rr j ≠ some ⟨gLF, 0, none⟩) ∧ ∀ j, j < E.comp.length → rr j ≠ some ⟨gLT, 0, none⟩) (fun (x, ss, ts, gLF, gLT) => (c.obj - x : Int).toNat) ((0, E.src, E.tgt, gF, gT)) ⟨rfl, rfl, rfl, rfl, rfl, trivial⟩ ⟨rfl, trivial⟩ ?_ ?_
  ·
   refine ⟨.refl _ _, by assumption, ⟨.inl rfl⟩, by assumption, ⟨.inl rfl⟩, by assumption, by omega, by omega, by omega, ?_⟩
   exact ⟨⟨by omega, by omega, by omega, by omega⟩, e4, e5, (i5.rows.st l4 (.cons i5.r1 (.nil _ _))).low (by omega), i5.r1, i5.r2⟩
  rintro ⟨x, ss, ts, gLF, gLT⟩ HL1 ⟨f2, u, d7, v, f0, l, ap1_0, l6, m3, hI⟩ KL1 p4
  refine .forget (fr' := [(7, some (.int .i64 (x : Int))), (2, some _), (3, some _), (4, some _), (5, some _), (6, some _)]) ⟨rfl, rfl, rfl, rfl, rfl, rfl, trivial⟩ ?_
  have ge_LF : H.next ≤ gLF := d7.ge (by omega) (by omega)
  have ge_LT : H.next ≤ gLT := f0.ge (by omega) (by omega)
  have nx_HL1 := f2.nx
  replace i := i.st f2 (fun k hk => ⟨by omega, by omega, by omega, trivial⟩)
  have i2 : NE g2 gF := .a
  have h4 : NE g2 gT := .a
  replace m := f2.same _ _ ⟨i2.ne, h4.ne, b7.ne, trivial⟩ m
  have h8 : NE g3 gF := .a
  have h1 : NE g3 gT := .a
  replace n := f2.same _ _ ⟨h8.ne, h1.ne, b6.ne, trivial⟩ n
  have i1 : NE g4 gF := .a
  have h5 : NE g4 gT := .a
  replace i4 := f2.same _ _ ⟨i1.ne, h5.ne, f1.ne, trivial⟩ i4
  replace aI := f2.same _ _ ⟨(by first | assumption | omega), (by first | assumption | omega), d6.ne, trivial⟩ aI
  replace aC := f2.same _ _ ⟨(by first | assumption | omega), (by first | assumption | omega), i0.ne, trivial⟩ aC
  have lt_at_LF := GHeap.ltg u
  have lt_at_LT := GHeap.ltg v
  have j0 := GHeap.ltg l
  replace hin := h.mono i
  replace hin1 := e.mono i
  clear w
  have w : Cat.At _ g2 0 c p := ⟨Mem.of_get m, hin⟩
  obtain ⟨m0, -, -, -, -, -, -, -, -⟩ := w.get
  clear a0
  have a0 : Cat.At _ g3 0 d q := ⟨Mem.of_get n, hin1⟩
  obtain ⟨⟨hx, hsm, t0, hts⟩, hS, hT, hR, m7, m8⟩ := hI
  refine .seq (fun K6 s7 => .seq (fun K7 t6 => .region (.mv rfl (.q rfl (.fieldAddr fo_29_0_B rfl) ?_))))
  refine .q rfl (.load on_2_A rfl (by first | assumption | exact Mem.of_get m 0 _ rfl)) ?_
  refine .q rfl (.cmp rfl rfl rfl) (.nil (t6 _ _ ?_))
  refine .cond rfl (fun o1 => ?_) (fun o1 => ?_)
  ·
   simp only [sps] at o1
   refine .skip ?_
   refine s7 _ _ (.seq (fun K8 s8 => ?_))
   refine .block ?_
   refine .seq (fun K9 t1 => .region (.mv rfl (.nil (t1 _ _ ?_))))
   refine .block ?_
   refine .loopR (σ := Nat × List Int × List Int × Nat × Nat) [(2, some _), (3, some _), (4, some _), (5, some _), (6, some _), (7, some _)] (fun (y, s2, t2, d0, d2) => [(8, some (.int .i64 (y : Int)))]) (fun (y, s2, t2, d0, d2) H' => St [gLF, gLT, g5] HL1 H' ∧ H'.get d0 = some (.row (ints s2) 2 true) ∧ PL d0 gLF HL1.next ∧ H'.get d2 = some (.row (ints t2) 2 true) ∧ PL d2 gLT HL1.next ∧ H'.get g5 = some (.row ([.int .i64 E.obj, .slice (some ⟨d0, 0, none⟩) s2.length s2.length, .slice (some ⟨d2, 0, none⟩) t2.length t2.length, .slice (some ⟨gI, 0, none⟩) E.idn.length E.idn.length, .slice (some ⟨gC, 0, none⟩) E.comp.length E.comp.length]) 29 true) ∧ d0 ≠ d2 ∧ d0 ≠ g5 ∧ d2 ≠ g5 ∧ ((y : Int) ≤ d.obj ∧ E.src.length ≤ s2.length ∧ s2.length ≤ 12 + 8 * x + y ∧ t2.length = s2.length) ∧ Bd 0 12 s2 ∧ Bd 0 12 t2 ∧ OwnL H.next H' 2 rr E.comp ∧ (∀ j, j < E.comp.length → rr j ≠ some ⟨d0, 0, none⟩) ∧ ∀ j, j < E.comp.length → rr j ≠ some ⟨d2, 0, none⟩) (fun (y, s2, t2, d0, d2) => (d.obj - y : Int).toNat) ((0, ss, ts, gLF, gLT)) ⟨rfl, rfl, rfl, rfl, rfl, rfl, trivial⟩ ⟨rfl, trivial⟩ ?_ ?_
   ·
    refine ⟨.refl _ _, by assumption, ⟨.inl rfl⟩, by assumption, ⟨.inl rfl⟩, by assumption, by omega, by omega, by omega, ?_⟩
    exact ⟨⟨by omega, by omega, by omega, by omega⟩, hS, hT, hR, m7, m8⟩
   rintro ⟨y, s2, t2, d0, d2⟩ HL2 ⟨c3, j2, g8, c2, g9, l, l5, m4, k4, hI⟩ KL2 p9
   refine .forget (fr' := [(8, some (.int .i64 (y : Int))), (2, some _), (3, some _), (4, some _), (5, some _), (6, some _), (7, some _)]) ⟨rfl, rfl, rfl, rfl, rfl, rfl, rfl, trivial⟩ ?_
   have ge_LF2 : H.next ≤ d0 := g8.ge (by omega) (by omega)
   have ge_LT2 : H.next ≤ d2 := g9.ge (by omega) (by omega)
   have nx_HL2 := c3.nx
   replace i := i.st c3 (fun k hk => ⟨by omega, by omega, by omega, trivial⟩)
   replace f2 := f2.st c3 (fun k hk ho => by simp only [out, and_true] at ho ⊢ <;> exact ⟨by first | exact ho | exact ho.1 | exact ho.2 | exact ho.2.1 | exact ho.2.2 | exact ho.2.2.1 | exact ho.2.2.2 | exact d7.ne (by first | exact ho | exact ho.1 | exact ho.2 | exact ho.2.1 | exact ho.2.2 | exact ho.2.2.1 | exact ho.2.2.2 | omega) (by omega) | omega, by first | exact ho | exact ho.1 | exact ho.2 | exact ho.2.1 | exact ho.2.2 | exact ho.2.2.1 | exact ho.2.2.2 | exact f0.ne (by first | exact ho | exact ho.1 | exact ho.2 | exact ho.2.1 | exact ho.2.2 | exact ho.2.2.1 | exact ho.2.2.2 | omega) (by omega) | omega, by first | exact ho | exact ho.1 | exact ho.2 | exact ho.2.1 | exact ho.2.2 | exact ho.2.2.1 | exact ho.2.2.2 | omega⟩)
   have f8 : NE g2 gLF := ⟨d7.ne i2.ne (by omega)⟩
   have f5 : NE g2 gLT := ⟨f0.ne h4.ne (by omega)⟩
   replace m := c3.same _ _ ⟨f8.ne, f5.ne, b7.ne, trivial⟩ m
   have g7 : NE g3 gLF := ⟨d7.ne h8.ne (by omega)⟩
   have f6 : NE g3 gLT := ⟨f0.ne h1.ne (by omega)⟩
   replace n := c3.same _ _ ⟨g7.ne, f6.ne, b6.ne, trivial⟩ n
   have lt_at_LT2 := GHeap.ltg c2
   have j0 := GHeap.ltg l
   replace hin := h.mono i
   replace hin1 := e.mono i
   clear w m0
   have w : Cat.At _ g2 0 c p := ⟨Mem.of_get m, hin⟩
   clear a0
   have a0 : Cat.At _ g3 0 d q := ⟨Mem.of_get n, hin1⟩
   obtain ⟨m9, -, -, -, -, -, -, -, -⟩ := a0.get
   have rk := St.refl [d0, d2, g5] HL2
   obtain ⟨⟨hy, hsm, t0, hts⟩, hS, hT, hR, m7, m8⟩ := hI
   have k7 := l
   refine .seq (fun K10 o6 => .seq (fun K11 p7 => .region (.mv rfl (.q rfl (.fieldAddr fo_29_0_B rfl) ?_))))
   refine .q rfl (.load on_2_A rfl (by first | assumption | exact Mem.of_get n 0 _ rfl)) ?_
   refine .q rfl (.cmp rfl rfl rfl) (.nil (p7 _ _ ?_))
   refine .cond rfl (fun o7 => ?_) (fun o7 => ?_)
   ·
    simp only [sps] at o7
    refine .skip ?_
    refine o6 _ _ (.seq (fun K12 o5 => ?_))
    refine .block ?_
    refine .seq (fun K13 o2 => .region (.q rfl (.fieldAddr fo_29_1_B rfl) ?_))
    refine .q rfl (.load on_22_B rfl (by first | assumption | exact Mem.of_get l 1 _ rfl)) ?_
    refine .mv rfl ?_
    refine .R rfl (.litA rfl sl_22_A ze_2_L rfl rfl rfl rfl) ?_
    rintro _ H35 ⟨g35, rfl, h6, ge35, n9⟩
    replace i := i.trans h6
    replace c3 := c3.le h6
    replace rk := rk.le h6
    replace m := h6.2 _ _ m
    replace n := h6.2 _ _ n
    replace j2 := h6.2 _ _ j2
    replace c2 := h6.2 _ _ c2
    replace l := h6.2 _ _ l
    have lt_at35 := GHeap.ltg n9
    replace hin := h.mono i
    replace hin1 := e.mono i
    clear w
    have w : Cat.At _ g2 0 c p := ⟨Mem.of_get m, hin⟩
    clear a0 m9
    have a0 : Cat.At _ g3 0 d q := ⟨Mem.of_get n, hin1⟩
    refine .R rfl (.appendI rfl sl_22_A ze_2_L rfl by_2_L sl_22_A rfl rfl (by assumption) (by assumption) (by first | omega | (simp <;> omega)) (by omega) (by omega)) ?_
    rintro _ H36 ⟨r6, rfl, i6, ge36, h0⟩
    replace i := i.st i6 (fun k hk => ⟨by omega, trivial⟩)
    replace c3 := c3.sQ i6
    replace rk := rk.sQ i6
    replace m := i6.same _ _ ⟨(g8.ne f8.ne (by omega)), trivial⟩ m
    replace n := i6.same _ _ ⟨(g8.ne g7.ne (by omega)), trivial⟩ n
    replace c2 := i6.same _ _ ⟨(Ne.symm l5), trivial⟩ c2
    replace l := i6.same _ _ ⟨(Ne.symm m4), trivial⟩ l
    have lt_at36 := GHeap.ltg h0
    replace hin := h.mono i
    replace hin1 := e.mono i
    clear w
    have w : Cat.At _ g2 0 c p := ⟨Mem.of_get m, hin⟩
    clear a0
    have a0 : Cat.At _ g3 0 d q := ⟨Mem.of_get n, hin1⟩
    refine .q rfl (.fieldAddr fo_29_1_B rfl) ?_
    refine .r0 rfl rfl (.storeR rfl sz_22_Ch rfl rfl rfl (by assumption) (by first | exact Nat.le_of_ble_eq_true rfl | (simp; done) | (simp <;> omega))) ?_
    rintro _ H9006 ⟨rfl, c4, c6⟩
    have nx_H9006 := c4.nx
    replace i := i.st c4 (fun k hk => ⟨by omega, trivial⟩)
    replace c3 := c3.sA c4
    replace rk := rk.sA c4
    replace m := c4.s m b7.ne
    replace n := c4.s n b6.ne
    replace c2 := c4.same _ _ ⟨k4, trivial⟩ c2
    have f4 : NE r6 g5 := .a
    replace h0 := c4.s h0 f4.ne
    have lt_at9006 := GHeap.ltg c6
    replace hin := h.mono i
    replace hin1 := e.mono i
    clear w
    have w : Cat.At _ g2 0 c p := ⟨Mem.of_get m, hin⟩
    obtain ⟨m0, -, -, -, -, -, -, -, -⟩ := w.get
    clear a0
    have a0 : Cat.At _ g3 0 d q := ⟨Mem.of_get n, hin1⟩
    try simp only [Nat.zero_add, List.set_cons_succ, List.set_cons_zero] at c6
    refine .nil (o2 _ _ (.region (.q rfl (.fieldAddr fo_29_2_B rfl) ?_)))
    refine .q rfl (.load on_22_B rfl (by first | assumption | exact Mem.of_get c6 2 _ rfl)) ?_
    refine .q rfl (.fieldAddr fo_29_0_B rfl) ?_
    refine .q rfl (.load on_2_A rfl (by first | assumption | exact Mem.of_get m 0 _ rfl)) ?_
    refine .mv rfl ?_
    refine .q rfl (.add rfl rfl rfl (by omega) (by omega)) ?_
    refine .R rfl (.litA rfl sl_22_A ze_2_L rfl rfl rfl rfl) ?_
    rintro _ H44 ⟨g44, rfl, h9, ge44, n8⟩
    replace i := i.trans h9
    replace c3 := c3.le h9
    replace rk := rk.le h9
    replace m := h9.2 _ _ m
    replace n := h9.2 _ _ n
    replace c2 := h9.2 _ _ c2
    replace h0 := h9.2 _ _ h0
    replace c6 := h9.2 _ _ c6
    have lt_at44 := GHeap.ltg n8
    replace hin := h.mono i
    replace hin1 := e.mono i
    clear w m0
    have w : Cat.At _ g2 0 c p := ⟨Mem.of_get m, hin⟩
    clear a0
    have a0 : Cat.At _ g3 0 d q := ⟨Mem.of_get n, hin1⟩
    refine .R rfl (.appendI rfl sl_22_A ze_2_L rfl by_2_L sl_22_A rfl rfl (by assumption) (by assumption) (by first | omega | (simp <;> omega)) (by omega) (by omega)) ?_
    rintro _ H45 ⟨s4, rfl, i7, ge45, m5⟩
    replace i := i.st i7 (fun k hk => ⟨by omega, trivial⟩)
    replace c3 := c3.sQ i7
    replace rk := rk.sQ i7
    replace m := i7.same _ _ ⟨(g9.ne f5.ne (by omega)), trivial⟩ m
    replace n := i7.same _ _ ⟨(g9.ne f6.ne (by omega)), trivial⟩ n
    replace h0 := i7.s h0
    replace c6 := i7.same _ _ ⟨(Ne.symm k4), trivial⟩ c6
    replace hin := h.mono i
    replace hin1 := e.mono i
    clear w
    have w : Cat.At _ g2 0 c p := ⟨Mem.of_get m, hin⟩
    clear a0
    have a0 : Cat.At _ g3 0 d q := ⟨Mem.of_get n, hin1⟩
    refine .q rfl (.fieldAddr fo_29_2_B rfl) ?_
    refine .r0 rfl rfl (.storeR rfl sz_22_Ch rfl rfl rfl (by assumption) (by first | exact Nat.le_of_ble_eq_true rfl | (simp; done) | (simp <;> omega))) ?_
    rintro _ H10009 ⟨rfl, b9, k1⟩
    replace i := i.st b9 (fun k hk => ⟨by omega, trivial⟩)
    replace c3 := c3.sA b9
    replace rk := rk.sA b9
    replace m := b9.s m b7.ne
    replace n := b9.s n b6.ne
    replace h0 := b9.s h0 f4.ne
    replace m5 := b9.s m5
    replace hin := h.mono i
    replace hin1 := e.mono i
    clear w
    have w : Cat.At _ g2 0 c p := ⟨Mem.of_get m, hin⟩
    clear a0
    have a0 : Cat.At _ g3 0 d q := ⟨Mem.of_get n, hin1⟩
    try simp only [Nat.zero_add, List.set_cons_succ, List.set_cons_zero] at k1
    refine .nil (o5 _ _ (.region (.mv rfl ?_)))
    refine .q rfl (.add rfl rfl rfl (by omega) (by omega)) ?_
    refine .mv rfl (.nil ?_)
    refine p9 ((y + 1, s2 ++ [(x : Int)], t2 ++ [c.obj + (y : Int)], r6, s4)) _ _ ?_ ?_ ⟨rfl, rfl, rfl, rfl, rfl, rfl, rfl, trivial⟩
    ·
     refine ⟨c3, by assumption, by exact ⟨.inr (by omega)⟩, by assumption, by exact ⟨.inr (by omega)⟩, by (rw [List.length_append, List.length_append]; assumption), by omega, by omega, by omega, ?_⟩
     have hR' := hR.st rk (.cons m7 (.cons m8 (.cons (hR.neT k7 rfl) (.nil _ _))))
     exact ⟨⟨by omega, by simp; omega, by simp; omega, by simp; omega⟩, hS.snoc (by omega) (by omega), hT.snoc (by omega) (by omega), hR', hR.ne (by omega), hR.ne (by omega)⟩
    (dsimp only; omega)
   try simp only [sps] at o7
   refine .exit ?_
   refine s8 _ _ (.region (.mv rfl ?_))
   refine .q rfl (.add rfl rfl rfl (by omega) (by omega)) ?_
   refine .mv rfl (.nil ?_)
   refine p4 ((x + 1, s2, t2, d0, d2)) _ _ ?_ ?_ ⟨rfl, rfl, rfl, rfl, rfl, rfl, trivial⟩
   ·
    refine ⟨f2, by assumption, by exact g8.trans d7 (by omega), by assumption, by exact g9.trans f0 (by omega), by assumption, by assumption, by assumption, by assumption, ?_⟩
    exact ⟨⟨by omega, by omega, by omega, by omega⟩, hS, hT, hR, m7, m8⟩
   (dsimp only; omega)
  try simp only [sps] at o1
  refine .exit ?_
  refine s1 _ _ (.seq (fun K14 q2 => .region ?_))
  have ltI := GHeap.ltg aI
  refine .R rfl (.litA rfl sl_23_B ze_22_Hj rfl rfl rfl rfl) ?_
  rintro _ q0 ⟨l3, rfl, f3, ge47, o9⟩
  have nx_H47 := f3.1
  replace i := i.trans f3
  replace m := f3.2 _ _ m
  replace n := f3.2 _ _ n
  replace i4 := f3.2 _ _ i4
  replace aI := f3.2 _ _ aI
  replace aC := f3.2 _ _ aC
  replace u := f3.2 _ _ u
  replace v := f3.2 _ _ v
  replace l := f3.2 _ _ l
  have lt_at47 := GHeap.ltg o9
  replace hin := h.mono i
  replace hin1 := e.mono i
  have w : Cat.At _ g2 0 c p := ⟨Mem.of_get m, hin⟩
  have a0 : Cat.At _ g3 0 d q := ⟨Mem.of_get n, hin1⟩
  refine .mv rfl (.nil (q2 _ _ (.seq (fun K15 p1 => .seq (fun K16 q7 => .region (.mv rfl (.nil (q7 _ _ ?_))))))))
  refine .block ?_
  refine .loopR (σ := Nat × (Nat → Option Addr) × List (List Int) × Nat × Nat) [(2, some _), (3, some _), (4, some _), (5, some _), (6, some _)] (fun (f, rq, cs, j3, k5) => [(10, some (.int .i64 (f : Int))), (9, some (.slice (some ⟨j3, 0, none⟩) k5 k5))]) (fun (f, rq, cs, j3, k5) H' => St [l3] q0 H' ∧ H'.get j3 = some (.row ((slsL rq cs)) 22 true) ∧ PL j3 l3 q0.next ∧ k5 = (slsL rq cs).length ∧ (f ≤ ss.length ∧ cs.length = f) ∧ Tb (-60) 120 ss.length cs ∧ OwnL H.next H' 2 rr E.comp ∧ OwnL q0.next H' 2 rq cs) (fun (f, rq, cs, j3, k5) => ss.length - f) ((0, fun _ => none, [], _, _)) ⟨rfl, rfl, rfl, rfl, rfl, trivial⟩ ⟨rfl, rfl, trivial⟩ ?_ ?_
  ·
   refine ⟨.refl _ _, by assumption, ⟨.inl rfl⟩, by rfl, ?_⟩
   exact ⟨⟨by omega, rfl⟩, .nil _ _ _, hR.keep (.of_le (by assumption)), .nil _ _ _ _⟩
  rintro ⟨f, rq, cs, j3, k5⟩ HL3 ⟨c0, b8, i3, l7, hI⟩ KL3 q9
  refine .forget (fr' := [(10, some (.int .i64 (f : Int))), (9, some (.slice (some ⟨j3, 0, none⟩) k5 k5)), (2, some _), (3, some _), (4, some _), (5, some _), (6, some _)]) ⟨rfl, rfl, rfl, rfl, rfl, rfl, rfl, trivial⟩ ?_
  have ge_L9 : H.next ≤ j3 := i3.ge (by omega) (by omega)
  have nx_HL3 := c0.nx
  replace i := i.st c0 (fun k hk => ⟨by omega, trivial⟩)
  have f9 : NE g2 l3 := .a
  replace m := c0.s m f9.ne
  have g1 : NE g3 l3 := .a
  replace n := c0.s n g1.ne
  have g6 : NE g4 l3 := .a
  replace i4 := c0.s i4 g6.ne
  replace aI := c0.s aI
  replace aC := c0.s aC
  replace u := c0.s u
  replace v := c0.s v
  have f7 : NE g5 l3 := .a
  replace l := c0.s l f7.ne
  have lt_at_L9 := GHeap.ltg b8
  replace hin := h.mono i
  replace hin1 := e.mono i
  clear w
  have w : Cat.At _ g2 0 c p := ⟨Mem.of_get m, hin⟩
  clear a0
  have a0 : Cat.At _ g3 0 d q := ⟨Mem.of_get n, hin1⟩
  have rk := St.refl [j3] HL3
  obtain ⟨⟨hf, hcl⟩, hC, hR, hQ⟩ := hI
  have k8 := b8
  have hfl : (slsL rq cs).length = cs.length := length_slsL _ _
  refine .seq (fun K17 p8 => .seq (fun K18 p3 => .region (.mv rfl (.q rfl (.fieldAddr fo_29_1_B rfl) ?_))))
  refine .q rfl (.load on_22_B rfl (by first | assumption | exact Mem.of_get l 1 _ rfl)) ?_
  refine .q rfl (.len sl_22_A rfl) (.q rfl (.cmp rfl rfl rfl) (.nil (p3 _ _ ?_)))
  refine .cond rfl (fun p0 => ?_) (fun p0 => ?_)
  ·
   simp only [sps] at p0
   have q1 := hS f (by omega)
   have m1 := mul_bdg (a := ss.getD f 0) (b := d.obj) (A := 12) (B := 8) (by omega) (by omega)
   refine .skip ?_
   refine p8 _ _ (.seq (fun K19 o0 => ?_))
   refine .block ?_
   refine .seq (fun K20 p6 => .region ?_)
   refine .R rfl (.litA rfl sl_22_A ze_2_L rfl rfl rfl rfl) ?_
   rintro _ p2 ⟨l2, rfl, e0, ge55, l1⟩
   have nx_H55 := e0.1
   replace i := i.trans e0
   replace c0 := c0.le e0
   replace rk := rk.le e0
   replace m := e0.2 _ _ m
   replace n := e0.2 _ _ n
   replace aC := e0.2 _ _ aC
   replace u := e0.2 _ _ u
   replace v := e0.2 _ _ v
   replace l := e0.2 _ _ l
   replace b8 := e0.2 _ _ b8
   have lt_at55 := GHeap.ltg l1
   replace hin := h.mono i
   replace hin1 := e.mono i
   clear w
   have w : Cat.At _ g2 0 c p := ⟨Mem.of_get m, hin⟩
   clear a0
   have a0 : Cat.At _ g3 0 d q := ⟨Mem.of_get n, hin1⟩
   replace l1 : GHeap.get p2 l2 = some (.row (ints []) 2 true) := l1
   refine .mv rfl (.nil (p6 _ _ (.seq (fun K21 o3 => .seq (fun K22 q6 => .region (.mv rfl (.nil (q6 _ _ ?_))))))))
   refine .block ?_
   refine .loopR (σ := Nat × List Int × Nat × Nat) [(2, some _), (3, some _), (4, some _), (5, some _), (6, some _), (9, some _), (10, some _)] (fun (g, row, c5, h7) => [(12, some (.int .i64 (g : Int))), (11, some (.slice (some ⟨c5, 0, none⟩) h7 h7))]) (fun (g, row, c5, h7) H' => St [l2] p2 H' ∧ H'.get c5 = some (.row (ints row) 2 true) ∧ PL c5 l2 p2.next ∧ h7 = row.length ∧ (g ≤ ss.length ∧ row.length = g) ∧ Bd (-60) 120 row) (fun (g, row, c5, h7) => ss.length - g) ((0, [], _, _)) ⟨rfl, rfl, rfl, rfl, rfl, rfl, rfl, trivial⟩ ⟨rfl, rfl, trivial⟩ ?_ ?_
   ·
    refine ⟨.refl _ _, by assumption, ⟨.inl rfl⟩, by rfl, ?_⟩
    exact ⟨⟨by omega, rfl⟩, .nil _ _⟩
   rintro ⟨g, row, c5, h7⟩ HL4 ⟨r, a6, a5, k9, hI⟩ KL4 j6
   refine .forget (fr' := [(12, some (.int .i64 (g : Int))), (11, some (.slice (some ⟨c5, 0, none⟩) h7 h7)), (2, some _), (3, some _), (4, some _), (5, some _), (6, some _), (9, some _), (10, some _)]) ⟨rfl, rfl, rfl, rfl, rfl, rfl, rfl, rfl, rfl, trivial⟩ ?_
   have ge_L11 : H.next ≤ c5 := a5.ge (by omega) (by omega)
   have nx_HL4 := r.nx
   replace i := i.st r (fun k hk => ⟨by omega, trivial⟩)
   replace c0 := c0.sA r
   replace rk := rk.sA r
   have b0 : NE g2 l2 := .a
   replace m := r.s m b0.ne
   have b5 : NE g3 l2 := .a
   replace n := r.s n b5.ne
   replace aC := r.s aC
   replace u := r.s u
   replace v := r.s v
   replace l := r.s l
   have d8 : NE j3 l2 := .a
   replace b8 := r.s b8 d8.ne
   replace hin := h.mono i
   replace hin1 := e.mono i
   clear w
   have w : Cat.At _ g2 0 c p := ⟨Mem.of_get m, hin⟩
   obtain ⟨m0, -, -, -, -, -, -, -, -⟩ := w.get
   clear a0
   have a0 : Cat.At _ g3 0 d q := ⟨Mem.of_get n, hin1⟩
   obtain ⟨m9, -, -, -, -, -, -, -, -⟩ := a0.get
   obtain ⟨⟨hg, hrl⟩, hW⟩ := hI
   refine .seq (fun K23 o4 => .seq (fun K24 n0 => .region (.mv rfl (.q rfl (.fieldAddr fo_29_1_B rfl) ?_))))
   refine .q rfl (.load on_22_B rfl (by first | assumption | exact Mem.of_get l 1 _ rfl)) ?_
   refine .q rfl (.len sl_22_A rfl) (.q rfl (.cmp rfl rfl rfl) (.nil (n0 _ _ ?_)))
   refine .cond rfl (fun r3 => ?_) (fun r3 => ?_)
   ·
    simp only [sps] at r3
    have q4 := hT g (by omega)
    refine .skip ?_
    refine o4 _ _ (.seq (fun K25 k2 => ?_))
    refine .block ?_
    refine .seq (fun K26 q8 => .region (.mv rfl (.nil (q8 _ _ (.seq (fun K27 k3 => ?_))))))
    refine .block ?_
    refine .seq (fun K28 n7 => ?_)
    refine .regionD mo_B (.q 0 (.q 1 (.q 2 (.q 3 (.q 4 (.q 5 (.q 6 (.q 7 (.q 8 (.q 9 (.q 10 (.q 11 (.done))))))))))))) (by kernel_rfl) ?_
    refine .q rfl (.fieldAddr fo_29_2_B rfl) ?_
    refine .q rfl (.load on_22_B rfl (by first | assumption | exact Mem.of_get l 2 _ rfl)) ?_
    refine .mv rfl rfl ?_
    refine .q rfl (.idxN sl_22_A (by first | assumption | exact SlA.of_row v (by first | rfl | (simp; done) | (simp <;> omega))) rfl rfl (by omega)) ?_
    refine .q rfl (.loadI on_2_A (by first | assumption | exact Ints.of_get v) rfl (by omega)) ?_
    refine .q rfl (.fieldAddr fo_29_1_B rfl) ?_
    refine .q rfl (.load on_22_B rfl (by first | assumption | exact Mem.of_get l 1 _ rfl)) ?_
    refine .mv rfl rfl ?_
    refine .q rfl (.idxN sl_22_A (by first | assumption | exact SlA.of_row u (by first | rfl | (simp; done) | (simp <;> omega))) rfl rfl (by omega)) ?_
    refine .q rfl (.loadI on_2_A (by first | assumption | exact Ints.of_get u) rfl (by omega)) ?_
    refine .q rfl (.cmp rfl rfl rfl) (.mv rfl rfl ?_)
    refine .done ?_
    refine n7 _ _ ?_
    refine .cond rfl (fun r5 => ?_) (fun r5 => ?_)
    ·
     obtain ⟨h3, l0, n3⟩ : ∃ h3 : Int, h3 = -1 ∧ -60 ≤ h3 ∧ h3 ≤ 120 := ⟨_, rfl, by omega, by omega⟩
     refine .skip ?_
     refine k3 _ _ (.region (.mv rfl (.mv rfl ?_)))
     refine .R rfl (.litA rfl sl_22_A ze_2_L rfl rfl rfl rfl) ?_
     rintro _ H113 ⟨g113, rfl, h2, ge113, l8⟩
     replace i := i.trans h2
     replace r := r.le h2
     replace m := h2.2 _ _ m
     replace n := h2.2 _ _ n
     replace a6 := h2.2 _ _ a6
     have lt_at113 := GHeap.ltg l8
     replace hin := h.mono i
     replace hin1 := e.mono i
     clear w m0
     have w : Cat.At _ g2 0 c p := ⟨Mem.of_get m, hin⟩
     clear a0 m9
     have a0 : Cat.At _ g3 0 d q := ⟨Mem.of_get n, hin1⟩
     refine .R rfl (.appendI rfl sl_22_A ze_2_L rfl by_2_L sl_22_A rfl rfl (by assumption) (by assumption) (by first | omega | (simp <;> omega)) (by omega) (by omega)) ?_
     rintro _ H114 ⟨g114, rfl, i8, ge114, at114⟩
     replace i := i.st i8 (fun k hk => ⟨by omega, trivial⟩)
     replace r := r.sP i8
     have t : NE g2 c5 := ⟨a5.ne b0.ne (by omega)⟩
     replace m := i8.s m t.ne
     have o : NE g3 c5 := ⟨a5.ne b5.ne (by omega)⟩
     replace n := i8.s n o.ne
     replace hin := h.mono i
     replace hin1 := e.mono i
     clear w
     have w : Cat.At _ g2 0 c p := ⟨Mem.of_get m, hin⟩
     clear a0
     have a0 : Cat.At _ g3 0 d q := ⟨Mem.of_get n, hin1⟩
     refine .mv rfl (.nil (k2 _ _ (.region (.mv rfl ?_))))
     refine .q rfl (.add rfl rfl rfl (by omega) (by omega)) ?_
     refine .mv rfl (.nil ?_)
     refine j6 ((g + 1, row ++ [h3], _, _)) _ _ ?_ ?_ ⟨rfl, rfl, rfl, rfl, rfl, rfl, rfl, rfl, rfl, trivial⟩
     ·
      refine ⟨r, by (rw [l0]; assumption), by exact ⟨.inr (by omega)⟩, by (simp only [List.length_append, List.length_cons, List.length_nil] <;> omega), ?_⟩
      exact ⟨⟨by omega, by simp; omega⟩, hW.snoc (by omega) (by omega)⟩
     (dsimp only; omega)
    try simp only [sps] at r5
    refine .seq (fun K29 l9 => .region (.mv rfl (.mv rfl (.q rfl (.cmp rfl rfl rfl) (.mv rfl ?_)))))
    refine .split (fun r8 => ?_) (fun r8 => ?_)
    ·
     simp only [sps] at r8
     refine .qg rfl (.move rfl) (.qg rfl (.move rfl) (.qg rfl (.cmp rfl rfl rfl) (.q rfl (.pickT rfl rfl) (.mv rfl (.nil (l9 _ _ ?_))))))
     refine .cond rfl (fun r4 => ?_) (fun r4 => ?_)
     ·
      simp only [sps] at r4
      have n1 := s3 f (by omega) g (by omega)
      have n2 := e9 f (by omega)
      obtain ⟨h3, l0, n3⟩ : ∃ h3 : Int, h3 = (E.comp.getD f []).getD g 0 ∧ -60 ≤ h3 ∧ h3 ≤ 120 := ⟨_, rfl, by omega, by omega⟩
      refine .region ?_
      have iE := (hR.st rk (.cons (hR.neT k8 rfl) (.nil _ _))).intss aC (by omega)
      have u1 := iE.2 f (by omega)
      refine .q rfl (.fieldAddr fo_29_4_B rfl) ?_
      refine .q rfl (.load on_23_B rfl (by first | assumption | exact Mem.of_get l 4 _ rfl)) ?_
      refine .mv rfl ?_
      refine .q rfl (.idxN sl_23_B (by first | exact (Intss.sl (by assumption)) | exact SlA.of_row aC (by first | rfl | (simp; done) | (simp <;> omega))) rfl rfl (by omega)) ?_
      refine .q rfl (.loadR on_22_B (by assumption) rfl (by omega)) ?_
      refine .mv rfl ?_
      refine .q rfl (.idxN sl_22_A (by assumption) rfl rfl (by omega)) ?_
      refine .q rfl (.loadI on_2_A (by assumption) rfl (by omega)) ?_
      refine .mv rfl (.nil (k3 _ _ (.region (.mv rfl (.mv rfl ?_)))))
      refine .R rfl (.litA rfl sl_22_A ze_2_L rfl rfl rfl rfl) ?_
      rintro _ H113x2 ⟨g113x2, rfl, c8, ge113x2, j9⟩
      replace i := i.trans c8
      replace r := r.le c8
      replace m := c8.2 _ _ m
      replace n := c8.2 _ _ n
      replace a6 := c8.2 _ _ a6
      have lt_at113x2 := GHeap.ltg j9
      replace hin := h.mono i
      replace hin1 := e.mono i
      have w : Cat.At _ g2 0 c p := ⟨Mem.of_get m, hin⟩
      have a0 : Cat.At _ g3 0 d q := ⟨Mem.of_get n, hin1⟩
      refine .R rfl (.appendI rfl sl_22_A ze_2_L rfl by_2_L sl_22_A rfl rfl (by assumption) (by assumption) (by first | omega | (simp <;> omega)) (by omega) (by omega)) ?_
      rintro _ H114x2 ⟨g114x2, rfl, d4, ge114x2, at114x2⟩
      replace i := i.st d4 (fun k hk => ⟨by omega, trivial⟩)
      replace r := r.sP d4
      have t : NE g2 c5 := ⟨a5.ne b0.ne (by omega)⟩
      replace m := d4.s m t.ne
      have o : NE g3 c5 := ⟨a5.ne b5.ne (by omega)⟩
      replace n := d4.s n o.ne
      replace hin := h.mono i
      replace hin1 := e.mono i
      clear w
      have w : Cat.At _ g2 0 c p := ⟨Mem.of_get m, hin⟩
      clear a0
      have a0 : Cat.At _ g3 0 d q := ⟨Mem.of_get n, hin1⟩
      refine .mv rfl (.nil (k2 _ _ (.region (.mv rfl ?_))))
      refine .q rfl (.add rfl rfl rfl (by omega) (by omega)) ?_
      refine .mv rfl (.nil ?_)
      refine j6 ((g + 1, row ++ [h3], _, _)) _ _ ?_ ?_ ⟨rfl, rfl, rfl, rfl, rfl, rfl, rfl, rfl, rfl, trivial⟩
      ·
       refine ⟨r, by (rw [l0]; assumption), by exact ⟨.inr (by omega)⟩, by (simp only [List.length_append, List.length_cons, List.length_nil] <;> omega), ?_⟩
       exact ⟨⟨by omega, by simp; omega⟩, hW.snoc (by omega) (by omega)⟩
      (dsimp only; omega)
     obtain ⟨h3, l0, n3⟩ : ∃ h3 : Int, h3 = (E.src.length : Int) + ss.getD f 0 * d.obj + ts.getD g 0 - c.obj ∧ -60 ≤ h3 ∧ h3 ≤ 120 := ⟨_, rfl, by omega, by omega⟩
     refine .regionD mo_B (.q 0 (.q 1 (.q 2 (.q 3 (.q 4 (.q 5 (.q 6 (.q 7 (.q 8 (.q 9 (.q 10 (.q 11 (.q 12 (.q 13 (.q 14 (.q 15 (.q 16 (.q 17 (.q 18 (.q 19 (.done))))))))))))))))))))) (by kernel_rfl) ?_
     refine .mv rfl rfl (.q rfl (.fieldAddr fo_29_1_B rfl) ?_)
     refine .q rfl (.load on_22_B rfl (by first | assumption | exact Mem.of_get l 1 _ rfl)) ?_
     refine .mv rfl rfl ?_
     refine .q rfl (.idxN sl_22_A (by first | assumption | exact SlA.of_row u (by first | rfl | (simp; done) | (simp <;> omega))) rfl rfl (by omega)) ?_
     refine .q rfl (.loadI on_2_A (by first | assumption | exact Ints.of_get u) rfl (by omega)) ?_
     refine .q rfl (.fieldAddr fo_29_0_B rfl) ?_
     refine .q rfl (.load on_2_A rfl (by first | assumption | exact Mem.of_get n 0 _ rfl)) ?_
     refine .q rfl (.mul rfl rfl rfl (by omega) (by omega)) ?_
     refine .q rfl (.add rfl rfl rfl (by omega) (by omega)) ?_
     refine .q rfl (.fieldAddr fo_29_2_B rfl) ?_
     refine .q rfl (.load on_22_B rfl (by first | assumption | exact Mem.of_get l 2 _ rfl)) ?_
     refine .mv rfl rfl ?_
     refine .q rfl (.idxN sl_22_A (by first | assumption | exact SlA.of_row v (by first | rfl | (simp; done) | (simp <;> omega))) rfl rfl (by omega)) ?_
     refine .q rfl (.loadI on_2_A (by first | assumption | exact Ints.of_get v) rfl (by omega)) ?_
     refine .q rfl (.add rfl rfl rfl (by omega) (by omega)) ?_
     refine .q rfl (.fieldAddr fo_29_0_B rfl) ?_
     refine .q rfl (.load on_2_A rfl (by first | assumption | exact Mem.of_get m 0 _ rfl)) ?_
     refine .q rfl (.sub rfl rfl rfl (by omega) (by omega)) ?_
     refine .mv rfl rfl ?_
     refine .done ?_
     refine k3 _ _ (.region (.mv rfl (.mv rfl ?_)))
     refine .R rfl (.litA rfl sl_22_A ze_2_L rfl rfl rfl rfl) ?_
     rintro _ H113x3 ⟨g113x3, rfl, c7, ge113x3, j7⟩
     replace i := i.trans c7
     replace r := r.le c7
     replace m := c7.2 _ _ m
     replace n := c7.2 _ _ n
     replace a6 := c7.2 _ _ a6
     have lt_at113x3 := GHeap.ltg j7
     replace hin := h.mono i
     replace hin1 := e.mono i
     have w : Cat.At _ g2 0 c p := ⟨Mem.of_get m, hin⟩
     have a0 : Cat.At _ g3 0 d q := ⟨Mem.of_get n, hin1⟩
     refine .R rfl (.appendI rfl sl_22_A ze_2_L rfl by_2_L sl_22_A rfl rfl (by assumption) (by assumption) (by first | omega | (simp <;> omega)) (by omega) (by omega)) ?_
     rintro _ H114x3 ⟨g114x3, rfl, d5, ge114x3, at114x3⟩
     replace i := i.st d5 (fun k hk => ⟨by omega, trivial⟩)
     replace r := r.sP d5
     have t : NE g2 c5 := ⟨a5.ne b0.ne (by omega)⟩
     replace m := d5.s m t.ne
     have o : NE g3 c5 := ⟨a5.ne b5.ne (by omega)⟩
     replace n := d5.s n o.ne
     replace hin := h.mono i
     replace hin1 := e.mono i
     clear w
     have w : Cat.At _ g2 0 c p := ⟨Mem.of_get m, hin⟩
     clear a0
     have a0 : Cat.At _ g3 0 d q := ⟨Mem.of_get n, hin1⟩
     refine .mv rfl (.nil (k2 _ _ (.region (.mv rfl ?_))))
     refine .q rfl (.add rfl rfl rfl (by omega) (by omega)) ?_
     refine .mv rfl (.nil ?_)
     refine j6 ((g + 1, row ++ [h3], _, _)) _ _ ?_ ?_ ⟨rfl, rfl, rfl, rfl, rfl, rfl, rfl, rfl, rfl, trivial⟩
     ·
      refine ⟨r, by (rw [l0]; assumption), by exact ⟨.inr (by omega)⟩, by (simp only [List.length_append, List.length_cons, List.length_nil] <;> omega), ?_⟩
      exact ⟨⟨by omega, by simp; omega⟩, hW.snoc (by omega) (by omega)⟩
     (dsimp only; omega)
    obtain ⟨h3, l0, n3⟩ : ∃ h3 : Int, h3 = (E.src.length : Int) + ss.getD f 0 * d.obj + ts.getD g 0 - c.obj ∧ -60 ≤ h3 ∧ h3 ≤ 120 := ⟨_, rfl, by omega, by omega⟩
    refine .z rfl (.z rfl (.z rfl (.q rfl (.pickF rfl rfl) (.mv rfl (.nil (l9 _ _ ?_))))))
    refine .condF rfl ?_
    refine .regionD mo_B (.q 0 (.q 1 (.q 2 (.q 3 (.q 4 (.q 5 (.q 6 (.q 7 (.q 8 (.q 9 (.q 10 (.q 11 (.q 12 (.q 13 (.q 14 (.q 15 (.q 16 (.q 17 (.q 18 (.q 19 (.done))))))))))))))))))))) (by kernel_rfl) ?_
    refine .mv rfl rfl (.q rfl (.fieldAddr fo_29_1_B rfl) ?_)
    refine .q rfl (.load on_22_B rfl (by first | assumption | exact Mem.of_get l 1 _ rfl)) ?_
    refine .mv rfl rfl ?_
    refine .q rfl (.idxN sl_22_A (by first | assumption | exact SlA.of_row u (by first | rfl | (simp; done) | (simp <;> omega))) rfl rfl (by omega)) ?_
    refine .q rfl (.loadI on_2_A (by first | assumption | exact Ints.of_get u) rfl (by omega)) ?_
    refine .q rfl (.fieldAddr fo_29_0_B rfl) ?_
    refine .q rfl (.load on_2_A rfl (by first | assumption | exact Mem.of_get n 0 _ rfl)) ?_
    refine .q rfl (.mul rfl rfl rfl (by omega) (by omega)) ?_
    refine .q rfl (.add rfl rfl rfl (by omega) (by omega)) ?_
    refine .q rfl (.fieldAddr fo_29_2_B rfl) ?_
    refine .q rfl (.load on_22_B rfl (by first | assumption | exact Mem.of_get l 2 _ rfl)) ?_
    refine .mv rfl rfl ?_
    refine .q rfl (.idxN sl_22_A (by first | assumption | exact SlA.of_row v (by first | rfl | (simp; done) | (simp <;> omega))) rfl rfl (by omega)) ?_
    refine .q rfl (.loadI on_2_A (by first | assumption | exact Ints.of_get v) rfl (by omega)) ?_
    refine .q rfl (.add rfl rfl rfl (by omega) (by omega)) ?_
    refine .q rfl (.fieldAddr fo_29_0_B rfl) ?_
    refine .q rfl (.load on_2_A rfl (by first | assumption | exact Mem.of_get m 0 _ rfl)) ?_
    refine .q rfl (.sub rfl rfl rfl (by omega) (by omega)) ?_
    refine .mv rfl rfl ?_
    refine .done ?_
    refine k3 _ _ (.region (.mv rfl (.mv rfl ?_)))
    refine .R rfl (.litA rfl sl_22_A ze_2_L rfl rfl rfl rfl) ?_
    rintro _ H113x4 ⟨g113x4, rfl, c9, ge113x4, j8⟩
    replace i := i.trans c9
    replace r := r.le c9
    replace m := c9.2 _ _ m
    replace n := c9.2 _ _ n
    replace a6 := c9.2 _ _ a6
    have lt_at113x4 := GHeap.ltg j8
    replace hin := h.mono i
    replace hin1 := e.mono i
    have w : Cat.At _ g2 0 c p := ⟨Mem.of_get m, hin⟩
    have a0 : Cat.At _ g3 0 d q := ⟨Mem.of_get n, hin1⟩
    refine .R rfl (.appendI rfl sl_22_A ze_2_L rfl by_2_L sl_22_A rfl rfl (by assumption) (by assumption) (by first | omega | (simp <;> omega)) (by omega) (by omega)) ?_
    rintro _ H114x4 ⟨g114x4, rfl, d3, ge114x4, at114x4⟩
    replace i := i.st d3 (fun k hk => ⟨by omega, trivial⟩)
    replace r := r.sP d3
    have t : NE g2 c5 := ⟨a5.ne b0.ne (by omega)⟩
    replace m := d3.s m t.ne
    have o : NE g3 c5 := ⟨a5.ne b5.ne (by omega)⟩
    replace n := d3.s n o.ne
    replace hin := h.mono i
    replace hin1 := e.mono i
    clear w
    have w : Cat.At _ g2 0 c p := ⟨Mem.of_get m, hin⟩
    clear a0
    have a0 : Cat.At _ g3 0 d q := ⟨Mem.of_get n, hin1⟩
    refine .mv rfl (.nil (k2 _ _ (.region (.mv rfl ?_))))
    refine .q rfl (.add rfl rfl rfl (by omega) (by omega)) ?_
    refine .mv rfl (.nil ?_)
    refine j6 ((g + 1, row ++ [h3], _, _)) _ _ ?_ ?_ ⟨rfl, rfl, rfl, rfl, rfl, rfl, rfl, rfl, rfl, trivial⟩
    ·
     refine ⟨r, by (rw [l0]; assumption), by exact ⟨.inr (by omega)⟩, by (simp only [List.length_append, List.length_cons, List.length_nil] <;> omega), ?_⟩
     exact ⟨⟨by omega, by simp; omega⟩, hW.snoc (by omega) (by omega)⟩
    (dsimp only; omega)
   try simp only [sps] at r3
   refine .exit ?_
   refine o3 _ _ (.region ?_)
   obtain rfl : g = ss.length := by omega
   obtain rfl := k9
   refine .mv rfl (.mv rfl ?_)
   refine .R rfl (.litA rfl sl_23_B ze_22_Hj rfl rfl rfl rfl) ?_
   rintro _ H117 ⟨g117, rfl, d9, ge117, m2⟩
   replace i := i.trans d9
   replace c0 := c0.le d9
   replace rk := rk.le d9
   replace m := d9.2 _ _ m
   replace n := d9.2 _ _ n
   replace b8 := d9.2 _ _ b8
   replace a6 := d9.2 _ _ a6
   have lt_at117 := GHeap.ltg m2
   replace hin := h.mono i
   replace hin1 := e.mono i
   have w : Cat.At _ g2 0 c p := ⟨Mem.of_get m, hin⟩
   have a0 : Cat.At _ g3 0 d q := ⟨Mem.of_get n, hin1⟩
   refine .R rfl (.appendV rfl sl_23_B ze_22_Hj rfl by_22_Hj sl_23_B rfl rfl (by assumption) (by assumption) (by first | omega | (simp <;> omega)) rfl rfl (by omega) (by omega)) ?_
   rintro _ H118 ⟨g118, rfl, g0, ge118, at118⟩
   replace i := i.st g0 (fun k hk => ⟨by omega, trivial⟩)
   replace c0 := c0.sP g0
   replace rk := rk.sP g0
   replace m := g0.same _ _ ⟨(i3.ne f9.ne (by omega)), trivial⟩ m
   replace n := g0.same _ _ ⟨(i3.ne g1.ne (by omega)), trivial⟩ n
   replace a6 := g0.same _ _ ⟨(Ne.symm (a5.ne d8.ne (by omega))), trivial⟩ a6
   replace hin := h.mono i
   replace hin1 := e.mono i
   clear w
   have w : Cat.At _ g2 0 c p := ⟨Mem.of_get m, hin⟩
   clear a0
   have a0 : Cat.At _ g3 0 d q := ⟨Mem.of_get n, hin1⟩
   refine .mv rfl (.nil (o0 _ _ (.region (.mv rfl ?_))))
   refine .q rfl (.add rfl rfl rfl (by omega) (by omega)) ?_
   refine .mv rfl (.nil ?_)
   refine q9 ((f + 1, upd rq cs.length (some ⟨c5, 0, none⟩), cs ++ [row], _, _)) _ _ ?_ ?_ ⟨rfl, rfl, rfl, rfl, rfl, rfl, rfl, trivial⟩
   ·
    refine ⟨c0, by (rw [slsL_snoc]; assumption), by exact ⟨.inr (by omega)⟩, by (rw [slsL_snoc] <;> (first | omega | (simp only [List.length_append, List.length_cons, List.length_nil] <;> omega))), ?_⟩
    have hR' := hR.st rk (.cons (hR.neT k8 rfl) (.nil _ _))
    have hQ' := hQ.st rk (.cons (hQ.neT k8 rfl) (.nil _ _))
    exact ⟨⟨by omega, by simp; omega⟩, hC.snoc (by omega) hW, hR', hQ'.snoc2 (by assumption) (hQ.ne (a5.ge (by omega) (by omega))) (a5.ge (by omega) (by omega))⟩
   (dsimp only; omega)
  try simp only [sps] at p0
  refine .exit ?_
  refine p1 _ _ (.seq (fun K30 p5 => .region ?_))
  obtain rfl : f = ss.length := by omega
  have k7 := l
  refine .mv rfl (.q rfl (.fieldAddr fo_29_4_B rfl) ?_)
  refine .r0 rfl rfl (.storeR rfl sz_23_Ch rfl rfl rfl (by assumption) (by first | exact Nat.le_of_ble_eq_true rfl | (simp; done) | (simp <;> omega))) ?_
  rintro _ H26002 ⟨rfl, a7, i9⟩
  replace i := i.st a7 (fun k hk => ⟨by omega, trivial⟩)
  replace m := a7.s m b7.ne
  replace n := a7.s n b6.ne
  replace i4 := a7.s i4 f1.ne
  replace aI := a7.s aI d6.ne
  replace u := a7.same _ _ ⟨l6, trivial⟩ u
  replace v := a7.same _ _ ⟨m3, trivial⟩ v
  replace b8 := a7.same _ _ ⟨(Ne.symm (i3.ne f7.ne (by omega))), trivial⟩ b8
  replace hin := h.mono i
  replace hin1 := e.mono i
  have w : Cat.At _ g2 0 c p := ⟨Mem.of_get m, hin⟩
  have a0 : Cat.At _ g3 0 d q := ⟨Mem.of_get n, hin1⟩
  try simp only [Nat.zero_add, List.set_cons_succ, List.set_cons_zero] at i9
  refine .nil (p5 _ _ (.seq (fun K31 q3 => .region ?_)))
  have q5 := i4
  refine .q rfl (.loadM ag_29_D rfl ⟨rfl, Mem.of_get i9⟩) ?_
  refine .r0 rfl rfl (.fillA rfl sz_29_D rfl rfl rfl rfl) ?_
  rintro _ H27001 ⟨rfl, a8, j5⟩
  replace i := i.st a8 (fun k hk => ⟨by omega, trivial⟩)
  replace m := a8.s m
  replace n := a8.s n
  replace aI := a8.s aI
  replace u := a8.same _ _ ⟨(Ne.symm (d7.ne i1.ne (by omega))), trivial⟩ u
  replace v := a8.same _ _ ⟨(Ne.symm (f0.ne h5.ne (by omega))), trivial⟩ v
  replace b8 := a8.same _ _ ⟨(Ne.symm (i3.ne g6.ne (by omega))), trivial⟩ b8
  replace hin := h.mono i
  replace hin1 := e.mono i
  clear w
  have w : Cat.At _ g2 0 c p := ⟨Mem.of_get m, hin⟩
  clear a0
  have a0 : Cat.At _ g3 0 d q := ⟨Mem.of_get n, hin1⟩
  refine .nil (q3 _ _ ?_)
  refine .ret ?_
  refine o8 _ _ ?_
  refine ⟨_, _, _, _, rfl, ag_29_D, (by rfl), (Mem.of_get j5), ?_⟩
  have hx4 : gLF ≠ gI := d7.ne' (by omega) (by omega)
  have hx5 : gLT ≠ gI := f0.ne' (by omega) (by omega)
  have r9 := hQ.st a7 (.cons (hQ.neT k7 rfl) (.nil _ _))
  have t4 := r9.st a8 (.cons (r9.neT q5 rfl) (.nil _ _))
  exact ⟨⟨E.obj, ss, ts, E.idn, cs⟩, rect_mk (by omega) (by omega) hts (hS.mono (by omega) (by omega)) (hT.mono (by omega) (by omega)) e6 (Bd.mono (show Bd 0 12 E.idn from e7) (by omega) (by omega)) (by omega) (hC.mono (by omega) (by omega)), i, gLF, gLT, gI, j3, rq, by simp [Cat.cells, ownP, l7], ⟨u, v, aI, b8, by omega, by omega, by omega, by omega, by omega, by omega, by omega, t4.low (by omega), hQ.lowNe (by omega), hQ.lowNe (by omega), hQ.lowNe (by omega)⟩⟩
end Go.Proofs.Ytjdedelneppnlaa
namespace Go.Proofs.Ytjdedelneppnlaa
open Go Go.GL Go.RowKit Go.Proofs
set_option maxHeartbeats 8000000 in
theorem l02Monoid_c {gS : Nat} {H : GHeap} (hs : DSrc 120 H gS := by assumption) :
    GCalls Try.prog 149 [.pointer (some ⟨gS, 0, none⟩)] H (NewTab 120 gS H) := by
  refine GCalls.body (N := 48) (rs := [.tmp 2]) Try.func149 rfl rfl rfl rfl (fun Qx g hend => ?_)
  refine .fg [0] rfl ?_
  have a := St.refl [gS] H
  refine .seq (fun K1 i1 => .region (.mv rfl (.nil (i1 _ _ (.seq (fun K2 h4 => .seq (fun K3 i0 => .region (.mv rfl ?_))))))))
  refine .call rfl rfl rfl rfl @Try.call70 rfl (l01Next_c) ?_
  rintro _ H4 ⟨k4, rfl, ka4, kb4, kc4, e8, hs⟩
  have nx_H4 := e8.nx
  replace a := a.sA e8
  refine .nil (i0 _ _ ?_)
  refine .block ?_
  refine .seq (fun K4 h3 => .region (.q rfl (.cmp rfl rfl rfl) (.mv rfl (.nil (h3 _ _ ?_)))))
  refine .cond rfl (fun h5 => ?_) (fun h5 => ?_)
  ·
   try simp only [sps] at h5
   refine .seq (fun K5 h2 => .region ?_)
   refine .R rfl (.litA rfl sl_22_A ze_2_L rfl rfl rfl rfl) ?_
   rintro _ H7 ⟨g7, rfl, g4, ge7, c5⟩
   replace a := a.le g4
   replace hs := hs.le g4
   have lt_at7 := GHeap.ltg c5
   refine .R rfl (.litA rfl sl_23_B ze_22_Hj rfl rfl rfl rfl) ?_
   rintro _ H8 ⟨g8, rfl, c8, ge8, i3⟩
   replace a := a.le c8
   replace hs := hs.le c8
   replace c5 := c8.2 _ _ c5
   refine .mv rfl (.nil (h2 _ _ ?_))
   refine .ret ?_
   refine g _ _ ?_
   refine ⟨_, rfl, ?_⟩
   exact ⟨_, [[0]], fun i => some ⟨List.getD [g7] i 0, 0, none⟩, rfl, (lit_own (gs := [g7]) (by simp only [LitAt]; exact ⟨⟨by omega, c5⟩, trivial⟩) (by simp <;> omega)).done (by exact i3) (by omega), by decide, by unfold Tb Bd; decide, a, hs⟩
  try simp only [sps] at h5
  refine .seq (fun K6 h6 => .region (.q rfl (.cmp rfl rfl rfl) (.mv rfl (.nil (h6 _ _ ?_)))))
  refine .cond rfl (fun h9 => ?_) (fun h9 => ?_)
  ·
   try simp only [sps] at h9
   refine .seq (fun K7 i2 => .region ?_)
   refine .R rfl (.litA rfl sl_22_A ze_2_L rfl rfl rfl rfl) ?_
   rintro _ H11 ⟨f8, rfl, b8, ge11, p⟩
   replace a := a.le b8
   replace hs := hs.le b8
   have lt_at11 := GHeap.ltg p
   refine .R rfl (.litA rfl sl_22_A ze_2_L rfl rfl rfl rfl) ?_
   rintro _ H12 ⟨f7, rfl, b6, ge12, a5⟩
   replace a := a.le b6
   replace hs := hs.le b6
   replace p := b6.2 _ _ p
   have lt_at12 := GHeap.ltg a5
   refine .R rfl (.litA rfl sl_23_B ze_22_Hj rfl rfl rfl rfl) ?_
   rintro _ H13 ⟨g13, rfl, a9, ge13, d2⟩
   replace a := a.le a9
   replace hs := hs.le a9
   replace p := a9.2 _ _ p
   replace a5 := a9.2 _ _ a5
   refine .mv rfl (.nil (i2 _ _ ?_))
   refine .ret ?_
   refine g _ _ ?_
   refine ⟨_, rfl, ?_⟩
   exact ⟨_, [[0, 1], [1, 0]], fun i => some ⟨List.getD [f8, f7] i 0, 0, none⟩, rfl, (lit_own (gs := [f8, f7]) (by simp only [LitAt]; exact ⟨⟨by omega, p⟩, ⟨by omega, a5⟩, trivial⟩) (by simp <;> omega)).done (by exact d2) (by omega), by decide, by unfold Tb Bd; decide, a, hs⟩
  try simp only [sps] at h9
  refine .seq (fun K8 h7 => .region (.q rfl (.cmp rfl rfl rfl) (.mv rfl (.nil (h7 _ _ ?_)))))
  refine .cond rfl (fun e3 => ?_) (fun e3 => ?_)
  ·
   try simp only [sps] at e3
   refine .seq (fun K9 h8 => .region ?_)
   refine .R rfl (.litA rfl sl_22_A ze_2_L rfl rfl rfl rfl) ?_
   rintro _ H16 ⟨f5, rfl, c2, ge16, m⟩
   replace a := a.le c2
   replace hs := hs.le c2
   have lt_at16 := GHeap.ltg m
   refine .R rfl (.litA rfl sl_22_A ze_2_L rfl rfl rfl rfl) ?_
   rintro _ H17 ⟨g0, rfl, b2, ge17, a4⟩
   replace a := a.le b2
   replace hs := hs.le b2
   replace m := b2.2 _ _ m
   have lt_at17 := GHeap.ltg a4
   refine .R rfl (.litA rfl sl_23_B ze_22_Hj rfl rfl rfl rfl) ?_
   rintro _ H18 ⟨g18, rfl, y, ge18, e5⟩
   replace a := a.le y
   replace hs := hs.le y
   replace m := y.2 _ _ m
   replace a4 := y.2 _ _ a4
   refine .mv rfl (.nil (h8 _ _ ?_))
   refine .ret ?_
   refine g _ _ ?_
   refine ⟨_, rfl, ?_⟩
   exact ⟨_, [[0, 1], [1, 1]], fun i => some ⟨List.getD [f5, g0] i 0, 0, none⟩, rfl, (lit_own (gs := [f5, g0]) (by simp only [LitAt]; exact ⟨⟨by omega, m⟩, ⟨by omega, a4⟩, trivial⟩) (by simp <;> omega)).done (by exact e5) (by omega), by decide, by unfold Tb Bd; decide, a, hs⟩
  try simp only [sps] at e3
  refine .seq (fun K10 d3 => .region (.q rfl (.cmp rfl rfl rfl) (.mv rfl (.nil (d3 _ _ ?_)))))
  refine .cond rfl (fun c7 => ?_) (fun c7 => ?_)
  ·
   try simp only [sps] at c7
   refine .seq (fun K11 e0 => .region ?_)
   refine .R rfl (.litA rfl sl_22_A ze_2_L rfl rfl rfl rfl) ?_
   rintro _ H21 ⟨h0, rfl, c1, ge21, e⟩
   replace a := a.le c1
   replace hs := hs.le c1
   have lt_at21 := GHeap.ltg e
   refine .R rfl (.litA rfl sl_22_A ze_2_L rfl rfl rfl rfl) ?_
   rintro _ H22 ⟨g9, rfl, b3, ge22, o⟩
   replace a := a.le b3
   replace hs := hs.le b3
   replace e := b3.2 _ _ e
   have lt_at22 := GHeap.ltg o
   refine .R rfl (.litA rfl sl_22_A ze_2_L rfl rfl rfl rfl) ?_
   rintro _ H23 ⟨g6, rfl, a7, ge23, a8⟩
   replace a := a.le a7
   replace hs := hs.le a7
   replace e := a7.2 _ _ e
   replace o := a7.2 _ _ o
   have lt_at23 := GHeap.ltg a8
   refine .R rfl (.litA rfl sl_23_B ze_22_Hj rfl rfl rfl rfl) ?_
   rintro _ H24 ⟨g24, rfl, t, ge24, d8⟩
   replace a := a.le t
   replace hs := hs.le t
   replace e := t.2 _ _ e
   replace o := t.2 _ _ o
   replace a8 := t.2 _ _ a8
   refine .mv rfl (.nil (e0 _ _ ?_))
   refine .ret ?_
   refine g _ _ ?_
   refine ⟨_, rfl, ?_⟩
   exact ⟨_, [[0, 1, 2], [1, 2, 0], [2, 0, 1]], fun i => some ⟨List.getD [h0, g9, g6] i 0, 0, none⟩, rfl, (lit_own (gs := [h0, g9, g6]) (by simp only [LitAt]; exact ⟨⟨by omega, e⟩, ⟨by omega, o⟩, ⟨by omega, a8⟩, trivial⟩) (by simp <;> omega)).done (by exact d8) (by omega), by decide, by unfold Tb Bd; decide, a, hs⟩
  try simp only [sps] at c7
  refine .seq (fun K12 d0 => .region (.q rfl (.cmp rfl rfl rfl) (.mv rfl (.nil (d0 _ _ ?_)))))
  refine .cond rfl (fun d1 => ?_) (fun d1 => ?_)
  ·
   try simp only [sps] at d1
   refine .seq (fun K13 c9 => .region ?_)
   refine .R rfl (.litA rfl sl_22_A ze_2_L rfl rfl rfl rfl) ?_
   rintro _ H27 ⟨f2, rfl, b9, ge27, d⟩
   replace a := a.le b9
   replace hs := hs.le b9
   have lt_at27 := GHeap.ltg d
   refine .R rfl (.litA rfl sl_22_A ze_2_L rfl rfl rfl rfl) ?_
   rintro _ H28 ⟨e9, rfl, b7, ge28, k⟩
   replace a := a.le b7
   replace hs := hs.le b7
   replace d := b7.2 _ _ d
   have lt_at28 := GHeap.ltg k
   refine .R rfl (.litA rfl sl_22_A ze_2_L rfl rfl rfl rfl) ?_
   rintro _ H29 ⟨g1, rfl, z, ge29, x⟩
   replace a := a.le z
   replace hs := hs.le z
   replace d := z.2 _ _ d
   replace k := z.2 _ _ k
   have lt_at29 := GHeap.ltg x
   refine .R rfl (.litA rfl sl_23_B ze_22_Hj rfl rfl rfl rfl) ?_
   rintro _ H30 ⟨g30, rfl, s, ge30, d4⟩
   replace a := a.le s
   replace hs := hs.le s
   replace d := s.2 _ _ d
   replace k := s.2 _ _ k
   replace x := s.2 _ _ x
   refine .mv rfl (.nil (c9 _ _ ?_))
   refine .ret ?_
   refine g _ _ ?_
   refine ⟨_, rfl, ?_⟩
   exact ⟨_, [[0, 1, 2], [1, 1, 2], [2, 2, 2]], fun i => some ⟨List.getD [f2, e9, g1] i 0, 0, none⟩, rfl, (lit_own (gs := [f2, e9, g1]) (by simp only [LitAt]; exact ⟨⟨by omega, d⟩, ⟨by omega, k⟩, ⟨by omega, x⟩, trivial⟩) (by simp <;> omega)).done (by exact d4) (by omega), by decide, by unfold Tb Bd; decide, a, hs⟩
  try simp only [sps] at d1
  refine .seq (fun K14 e2 => .region (.q rfl (.cmp rfl rfl rfl) (.mv rfl (.nil (e2 _ _ ?_)))))
  refine .cond rfl (fun d6 => ?_) (fun d6 => ?_)
  ·
   try simp only [sps] at d6
   refine .seq (fun K15 d7 => .region ?_)
   refine .R rfl (.litA rfl sl_22_A ze_2_L rfl rfl rfl rfl) ?_
   rintro _ H33 ⟨g3, rfl, c4, ge33, h⟩
   replace a := a.le c4
   replace hs := hs.le c4
   have lt_at33 := GHeap.ltg h
   refine .R rfl (.litA rfl sl_22_A ze_2_L rfl rfl rfl rfl) ?_
   rintro _ H34 ⟨f1, rfl, b1, ge34, l⟩
   replace a := a.le b1
   replace hs := hs.le b1
   replace h := b1.2 _ _ h
   have lt_at34 := GHeap.ltg l
   refine .R rfl (.litA rfl sl_22_A ze_2_L rfl rfl rfl rfl) ?_
   rintro _ H35 ⟨f6, rfl, a1, ge35, a0⟩
   replace a := a.le a1
   replace hs := hs.le a1
   replace h := a1.2 _ _ h
   replace l := a1.2 _ _ l
   have lt_at35 := GHeap.ltg a0
   refine .R rfl (.litA rfl sl_23_B ze_22_Hj rfl rfl rfl rfl) ?_
   rintro _ H36 ⟨g36, rfl, v, ge36, e7⟩
   replace a := a.le v
   replace hs := hs.le v
   replace h := v.2 _ _ h
   replace l := v.2 _ _ l
   replace a0 := v.2 _ _ a0
   refine .mv rfl (.nil (d7 _ _ ?_))
   refine .ret ?_
   refine g _ _ ?_
   refine ⟨_, rfl, ?_⟩
   exact ⟨_, [[0, 1, 2], [1, 1, 2], [2, 1, 2]], fun i => some ⟨List.getD [g3, f1, f6] i 0, 0, none⟩, rfl, (lit_own (gs := [g3, f1, f6]) (by simp only [LitAt]; exact ⟨⟨by omega, h⟩, ⟨by omega, l⟩, ⟨by omega, a0⟩, trivial⟩) (by simp <;> omega)).done (by exact e7) (by omega), by decide, by unfold Tb Bd; decide, a, hs⟩
  try simp only [sps] at d6
  refine .seq (fun K16 e4 => .region (.q rfl (.cmp rfl rfl rfl) (.mv rfl (.nil (e4 _ _ ?_)))))
  refine .cond rfl (fun e6 => ?_) (fun e6 => ?_)
  ·
   try simp only [sps] at e6
   refine .seq (fun K17 e1 => .region ?_)
   refine .R rfl (.litA rfl sl_22_A ze_2_L rfl rfl rfl rfl) ?_
   rintro _ H39 ⟨f0, rfl, c0, ge39, b⟩
   replace a := a.le c0
   replace hs := hs.le c0
   have lt_at39 := GHeap.ltg b
   refine .R rfl (.litA rfl sl_22_A ze_2_L rfl rfl rfl rfl) ?_
   rintro _ H40 ⟨h1, rfl, b4, ge40, f⟩
   replace a := a.le b4
   replace hs := hs.le b4
   replace b := b4.2 _ _ b
   have lt_at40 := GHeap.ltg f
   refine .R rfl (.litA rfl sl_22_A ze_2_L rfl rfl rfl rfl) ?_
   rintro _ H41 ⟨g2, rfl, a3, ge41, j⟩
   replace a := a.le a3
   replace hs := hs.le a3
   replace b := a3.2 _ _ b
   replace f := a3.2 _ _ f
   have lt_at41 := GHeap.ltg j
   refine .R rfl (.litA rfl sl_22_A ze_2_L rfl rfl rfl rfl) ?_
   rintro _ H42 ⟨f9, rfl, w, ge42, a6⟩
   replace a := a.le w
   replace hs := hs.le w
   replace b := w.2 _ _ b
   replace f := w.2 _ _ f
   replace j := w.2 _ _ j
   have lt_at42 := GHeap.ltg a6
   refine .R rfl (.litA rfl sl_23_B ze_22_Hj rfl rfl rfl rfl) ?_
   rintro _ H43 ⟨g43, rfl, n, ge43, c6⟩
   replace a := a.le n
   replace hs := hs.le n
   replace b := n.2 _ _ b
   replace f := n.2 _ _ f
   replace j := n.2 _ _ j
   replace a6 := n.2 _ _ a6
   refine .mv rfl (.nil (e1 _ _ ?_))
   refine .ret ?_
   refine g _ _ ?_
   refine ⟨_, rfl, ?_⟩
   exact ⟨_, [[0, 1, 2, 3], [1, 0, 2, 3], [2, 3, 2, 3], [3, 2, 2, 3]], fun i => some ⟨List.getD [f0, h1, g2, f9] i 0, 0, none⟩, rfl, (lit_own (gs := [f0, h1, g2, f9]) (by simp only [LitAt]; exact ⟨⟨by omega, b⟩, ⟨by omega, f⟩, ⟨by omega, j⟩, ⟨by omega, a6⟩, trivial⟩) (by simp <;> omega)).done (by exact c6) (by omega), by decide, by unfold Tb Bd; decide, a, hs⟩
  try simp only [sps] at e6
  refine .skip ?_
  refine h4 _ _ (.seq (fun K18 d9 => .region ?_))
  refine .R rfl (.litA rfl sl_22_A ze_2_L rfl rfl rfl rfl) ?_
  rintro _ H44 ⟨f3, rfl, c3, ge44, c⟩
  replace a := a.le c3
  replace hs := hs.le c3
  have lt_at44 := GHeap.ltg c
  refine .R rfl (.litA rfl sl_22_A ze_2_L rfl rfl rfl rfl) ?_
  rintro _ H45 ⟨f4, rfl, b5, ge45, r⟩
  replace a := a.le b5
  replace hs := hs.le b5
  replace c := b5.2 _ _ c
  have lt_at45 := GHeap.ltg r
  refine .R rfl (.litA rfl sl_22_A ze_2_L rfl rfl rfl rfl) ?_
  rintro _ H46 ⟨g5, rfl, a2, ge46, b0⟩
  replace a := a.le a2
  replace hs := hs.le a2
  replace c := a2.2 _ _ c
  replace r := a2.2 _ _ r
  have lt_at46 := GHeap.ltg b0
  refine .R rfl (.litA rfl sl_23_B ze_22_Hj rfl rfl rfl rfl) ?_
  rintro _ H47 ⟨g47, rfl, u, ge47, d5⟩
  replace a := a.le u
  replace hs := hs.le u
  replace c := u.2 _ _ c
  replace r := u.2 _ _ r
  replace b0 := u.2 _ _ b0
  refine .mv rfl (.nil (d9 _ _ ?_))
  refine .ret ?_
  refine g _ _ ?_
  refine ⟨_, rfl, ?_⟩
  exact ⟨_, [[0, 1, 2], [1, 2, 2], [2, 2, 2]], fun i => some ⟨List.getD [f3, f4, g5] i 0, 0, none⟩, rfl, (lit_own (gs := [f3, f4, g5]) (by simp only [LitAt]; exact ⟨⟨by omega, c⟩, ⟨by omega, r⟩, ⟨by omega, b0⟩, trivial⟩) (by simp <;> omega)).done (by exact d5) (by omega), by decide, by unfold Tb Bd; decide, a, hs⟩
theorem l02Split_c {H : GHeap} :
    GCalls Try.prog 131 [] H (NewRc 2 22 64 H) := by
  refine GCalls.body (N := 11) (rs := [.cell 0 29]) Try.func131 rfl rfl rfl rfl (fun Qx w hend => ?_)
  have b := GHeap.Le.refl H
  refine .seq (fun K1 a2 => .region ?_)
  refine .R rfl (.allocR rfl ze_29_Hj rfl) ?_
  rintro _ H0 ⟨g0, rfl, a1, ge0, d⟩
  replace b := b.trans a1
  have lt_at0 := GHeap.ltg d
  refine .nil (a2 _ _ (.seq (fun K2 a0 => .region ?_)))
  refine .R rfl (.litA rfl sl_22_A ze_2_L rfl rfl rfl rfl) ?_
  rintro _ H1 ⟨g1, rfl, z, ge1, c⟩
  replace b := b.trans z
  replace d := z.2 _ _ d
  have lt_at1 := GHeap.ltg c
  refine .R rfl (.litA rfl sl_22_A ze_2_L rfl rfl rfl rfl) ?_
  rintro _ H2 ⟨g2, rfl, x, ge2, e⟩
  replace b := b.trans x
  replace d := x.2 _ _ d
  replace c := x.2 _ _ c
  have lt_at2 := GHeap.ltg e
  refine .R rfl (.litA rfl sl_22_A ze_2_L rfl rfl rfl rfl) ?_
  rintro _ H3 ⟨g3, rfl, v, ge3, f⟩
  replace b := b.trans v
  replace d := v.2 _ _ d
  replace c := v.2 _ _ c
  replace e := v.2 _ _ e
  have lt_at3 := GHeap.ltg f
  refine .R rfl (.litA rfl sl_22_A ze_2_L rfl rfl rfl rfl) ?_
  rintro _ H4 ⟨g4, rfl, u, ge4, g⟩
  replace b := b.trans u
  replace d := u.2 _ _ d
  replace c := u.2 _ _ c
  replace e := u.2 _ _ e
  replace f := u.2 _ _ f
  have lt_at4 := GHeap.ltg g
  refine .R rfl (.litA rfl sl_22_A ze_2_L rfl rfl rfl rfl) ?_
  rintro _ H5 ⟨g5, rfl, t, ge5, h⟩
  replace b := b.trans t
  replace d := t.2 _ _ d
  replace c := t.2 _ _ c
  replace e := t.2 _ _ e
  replace f := t.2 _ _ f
  replace g := t.2 _ _ g
  have lt_at5 := GHeap.ltg h
  refine .R rfl (.litA rfl sl_22_A ze_2_L rfl rfl rfl rfl) ?_
  rintro _ H6 ⟨g6, rfl, p, ge6, j⟩
  replace b := b.trans p
  replace d := p.2 _ _ d
  replace c := p.2 _ _ c
  replace e := p.2 _ _ e
  replace f := p.2 _ _ f
  replace g := p.2 _ _ g
  replace h := p.2 _ _ h
  have lt_at6 := GHeap.ltg j
  refine .R rfl (.litA rfl sl_22_A ze_2_L rfl rfl rfl rfl) ?_
  rintro _ H7 ⟨g7, rfl, m, ge7, n⟩
  replace b := b.trans m
  replace d := m.2 _ _ d
  replace c := m.2 _ _ c
  replace e := m.2 _ _ e
  replace f := m.2 _ _ f
  replace g := m.2 _ _ g
  replace h := m.2 _ _ h
  replace j := m.2 _ _ j
  have lt_at7 := GHeap.ltg n
  refine .R rfl (.litA rfl sl_22_A ze_2_L rfl rfl rfl rfl) ?_
  rintro _ H8 ⟨g8, rfl, l, ge8, r⟩
  replace b := b.trans l
  replace d := l.2 _ _ d
  replace c := l.2 _ _ c
  replace e := l.2 _ _ e
  replace f := l.2 _ _ f
  replace g := l.2 _ _ g
  replace h := l.2 _ _ h
  replace j := l.2 _ _ j
  replace n := l.2 _ _ n
  have lt_at8 := GHeap.ltg r
  refine .R rfl (.litA rfl sl_23_B ze_22_Hj rfl rfl rfl rfl) ?_
  rintro _ H9 ⟨g9, rfl, i, ge9, y⟩
  replace b := b.trans i
  replace d := i.2 _ _ d
  replace c := i.2 _ _ c
  replace e := i.2 _ _ e
  replace f := i.2 _ _ f
  replace g := i.2 _ _ g
  replace h := i.2 _ _ h
  replace j := i.2 _ _ j
  replace n := i.2 _ _ n
  replace r := i.2 _ _ r
  refine .q rfl (.build bt_29_Hj rfl rfl rfl) ?_
  refine .r0 rfl rfl (.fillA rfl sz_29_D rfl rfl rfl rfl) ?_
  rintro _ H1010 ⟨rfl, a, o⟩
  replace b := b.st a (fun k hk => ⟨by omega, trivial⟩)
  replace c := a.s c
  replace e := a.s e
  replace f := a.s f
  replace g := a.s g
  replace h := a.s h
  replace j := a.s j
  replace n := a.s n
  replace r := a.s r
  replace y := a.s y
  refine .nil (a0 _ _ ?_)
  refine .ret ?_
  refine w _ _ ?_
  refine ⟨_, _, _, _, rfl, ag_29_D, (by rfl), (Mem.of_get o), ?_⟩
  exact ⟨⟨2, [0, 1, 0, 0, 1], [0, 1, 0, 1, 0], [0, 1], [[0, -1, 2, 3, -1], [-1, 1, -1, -1, 4], [2, -1, 2, 3, -1], [-1, 3, -1, -1, 2], [4, -1, 4, 1, -1]]⟩, rect_mk (by omega) (by decide) rfl (by unfold Bd; decide) (by unfold Bd; decide) rfl (by unfold Bd; decide) rfl (by unfold Tb Bd; decide), b, g1, g2, g3, g9, _, rfl, ⟨c, e, f, by exact y, by omega, by omega, by omega, by omega, by omega, by omega, by omega, lit_own (gs := [g4, g5, g6, g7, g8]) (by simp only [LitAt]; exact ⟨⟨by omega, g⟩, ⟨by omega, h⟩, ⟨by omega, j⟩, ⟨by omega, n⟩, ⟨by omega, r⟩, trivial⟩) (by simp; omega), row_nes (by simp; omega), row_nes (by simp; omega), row_nes (by simp; omega)⟩⟩
set_option maxHeartbeats 8000000 in
theorem l03Monoid_c {a : Option Addr} {r : Nat → Option Addr} {T : List (List Int)} {H : GHeap} (hin : Intss H a T r := by assumption) (hn : 1 ≤ T.length ∧ T.length ≤ 4) (ht : Tb 0 3 T.length T) :
    GCalls Try.prog 148 [.slice a T.length T.length] H (NewRc 2 22 4 H) := by
  have n5 : ∀ i, (T.getD i []).length ≤ 1048576 := fun i => by
    by_cases hi : i < T.length
    · have := (ht i hi).1; omega
    · rw [List.getD_eq_getElem?_getD, List.getElem?_eq_none (by omega)]; simp
  refine GCalls.body (N := 14) (rs := [.cell 2 29]) Try.func148 rfl rfl rfl rfl (fun Qx t3 hend => ?_)
  refine .fg [0] rfl ?_
  have a1 := GHeap.Le.refl H
  have n := hin
  refine .seq (fun K1 t9 => .region ?_)
  refine .R rfl (.allocR rfl ze_29_Hj rfl) ?_
  rintro _ H2 ⟨g2, rfl, t5, ge2, j⟩
  have nx_H2 := t5.1
  replace a1 := a1.trans t5
  have lt_at2 := GHeap.ltg j
  replace hin := n.mono a1
  refine .nil (t9 _ _ (.seq (fun K2 t6 => .region (.mv rfl (.q rfl (.len sl_23_B rfl) (.mv rfl (.nil (t6 _ _ (.seq (fun K3 t8 => ?_))))))))))
  refine .regionD mo_B (.q 0 (.q 2 (.q 5 (.or (.c 1 1 (.or (.c 3 1 (.or (.c 4 1 (.c 6 1 (.q 7 (.c 8 0 (.done))))) (.c 6 1 (.c 4 1 (.q 7 (.c 8 0 (.done))))))) (.or (.c 4 1 (.or (.c 3 1 (.c 6 1 (.q 7 (.c 8 0 (.done))))) (.c 6 1 (.c 3 1 (.q 7 (.c 8 0 (.done))))))) (.c 6 1 (.or (.c 3 1 (.c 4 1 (.q 7 (.c 8 0 (.done))))) (.c 4 1 (.c 3 1 (.q 7 (.c 8 0 (.done)))))))))) (.or (.c 3 1 (.or (.c 1 1 (.or (.c 4 1 (.c 6 1 (.q 7 (.c 8 0 (.done))))) (.c 6 1 (.c 4 1 (.q 7 (.c 8 0 (.done))))))) (.or (.c 4 1 (.or (.c 1 1 (.c 6 1 (.q 7 (.c 8 0 (.done))))) (.c 6 1 (.c 1 1 (.q 7 (.c 8 0 (.done))))))) (.c 6 1 (.or (.c 1 1 (.c 4 1 (.q 7 (.c 8 0 (.done))))) (.c 4 1 (.c 1 1 (.q 7 (.c 8 0 (.done)))))))))) (.or (.c 4 1 (.or (.c 1 1 (.or (.c 3 1 (.c 6 1 (.q 7 (.c 8 0 (.done))))) (.c 6 1 (.c 3 1 (.q 7 (.c 8 0 (.done))))))) (.or (.c 3 1 (.or (.c 1 1 (.c 6 1 (.q 7 (.c 8 0 (.done))))) (.c 6 1 (.c 1 1 (.q 7 (.c 8 0 (.done))))))) (.c 6 1 (.or (.c 1 1 (.c 3 1 (.q 7 (.c 8 0 (.done))))) (.c 3 1 (.c 1 1 (.q 7 (.c 8 0 (.done)))))))))) (.c 6 1 (.or (.c 1 1 (.or (.c 3 1 (.c 4 1 (.q 7 (.c 8 0 (.done))))) (.c 4 1 (.c 3 1 (.q 7 (.c 8 0 (.done))))))) (.or (.c 3 1 (.or (.c 1 1 (.c 4 1 (.q 7 (.c 8 0 (.done))))) (.c 4 1 (.c 1 1 (.q 7 (.c 8 0 (.done))))))) (.c 4 1 (.or (.c 1 1 (.c 3 1 (.q 7 (.c 8 0 (.done))))) (.c 3 1 (.c 1 1 (.q 7 (.c 8 0 (.done)))))))))))))))) (by kernel_rfl) ?_
  refine .cut [(0, some _), (2, some _), (3, some _), (4, some _), (5, some _)] ⟨rfl, rfl, rfl, rfl, rfl, trivial⟩ (fun rest fr' H' => ∃ (w1 : Nat) (w2 : Nat) (w3 : Nat) (w4 : Nat) (rr : Nat → Option Addr), Sub rest fr' ∧ St [g2] H2 H' ∧ H'.get g2 = some (.row (Cat.cells ⟨1, List.replicate T.length 0, List.replicate T.length 0, [0], T⟩ (ownP w1 w2 w3 w4 rr)) 29 true) ∧ OwnCat 2 22 H2.next H' ⟨1, List.replicate T.length 0, List.replicate T.length 0, [0], T⟩ w1 w2 w3 w4 rr) ?_ ?_
  ·
   have g := St.refl [g2] H2
   refine .qB rfl (.refl _) (.move rfl) (.qB rfl (.refl _) (.move rfl) (.qB rfl (.refl _) (.move rfl) ?_))
   refine .orI ?_ ?_
   ·
    refine .c1 rfl rfl rfl rfl (.makeIN rfl sl_22_A ze_2_L by_2_L rfl rfl (by omega) (by omega) (by omega)) ?_
    rintro _ H7 ⟨g7, rfl, s6, ge7, b7⟩
    have e := s6
    refine ⟨e, ?_⟩
    have nx_H7 := s6.1
    replace a1 := a1.trans s6
    replace g := g.le s6
    replace j := s6.2 _ _ j
    have lt_at7 := GHeap.ltg b7
    replace hin := n.mono a1
    refine .orI ?_ ?_
    ·
     refine .c1 rfl rfl rfl rfl (.makeIN rfl sl_22_A ze_2_L by_2_L rfl rfl (by omega) (by omega) (by omega)) ?_
     rintro _ H9 ⟨g9, rfl, r7, ge9, n7⟩
     replace e := e.trans r7
     refine ⟨e, ?_⟩
     have nx_H9 := r7.1
     replace a1 := a1.trans r7
     replace g := g.le r7
     replace j := r7.2 _ _ j
     replace b7 := r7.2 _ _ b7
     have lt_at9 := GHeap.ltg n7
     replace hin := n.mono a1
     refine .orI ?_ ?_
     ·
      refine .c1 rfl rfl rfl rfl (.litA rfl sl_22_A ze_2_L rfl rfl rfl rfl) ?_
      rintro _ H10 ⟨g10, rfl, n1, ge10, o5⟩
      replace e := e.trans n1
      refine ⟨e, ?_⟩
      have nx_H10 := n1.1
      replace a1 := a1.trans n1
      replace g := g.le n1
      replace j := n1.2 _ _ j
      replace b7 := n1.2 _ _ b7
      replace n7 := n1.2 _ _ n7
      have lt_at10 := GHeap.ltg o5
      replace hin := n.mono a1
      refine .call1 rfl rfl rfl rfl rfl @Try.call151 rfl (l01Own2O_c (hl2 := n5)) ?_
      rintro _ t7 ⟨n8, g12, rr12, rfl, s9, ge12, f⟩
      have rk := St.refl [g2] t7
      replace e := e.trans n8
      refine ⟨e, ?_⟩
      replace g := g.le n8
      replace j := n8.2 _ _ j
      replace b7 := n8.2 _ _ b7
      replace n7 := n8.2 _ _ n7
      replace o5 := n8.2 _ _ o5
      refine .qB rfl e (.build bt_29_Hj rfl rfl rfl) ?_
      refine .r0 rfl rfl rfl (.fillA rfl sz_29_D rfl rfl rfl rfl) ?_
      rintro _ H2008 ⟨rfl, i2, at2008⟩
      replace g := g.sA i2
      replace rk := rk.sA i2
      have p : NE g7 g2 := .a
      replace b7 := i2.s b7 p.ne
      have k1 : NE g9 g2 := .a
      replace n7 := i2.s n7 k1.ne
      replace o5 := i2.s o5
      replace s9 := i2.s s9
      refine .done ?_
      exact ⟨_, _, _, _, _, ⟨rfl, rfl, rfl, rfl, rfl, trivial⟩, g, by simp only [Cat.cells, ownP, List.length_replicate]; assumption, ⟨by assumption, by assumption, by assumption, by assumption, by omega, by omega, by omega, by omega, by omega, by omega, by omega, (f.st rk (.cons (f.lowNe (by omega)) (.nil _ _))).low (by omega), by first | exact f.lowNe (by omega) | exact f.ne (by omega), by first | exact f.lowNe (by omega) | exact f.ne (by omega), by first | exact f.lowNe (by omega) | exact f.ne (by omega)⟩⟩
     refine .call1 rfl rfl rfl rfl rfl @Try.call151 rfl (l01Own2O_c (hl2 := n5)) ?_
     rintro _ s0 ⟨k2, g12x2, rr12x2, rfl, i8, ge12x2, f⟩
     have rk := St.refl [g2] s0
     replace e := e.trans k2
     refine ⟨e, ?_⟩
     replace g := g.le k2
     replace j := k2.2 _ _ j
     replace b7 := k2.2 _ _ b7
     replace n7 := k2.2 _ _ n7
     have lt_at12x2 := GHeap.ltg i8
     refine .c1 rfl rfl rfl rfl (.litA rfl sl_22_A ze_2_L rfl rfl rfl rfl) ?_
     rintro _ H10x2 ⟨g10x2, rfl, f7, ge10x2, p0⟩
     replace e := e.trans f7
     refine ⟨e, ?_⟩
     replace g := g.le f7
     replace rk := rk.le f7
     replace j := f7.2 _ _ j
     replace b7 := f7.2 _ _ b7
     replace n7 := f7.2 _ _ n7
     replace i8 := f7.2 _ _ i8
     refine .qB rfl e (.build bt_29_Hj rfl rfl rfl) ?_
     refine .r0 rfl rfl rfl (.fillA rfl sz_29_D rfl rfl rfl rfl) ?_
     rintro _ H2008x2 ⟨rfl, b9, at2008x2⟩
     replace g := g.sA b9
     replace rk := rk.sA b9
     have p : NE g7 g2 := .a
     replace b7 := b9.s b7 p.ne
     have k1 : NE g9 g2 := .a
     replace n7 := b9.s n7 k1.ne
     replace i8 := b9.s i8
     replace p0 := b9.s p0
     refine .done ?_
     exact ⟨_, _, _, _, _, ⟨rfl, rfl, rfl, rfl, rfl, trivial⟩, g, by simp only [Cat.cells, ownP, List.length_replicate]; assumption, ⟨by assumption, by assumption, by assumption, by assumption, by omega, by omega, by omega, by omega, by omega, by omega, by omega, (f.st rk (.cons (f.lowNe (by omega)) (.nil _ _))).low (by omega), by first | exact f.lowNe (by omega) | exact f.ne (by omega), by first | exact f.lowNe (by omega) | exact f.ne (by omega), by first | exact f.lowNe (by omega) | exact f.ne (by omega)⟩⟩
    refine .orI ?_ ?_
    ·
     refine .c1 rfl rfl rfl rfl (.litA rfl sl_22_A ze_2_L rfl rfl rfl rfl) ?_
     rintro _ H10x3 ⟨q7, rfl, i3, ge10x3, z⟩
     replace e := e.trans i3
     refine ⟨e, ?_⟩
     have nx_H10x3 := i3.1
     replace a1 := a1.trans i3
     replace g := g.le i3
     replace j := i3.2 _ _ j
     replace b7 := i3.2 _ _ b7
     have lt_at10x3 := GHeap.ltg z
     replace hin := n.mono a1
     refine .orI ?_ ?_
     ·
      refine .c1 rfl rfl rfl rfl (.makeIN rfl sl_22_A ze_2_L by_2_L rfl rfl (by omega) (by omega) (by omega)) ?_
      rintro _ H9x2 ⟨g9x2, rfl, k9, ge9x2, m7⟩
      replace e := e.trans k9
      refine ⟨e, ?_⟩
      have nx_H9x2 := k9.1
      replace a1 := a1.trans k9
      replace g := g.le k9
      replace j := k9.2 _ _ j
      replace b7 := k9.2 _ _ b7
      replace z := k9.2 _ _ z
      have lt_at9x2 := GHeap.ltg m7
      replace hin := n.mono a1
      refine .call1 rfl rfl rfl rfl rfl @Try.call151 rfl (l01Own2O_c (hl2 := n5)) ?_
      rintro _ s1 ⟨h2, g12x3, rr12x3, rfl, p6, ge12x3, f⟩
      have rk := St.refl [g2] s1
      replace e := e.trans h2
      refine ⟨e, ?_⟩
      replace g := g.le h2
      replace j := h2.2 _ _ j
      replace b7 := h2.2 _ _ b7
      replace z := h2.2 _ _ z
      replace m7 := h2.2 _ _ m7
      refine .qB rfl e (.build bt_29_Hj rfl rfl rfl) ?_
      refine .r0 rfl rfl rfl (.fillA rfl sz_29_D rfl rfl rfl rfl) ?_
      rintro _ H2008x3 ⟨rfl, c2, at2008x3⟩
      replace g := g.sA c2
      replace rk := rk.sA c2
      have p : NE g7 g2 := .a
      replace b7 := c2.s b7 p.ne
      have d5 : NE q7 g2 := .a
      replace z := c2.s z d5.ne
      replace m7 := c2.s m7
      replace p6 := c2.s p6
      refine .done ?_
      exact ⟨_, _, _, _, _, ⟨rfl, rfl, rfl, rfl, rfl, trivial⟩, g, by simp only [Cat.cells, ownP, List.length_replicate]; assumption, ⟨by assumption, by assumption, by assumption, by assumption, by omega, by omega, by omega, by omega, by omega, by omega, by omega, (f.st rk (.cons (f.lowNe (by omega)) (.nil _ _))).low (by omega), by first | exact f.lowNe (by omega) | exact f.ne (by omega), by first | exact f.lowNe (by omega) | exact f.ne (by omega), by first | exact f.lowNe (by omega) | exact f.ne (by omega)⟩⟩
     refine .call1 rfl rfl rfl rfl rfl @Try.call151 rfl (l01Own2O_c (hl2 := n5)) ?_
     rintro _ s8 ⟨j7, g12x4, rr12x4, rfl, j2, ge12x4, f⟩
     have rk := St.refl [g2] s8
     replace e := e.trans j7
     refine ⟨e, ?_⟩
     replace g := g.le j7
     replace j := j7.2 _ _ j
     replace b7 := j7.2 _ _ b7
     replace z := j7.2 _ _ z
     have lt_at12x4 := GHeap.ltg j2
     refine .c1 rfl rfl rfl rfl (.makeIN rfl sl_22_A ze_2_L by_2_L rfl rfl (by omega) (by omega) (by omega)) ?_
     rintro _ H9x3 ⟨g9x3, rfl, j9, ge9x3, p9⟩
     replace e := e.trans j9
     refine ⟨e, ?_⟩
     replace g := g.le j9
     replace rk := rk.le j9
     replace j := j9.2 _ _ j
     replace b7 := j9.2 _ _ b7
     replace z := j9.2 _ _ z
     replace j2 := j9.2 _ _ j2
     refine .qB rfl e (.build bt_29_Hj rfl rfl rfl) ?_
     refine .r0 rfl rfl rfl (.fillA rfl sz_29_D rfl rfl rfl rfl) ?_
     rintro _ H2008x4 ⟨rfl, c6, at2008x4⟩
     replace g := g.sA c6
     replace rk := rk.sA c6
     have p : NE g7 g2 := .a
     replace b7 := c6.s b7 p.ne
     have d5 : NE q7 g2 := .a
     replace z := c6.s z d5.ne
     replace j2 := c6.s j2
     replace p9 := c6.s p9
     refine .done ?_
     exact ⟨_, _, _, _, _, ⟨rfl, rfl, rfl, rfl, rfl, trivial⟩, g, by simp only [Cat.cells, ownP, List.length_replicate]; assumption, ⟨by assumption, by assumption, by assumption, by assumption, by omega, by omega, by omega, by omega, by omega, by omega, by omega, (f.st rk (.cons (f.lowNe (by omega)) (.nil _ _))).low (by omega), by first | exact f.lowNe (by omega) | exact f.ne (by omega), by first | exact f.lowNe (by omega) | exact f.ne (by omega), by first | exact f.lowNe (by omega) | exact f.ne (by omega)⟩⟩
    refine .call1 rfl rfl rfl rfl rfl @Try.call151 rfl (l01Own2O_c (hl2 := n5)) ?_
    rintro _ s7 ⟨m3, q0, rr12x5, rfl, a0, ge12x5, f⟩
    have rk := St.refl [g2] s7
    replace e := e.trans m3
    refine ⟨e, ?_⟩
    replace g := g.le m3
    replace j := m3.2 _ _ j
    replace b7 := m3.2 _ _ b7
    have lt_at12x5 := GHeap.ltg a0
    refine .orI ?_ ?_
    ·
     refine .c1 rfl rfl rfl rfl (.makeIN rfl sl_22_A ze_2_L by_2_L rfl rfl (by omega) (by omega) (by omega)) ?_
     rintro _ H9x4 ⟨g9x4, rfl, m0, ge9x4, n0⟩
     replace e := e.trans m0
     refine ⟨e, ?_⟩
     replace g := g.le m0
     replace rk := rk.le m0
     replace j := m0.2 _ _ j
     replace b7 := m0.2 _ _ b7
     replace a0 := m0.2 _ _ a0
     have lt_at9x4 := GHeap.ltg n0
     refine .c1 rfl rfl rfl rfl (.litA rfl sl_22_A ze_2_L rfl rfl rfl rfl) ?_
     rintro _ H10x4 ⟨g10x4, rfl, f4, ge10x4, o1⟩
     replace e := e.trans f4
     refine ⟨e, ?_⟩
     replace g := g.le f4
     replace rk := rk.le f4
     replace j := f4.2 _ _ j
     replace b7 := f4.2 _ _ b7
     replace a0 := f4.2 _ _ a0
     replace n0 := f4.2 _ _ n0
     refine .qB rfl e (.build bt_29_Hj rfl rfl rfl) ?_
     refine .r0 rfl rfl rfl (.fillA rfl sz_29_D rfl rfl rfl rfl) ?_
     rintro _ H2008x5 ⟨rfl, c9, at2008x5⟩
     replace g := g.sA c9
     replace rk := rk.sA c9
     have p : NE g7 g2 := .a
     replace b7 := c9.s b7 p.ne
     have d6 : NE q0 g2 := .a
     replace a0 := c9.s a0 d6.ne
     replace n0 := c9.s n0
     replace o1 := c9.s o1
     refine .done ?_
     exact ⟨_, _, _, _, _, ⟨rfl, rfl, rfl, rfl, rfl, trivial⟩, g, by simp only [Cat.cells, ownP, List.length_replicate]; assumption, ⟨by assumption, by assumption, by assumption, by assumption, by omega, by omega, by omega, by omega, by omega, by omega, by omega, (f.st rk (.cons (f.lowNe (by omega)) (.nil _ _))).low (by omega), by first | exact f.lowNe (by omega) | exact f.ne (by omega), by first | exact f.lowNe (by omega) | exact f.ne (by omega), by first | exact f.lowNe (by omega) | exact f.ne (by omega)⟩⟩
    refine .c1 rfl rfl rfl rfl (.litA rfl sl_22_A ze_2_L rfl rfl rfl rfl) ?_
    rintro _ H10x5 ⟨g10x5, rfl, i1, ge10x5, j8⟩
    replace e := e.trans i1
    refine ⟨e, ?_⟩
    replace g := g.le i1
    replace rk := rk.le i1
    replace j := i1.2 _ _ j
    replace b7 := i1.2 _ _ b7
    replace a0 := i1.2 _ _ a0
    have lt_at10x5 := GHeap.ltg j8
    refine .c1 rfl rfl rfl rfl (.makeIN rfl sl_22_A ze_2_L by_2_L rfl rfl (by omega) (by omega) (by omega)) ?_
    rintro _ H9x5 ⟨g9x5, rfl, j5, ge9x5, q3⟩
    replace e := e.trans j5
    refine ⟨e, ?_⟩
    replace g := g.le j5
    replace rk := rk.le j5
    replace j := j5.2 _ _ j
    replace b7 := j5.2 _ _ b7
    replace a0 := j5.2 _ _ a0
    replace j8 := j5.2 _ _ j8
    refine .qB rfl e (.build bt_29_Hj rfl rfl rfl) ?_
    refine .r0 rfl rfl rfl (.fillA rfl sz_29_D rfl rfl rfl rfl) ?_
    rintro _ H2008x6 ⟨rfl, c5, at2008x6⟩
    replace g := g.sA c5
    replace rk := rk.sA c5
    have p : NE g7 g2 := .a
    replace b7 := c5.s b7 p.ne
    have d6 : NE q0 g2 := .a
    replace a0 := c5.s a0 d6.ne
    replace j8 := c5.s j8
    replace q3 := c5.s q3
    refine .done ?_
    exact ⟨_, _, _, _, _, ⟨rfl, rfl, rfl, rfl, rfl, trivial⟩, g, by simp only [Cat.cells, ownP, List.length_replicate]; assumption, ⟨by assumption, by assumption, by assumption, by assumption, by omega, by omega, by omega, by omega, by omega, by omega, by omega, (f.st rk (.cons (f.lowNe (by omega)) (.nil _ _))).low (by omega), by first | exact f.lowNe (by omega) | exact f.ne (by omega), by first | exact f.lowNe (by omega) | exact f.ne (by omega), by first | exact f.lowNe (by omega) | exact f.ne (by omega)⟩⟩
   refine .orI ?_ ?_
   ·
    refine .c1 rfl rfl rfl rfl (.makeIN rfl sl_22_A ze_2_L by_2_L rfl rfl (by omega) (by omega) (by omega)) ?_
    rintro _ H9x6 ⟨n9, rfl, m8, ge9x6, h⟩
    have e := m8
    refine ⟨e, ?_⟩
    have nx_H9x6 := m8.1
    replace a1 := a1.trans m8
    replace g := g.le m8
    replace j := m8.2 _ _ j
    have lt_at9x6 := GHeap.ltg h
    replace hin := n.mono a1
    refine .orI ?_ ?_
    ·
     refine .c1 rfl rfl rfl rfl (.makeIN rfl sl_22_A ze_2_L by_2_L rfl rfl (by omega) (by omega) (by omega)) ?_
     rintro _ H7x2 ⟨s2, rfl, m1, ge7x2, b8⟩
     replace e := e.trans m1
     refine ⟨e, ?_⟩
     have nx_H7x2 := m1.1
     replace a1 := a1.trans m1
     replace g := g.le m1
     replace j := m1.2 _ _ j
     replace h := m1.2 _ _ h
     have lt_at7x2 := GHeap.ltg b8
     replace hin := n.mono a1
     refine .orI ?_ ?_
     ·
      refine .c1 rfl rfl rfl rfl (.litA rfl sl_22_A ze_2_L rfl rfl rfl rfl) ?_
      rintro _ H10x6 ⟨g10x6, rfl, e5, ge10x6, l0⟩
      replace e := e.trans e5
      refine ⟨e, ?_⟩
      have nx_H10x6 := e5.1
      replace a1 := a1.trans e5
      replace g := g.le e5
      replace j := e5.2 _ _ j
      replace h := e5.2 _ _ h
      replace b8 := e5.2 _ _ b8
      have lt_at10x6 := GHeap.ltg l0
      replace hin := n.mono a1
      refine .call1 rfl rfl rfl rfl rfl @Try.call151 rfl (l01Own2O_c (hl2 := n5)) ?_
      rintro _ r8 ⟨h1, g12x6, rr12x6, rfl, o4, ge12x6, f⟩
      have rk := St.refl [g2] r8
      replace e := e.trans h1
      refine ⟨e, ?_⟩
      replace g := g.le h1
      replace j := h1.2 _ _ j
      replace h := h1.2 _ _ h
      replace b8 := h1.2 _ _ b8
      replace l0 := h1.2 _ _ l0
      refine .qB rfl e (.build bt_29_Hj rfl rfl rfl) ?_
      refine .r0 rfl rfl rfl (.fillA rfl sz_29_D rfl rfl rfl rfl) ?_
      rintro _ H2008x7 ⟨rfl, c8, at2008x7⟩
      replace g := g.sA c8
      replace rk := rk.sA c8
      have o : NE n9 g2 := .a
      replace h := c8.s h o.ne
      have e6 : NE s2 g2 := .a
      replace b8 := c8.s b8 e6.ne
      replace l0 := c8.s l0
      replace o4 := c8.s o4
      refine .done ?_
      exact ⟨_, _, _, _, _, ⟨rfl, rfl, rfl, rfl, rfl, trivial⟩, g, by simp only [Cat.cells, ownP, List.length_replicate]; assumption, ⟨by assumption, by assumption, by assumption, by assumption, by omega, by omega, by omega, by omega, by omega, by omega, by omega, (f.st rk (.cons (f.lowNe (by omega)) (.nil _ _))).low (by omega), by first | exact f.lowNe (by omega) | exact f.ne (by omega), by first | exact f.lowNe (by omega) | exact f.ne (by omega), by first | exact f.lowNe (by omega) | exact f.ne (by omega)⟩⟩
     refine .call1 rfl rfl rfl rfl rfl @Try.call151 rfl (l01Own2O_c (hl2 := n5)) ?_
     rintro _ t2 ⟨j6, g12x7, rr12x7, rfl, j3, ge12x7, f⟩
     have rk := St.refl [g2] t2
     replace e := e.trans j6
     refine ⟨e, ?_⟩
     replace g := g.le j6
     replace j := j6.2 _ _ j
     replace h := j6.2 _ _ h
     replace b8 := j6.2 _ _ b8
     have lt_at12x7 := GHeap.ltg j3
     refine .c1 rfl rfl rfl rfl (.litA rfl sl_22_A ze_2_L rfl rfl rfl rfl) ?_
     rintro _ H10x7 ⟨g10x7, rfl, f3, ge10x7, p5⟩
     replace e := e.trans f3
     refine ⟨e, ?_⟩
     replace g := g.le f3
     replace rk := rk.le f3
     replace j := f3.2 _ _ j
     replace h := f3.2 _ _ h
     replace b8 := f3.2 _ _ b8
     replace j3 := f3.2 _ _ j3
     refine .qB rfl e (.build bt_29_Hj rfl rfl rfl) ?_
     refine .r0 rfl rfl rfl (.fillA rfl sz_29_D rfl rfl rfl rfl) ?_
     rintro _ H2008x8 ⟨rfl, c4, at2008x8⟩
     replace g := g.sA c4
     replace rk := rk.sA c4
     have o : NE n9 g2 := .a
     replace h := c4.s h o.ne
     have e6 : NE s2 g2 := .a
     replace b8 := c4.s b8 e6.ne
     replace j3 := c4.s j3
     replace p5 := c4.s p5
     refine .done ?_
     exact ⟨_, _, _, _, _, ⟨rfl, rfl, rfl, rfl, rfl, trivial⟩, g, by simp only [Cat.cells, ownP, List.length_replicate]; assumption, ⟨by assumption, by assumption, by assumption, by assumption, by omega, by omega, by omega, by omega, by omega, by omega, by omega, (f.st rk (.cons (f.lowNe (by omega)) (.nil _ _))).low (by omega), by first | exact f.lowNe (by omega) | exact f.ne (by omega), by first | exact f.lowNe (by omega) | exact f.ne (by omega), by first | exact f.lowNe (by omega) | exact f.ne (by omega)⟩⟩
    refine .orI ?_ ?_
    ·
     refine .c1 rfl rfl rfl rfl (.litA rfl sl_22_A ze_2_L rfl rfl rfl rfl) ?_
     rintro _ H10x8 ⟨q1, rfl, h4, ge10x8, x⟩
     replace e := e.trans h4
     refine ⟨e, ?_⟩
     have nx_H10x8 := h4.1
     replace a1 := a1.trans h4
     replace g := g.le h4
     replace j := h4.2 _ _ j
     replace h := h4.2 _ _ h
     have lt_at10x8 := GHeap.ltg x
     replace hin := n.mono a1
     refine .orI ?_ ?_
     ·
      refine .c1 rfl rfl rfl rfl (.makeIN rfl sl_22_A ze_2_L by_2_L rfl rfl (by omega) (by omega) (by omega)) ?_
      rintro _ H7x3 ⟨g7x3, rfl, k7, ge7x3, m6⟩
      replace e := e.trans k7
      refine ⟨e, ?_⟩
      have nx_H7x3 := k7.1
      replace a1 := a1.trans k7
      replace g := g.le k7
      replace j := k7.2 _ _ j
      replace h := k7.2 _ _ h
      replace x := k7.2 _ _ x
      have lt_at7x3 := GHeap.ltg m6
      replace hin := n.mono a1
      refine .call1 rfl rfl rfl rfl rfl @Try.call151 rfl (l01Own2O_c (hl2 := n5)) ?_
      rintro _ s4 ⟨h9, g12x8, rr12x8, rfl, o0, ge12x8, f⟩
      have rk := St.refl [g2] s4
      replace e := e.trans h9
      refine ⟨e, ?_⟩
      replace g := g.le h9
      replace j := h9.2 _ _ j
      replace h := h9.2 _ _ h
      replace x := h9.2 _ _ x
      replace m6 := h9.2 _ _ m6
      refine .qB rfl e (.build bt_29_Hj rfl rfl rfl) ?_
      refine .r0 rfl rfl rfl (.fillA rfl sz_29_D rfl rfl rfl rfl) ?_
      rintro _ H2008x9 ⟨rfl, c0, at2008x9⟩
      replace g := g.sA c0
      replace rk := rk.sA c0
      have o : NE n9 g2 := .a
      replace h := c0.s h o.ne
      have d8 : NE q1 g2 := .a
      replace x := c0.s x d8.ne
      replace m6 := c0.s m6
      replace o0 := c0.s o0
      refine .done ?_
      exact ⟨_, _, _, _, _, ⟨rfl, rfl, rfl, rfl, rfl, trivial⟩, g, by simp only [Cat.cells, ownP, List.length_replicate]; assumption, ⟨by assumption, by assumption, by assumption, by assumption, by omega, by omega, by omega, by omega, by omega, by omega, by omega, (f.st rk (.cons (f.lowNe (by omega)) (.nil _ _))).low (by omega), by first | exact f.lowNe (by omega) | exact f.ne (by omega), by first | exact f.lowNe (by omega) | exact f.ne (by omega), by first | exact f.lowNe (by omega) | exact f.ne (by omega)⟩⟩
     refine .call1 rfl rfl rfl rfl rfl @Try.call151 rfl (l01Own2O_c (hl2 := n5)) ?_
     rintro _ t1 ⟨k6, g12x9, rr12x9, rfl, k5, ge12x9, f⟩
     have rk := St.refl [g2] t1
     replace e := e.trans k6
     refine ⟨e, ?_⟩
     replace g := g.le k6
     replace j := k6.2 _ _ j
     replace h := k6.2 _ _ h
     replace x := k6.2 _ _ x
     have lt_at12x9 := GHeap.ltg k5
     refine .c1 rfl rfl rfl rfl (.makeIN rfl sl_22_A ze_2_L by_2_L rfl rfl (by omega) (by omega) (by omega)) ?_
     rintro _ H7x4 ⟨g7x4, rfl, j4, ge7x4, q6⟩
     replace e := e.trans j4
     refine ⟨e, ?_⟩
     replace g := g.le j4
     replace rk := rk.le j4
     replace j := j4.2 _ _ j
     replace h := j4.2 _ _ h
     replace x := j4.2 _ _ x
     replace k5 := j4.2 _ _ k5
     refine .qB rfl e (.build bt_29_Hj rfl rfl rfl) ?_
     refine .r0 rfl rfl rfl (.fillA rfl sz_29_D rfl rfl rfl rfl) ?_
     rintro _ H2008x10 ⟨rfl, b3, at2008x10⟩
     replace g := g.sA b3
     replace rk := rk.sA b3
     have o : NE n9 g2 := .a
     replace h := b3.s h o.ne
     have d8 : NE q1 g2 := .a
     replace x := b3.s x d8.ne
     replace k5 := b3.s k5
     replace q6 := b3.s q6
     refine .done ?_
     exact ⟨_, _, _, _, _, ⟨rfl, rfl, rfl, rfl, rfl, trivial⟩, g, by simp only [Cat.cells, ownP, List.length_replicate]; assumption, ⟨by assumption, by assumption, by assumption, by assumption, by omega, by omega, by omega, by omega, by omega, by omega, by omega, (f.st rk (.cons (f.lowNe (by omega)) (.nil _ _))).low (by omega), by first | exact f.lowNe (by omega) | exact f.ne (by omega), by first | exact f.lowNe (by omega) | exact f.ne (by omega), by first | exact f.lowNe (by omega) | exact f.ne (by omega)⟩⟩
    refine .call1 rfl rfl rfl rfl rfl @Try.call151 rfl (l01Own2O_c (hl2 := n5)) ?_
    rintro _ r6 ⟨i7, o3, rr12x10, rfl, u, ge12x10, f⟩
    have rk := St.refl [g2] r6
    replace e := e.trans i7
    refine ⟨e, ?_⟩
    replace g := g.le i7
    replace j := i7.2 _ _ j
    replace h := i7.2 _ _ h
    have lt_at12x10 := GHeap.ltg u
    refine .orI ?_ ?_
    ·
     refine .c1 rfl rfl rfl rfl (.makeIN rfl sl_22_A ze_2_L by_2_L rfl rfl (by omega) (by omega) (by omega)) ?_
     rintro _ H7x5 ⟨g7x5, rfl, l8, ge7x5, m9⟩
     replace e := e.trans l8
     refine ⟨e, ?_⟩
     replace g := g.le l8
     replace rk := rk.le l8
     replace j := l8.2 _ _ j
     replace h := l8.2 _ _ h
     replace u := l8.2 _ _ u
     have lt_at7x5 := GHeap.ltg m9
     refine .c1 rfl rfl rfl rfl (.litA rfl sl_22_A ze_2_L rfl rfl rfl rfl) ?_
     rintro _ H10x9 ⟨g10x9, rfl, f8, ge10x9, o6⟩
     replace e := e.trans f8
     refine ⟨e, ?_⟩
     replace g := g.le f8
     replace rk := rk.le f8
     replace j := f8.2 _ _ j
     replace h := f8.2 _ _ h
     replace u := f8.2 _ _ u
     replace m9 := f8.2 _ _ m9
     refine .qB rfl e (.build bt_29_Hj rfl rfl rfl) ?_
     refine .r0 rfl rfl rfl (.fillA rfl sz_29_D rfl rfl rfl rfl) ?_
     rintro _ H2008x11 ⟨rfl, b1, at2008x11⟩
     replace g := g.sA b1
     replace rk := rk.sA b1
     have o : NE n9 g2 := .a
     replace h := b1.s h o.ne
     have d1 : NE o3 g2 := .a
     replace u := b1.s u d1.ne
     replace m9 := b1.s m9
     replace o6 := b1.s o6
     refine .done ?_
     exact ⟨_, _, _, _, _, ⟨rfl, rfl, rfl, rfl, rfl, trivial⟩, g, by simp only [Cat.cells, ownP, List.length_replicate]; assumption, ⟨by assumption, by assumption, by assumption, by assumption, by omega, by omega, by omega, by omega, by omega, by omega, by omega, (f.st rk (.cons (f.lowNe (by omega)) (.nil _ _))).low (by omega), by first | exact f.lowNe (by omega) | exact f.ne (by omega), by first | exact f.lowNe (by omega) | exact f.ne (by omega), by first | exact f.lowNe (by omega) | exact f.ne (by omega)⟩⟩
    refine .c1 rfl rfl rfl rfl (.litA rfl sl_22_A ze_2_L rfl rfl rfl rfl) ?_
    rintro _ H10x10 ⟨g10x10, rfl, e0, ge10x10, g8⟩
    replace e := e.trans e0
    refine ⟨e, ?_⟩
    replace g := g.le e0
    replace rk := rk.le e0
    replace j := e0.2 _ _ j
    replace h := e0.2 _ _ h
    replace u := e0.2 _ _ u
    have lt_at10x10 := GHeap.ltg g8
    refine .c1 rfl rfl rfl rfl (.makeIN rfl sl_22_A ze_2_L by_2_L rfl rfl (by omega) (by omega) (by omega)) ?_
    rintro _ H7x6 ⟨g7x6, rfl, k4, ge7x6, q2⟩
    replace e := e.trans k4
    refine ⟨e, ?_⟩
    replace g := g.le k4
    replace rk := rk.le k4
    replace j := k4.2 _ _ j
    replace h := k4.2 _ _ h
    replace u := k4.2 _ _ u
    replace g8 := k4.2 _ _ g8
    refine .qB rfl e (.build bt_29_Hj rfl rfl rfl) ?_
    refine .r0 rfl rfl rfl (.fillA rfl sz_29_D rfl rfl rfl rfl) ?_
    rintro _ H2008x12 ⟨rfl, a7, at2008x12⟩
    replace g := g.sA a7
    replace rk := rk.sA a7
    have o : NE n9 g2 := .a
    replace h := a7.s h o.ne
    have d1 : NE o3 g2 := .a
    replace u := a7.s u d1.ne
    replace g8 := a7.s g8
    replace q2 := a7.s q2
    refine .done ?_
    exact ⟨_, _, _, _, _, ⟨rfl, rfl, rfl, rfl, rfl, trivial⟩, g, by simp only [Cat.cells, ownP, List.length_replicate]; assumption, ⟨by assumption, by assumption, by assumption, by assumption, by omega, by omega, by omega, by omega, by omega, by omega, by omega, (f.st rk (.cons (f.lowNe (by omega)) (.nil _ _))).low (by omega), by first | exact f.lowNe (by omega) | exact f.ne (by omega), by first | exact f.lowNe (by omega) | exact f.ne (by omega), by first | exact f.lowNe (by omega) | exact f.ne (by omega)⟩⟩
   refine .orI ?_ ?_
   ·
    refine .c1 rfl rfl rfl rfl (.litA rfl sl_22_A ze_2_L rfl rfl rfl rfl) ?_
    rintro _ H10x11 ⟨h6, rfl, f9, ge10x11, b⟩
    have e := f9
    refine ⟨e, ?_⟩
    have nx_H10x11 := f9.1
    replace a1 := a1.trans f9
    replace g := g.le f9
    replace j := f9.2 _ _ j
    have lt_at10x11 := GHeap.ltg b
    replace hin := n.mono a1
    refine .orI ?_ ?_
    ·
     refine .c1 rfl rfl rfl rfl (.makeIN rfl sl_22_A ze_2_L by_2_L rfl rfl (by omega) (by omega) (by omega)) ?_
     rintro _ H7x7 ⟨t0, rfl, l9, ge7x7, c3⟩
     replace e := e.trans l9
     refine ⟨e, ?_⟩
     have nx_H7x7 := l9.1
     replace a1 := a1.trans l9
     replace g := g.le l9
     replace j := l9.2 _ _ j
     replace b := l9.2 _ _ b
     have lt_at7x7 := GHeap.ltg c3
     replace hin := n.mono a1
     refine .orI ?_ ?_
     ·
      refine .c1 rfl rfl rfl rfl (.makeIN rfl sl_22_A ze_2_L by_2_L rfl rfl (by omega) (by omega) (by omega)) ?_
      rintro _ H9x7 ⟨g9x7, rfl, l3, ge9x7, m5⟩
      replace e := e.trans l3
      refine ⟨e, ?_⟩
      have nx_H9x7 := l3.1
      replace a1 := a1.trans l3
      replace g := g.le l3
      replace j := l3.2 _ _ j
      replace b := l3.2 _ _ b
      replace c3 := l3.2 _ _ c3
      have lt_at9x7 := GHeap.ltg m5
      replace hin := n.mono a1
      refine .call1 rfl rfl rfl rfl rfl @Try.call151 rfl (l01Own2O_c (hl2 := n5)) ?_
      rintro _ r4 ⟨e1, g12x11, rr12x11, rfl, n2, ge12x11, f⟩
      have rk := St.refl [g2] r4
      replace e := e.trans e1
      refine ⟨e, ?_⟩
      replace g := g.le e1
      replace j := e1.2 _ _ j
      replace b := e1.2 _ _ b
      replace c3 := e1.2 _ _ c3
      replace m5 := e1.2 _ _ m5
      refine .qB rfl e (.build bt_29_Hj rfl rfl rfl) ?_
      refine .r0 rfl rfl rfl (.fillA rfl sz_29_D rfl rfl rfl rfl) ?_
      rintro _ H2008x13 ⟨rfl, b4, at2008x13⟩
      replace g := g.sA b4
      replace rk := rk.sA b4
      have m : NE h6 g2 := .a
      replace b := b4.s b m.ne
      have f6 : NE t0 g2 := .a
      replace c3 := b4.s c3 f6.ne
      replace m5 := b4.s m5
      replace n2 := b4.s n2
      refine .done ?_
      exact ⟨_, _, _, _, _, ⟨rfl, rfl, rfl, rfl, rfl, trivial⟩, g, by simp only [Cat.cells, ownP, List.length_replicate]; assumption, ⟨by assumption, by assumption, by assumption, by assumption, by omega, by omega, by omega, by omega, by omega, by omega, by omega, (f.st rk (.cons (f.lowNe (by omega)) (.nil _ _))).low (by omega), by first | exact f.lowNe (by omega) | exact f.ne (by omega), by first | exact f.lowNe (by omega) | exact f.ne (by omega), by first | exact f.lowNe (by omega) | exact f.ne (by omega)⟩⟩
     refine .call1 rfl rfl rfl rfl rfl @Try.call151 rfl (l01Own2O_c (hl2 := n5)) ?_
     rintro _ q9 ⟨g5, g12x12, rr12x12, rfl, g3, ge12x12, f⟩
     have rk := St.refl [g2] q9
     replace e := e.trans g5
     refine ⟨e, ?_⟩
     replace g := g.le g5
     replace j := g5.2 _ _ j
     replace b := g5.2 _ _ b
     replace c3 := g5.2 _ _ c3
     have lt_at12x12 := GHeap.ltg g3
     refine .c1 rfl rfl rfl rfl (.makeIN rfl sl_22_A ze_2_L by_2_L rfl rfl (by omega) (by omega) (by omega)) ?_
     rintro _ H9x8 ⟨g9x8, rfl, j1, ge9x8, q5⟩
     replace e := e.trans j1
     refine ⟨e, ?_⟩
     replace g := g.le j1
     replace rk := rk.le j1
     replace j := j1.2 _ _ j
     replace b := j1.2 _ _ b
     replace c3 := j1.2 _ _ c3
     replace g3 := j1.2 _ _ g3
     refine .qB rfl e (.build bt_29_Hj rfl rfl rfl) ?_
     refine .r0 rfl rfl rfl (.fillA rfl sz_29_D rfl rfl rfl rfl) ?_
     rintro _ H2008x14 ⟨rfl, b2, at2008x14⟩
     replace g := g.sA b2
     replace rk := rk.sA b2
     have m : NE h6 g2 := .a
     replace b := b2.s b m.ne
     have f6 : NE t0 g2 := .a
     replace c3 := b2.s c3 f6.ne
     replace g3 := b2.s g3
     replace q5 := b2.s q5
     refine .done ?_
     exact ⟨_, _, _, _, _, ⟨rfl, rfl, rfl, rfl, rfl, trivial⟩, g, by simp only [Cat.cells, ownP, List.length_replicate]; assumption, ⟨by assumption, by assumption, by assumption, by assumption, by omega, by omega, by omega, by omega, by omega, by omega, by omega, (f.st rk (.cons (f.lowNe (by omega)) (.nil _ _))).low (by omega), by first | exact f.lowNe (by omega) | exact f.ne (by omega), by first | exact f.lowNe (by omega) | exact f.ne (by omega), by first | exact f.lowNe (by omega) | exact f.ne (by omega)⟩⟩
    refine .orI ?_ ?_
    ·
     refine .c1 rfl rfl rfl rfl (.makeIN rfl sl_22_A ze_2_L by_2_L rfl rfl (by omega) (by omega) (by omega)) ?_
     rintro _ H9x9 ⟨s3, rfl, l7, ge9x9, c7⟩
     replace e := e.trans l7
     refine ⟨e, ?_⟩
     have nx_H9x9 := l7.1
     replace a1 := a1.trans l7
     replace g := g.le l7
     replace j := l7.2 _ _ j
     replace b := l7.2 _ _ b
     have lt_at9x9 := GHeap.ltg c7
     replace hin := n.mono a1
     refine .orI ?_ ?_
     ·
      refine .c1 rfl rfl rfl rfl (.makeIN rfl sl_22_A ze_2_L by_2_L rfl rfl (by omega) (by omega) (by omega)) ?_
      rintro _ H7x8 ⟨g7x8, rfl, k3, ge7x8, m4⟩
      replace e := e.trans k3
      refine ⟨e, ?_⟩
      have nx_H7x8 := k3.1
      replace a1 := a1.trans k3
      replace g := g.le k3
      replace j := k3.2 _ _ j
      replace b := k3.2 _ _ b
      replace c7 := k3.2 _ _ c7
      have lt_at7x8 := GHeap.ltg m4
      replace hin := n.mono a1
      refine .call1 rfl rfl rfl rfl rfl @Try.call151 rfl (l01Own2O_c (hl2 := n5)) ?_
      rintro _ r5 ⟨e3, g12x13, rr12x13, rfl, n6, ge12x13, f⟩
      have rk := St.refl [g2] r5
      replace e := e.trans e3
      refine ⟨e, ?_⟩
      replace g := g.le e3
      replace j := e3.2 _ _ j
      replace b := e3.2 _ _ b
      replace c7 := e3.2 _ _ c7
      replace m4 := e3.2 _ _ m4
      refine .qB rfl e (.build bt_29_Hj rfl rfl rfl) ?_
      refine .r0 rfl rfl rfl (.fillA rfl sz_29_D rfl rfl rfl rfl) ?_
      rintro _ H2008x15 ⟨rfl, a4, at2008x15⟩
      replace g := g.sA a4
      replace rk := rk.sA a4
      have m : NE h6 g2 := .a
      replace b := a4.s b m.ne
      have f2 : NE s3 g2 := .a
      replace c7 := a4.s c7 f2.ne
      replace m4 := a4.s m4
      replace n6 := a4.s n6
      refine .done ?_
      exact ⟨_, _, _, _, _, ⟨rfl, rfl, rfl, rfl, rfl, trivial⟩, g, by simp only [Cat.cells, ownP, List.length_replicate]; assumption, ⟨by assumption, by assumption, by assumption, by assumption, by omega, by omega, by omega, by omega, by omega, by omega, by omega, (f.st rk (.cons (f.lowNe (by omega)) (.nil _ _))).low (by omega), by first | exact f.lowNe (by omega) | exact f.ne (by omega), by first | exact f.lowNe (by omega) | exact f.ne (by omega), by first | exact f.lowNe (by omega) | exact f.ne (by omega)⟩⟩
     refine .call1 rfl rfl rfl rfl rfl @Try.call151 rfl (l01Own2O_c (hl2 := n5)) ?_
     rintro _ r3 ⟨g4, g12x14, rr12x14, rfl, g6, ge12x14, f⟩
     have rk := St.refl [g2] r3
     replace e := e.trans g4
     refine ⟨e, ?_⟩
     replace g := g.le g4
     replace j := g4.2 _ _ j
     replace b := g4.2 _ _ b
     replace c7 := g4.2 _ _ c7
     have lt_at12x14 := GHeap.ltg g6
     refine .c1 rfl rfl rfl rfl (.makeIN rfl sl_22_A ze_2_L by_2_L rfl rfl (by omega) (by omega) (by omega)) ?_
     rintro _ H7x9 ⟨g7x9, rfl, k8, ge7x9, q8⟩
     replace e := e.trans k8
     refine ⟨e, ?_⟩
     replace g := g.le k8
     replace rk := rk.le k8
     replace j := k8.2 _ _ j
     replace b := k8.2 _ _ b
     replace c7 := k8.2 _ _ c7
     replace g6 := k8.2 _ _ g6
     refine .qB rfl e (.build bt_29_Hj rfl rfl rfl) ?_
     refine .r0 rfl rfl rfl (.fillA rfl sz_29_D rfl rfl rfl rfl) ?_
     rintro _ H2008x16 ⟨rfl, b0, at2008x16⟩
     replace g := g.sA b0
     replace rk := rk.sA b0
     have m : NE h6 g2 := .a
     replace b := b0.s b m.ne
     have f2 : NE s3 g2 := .a
     replace c7 := b0.s c7 f2.ne
     replace g6 := b0.s g6
     replace q8 := b0.s q8
     refine .done ?_
     exact ⟨_, _, _, _, _, ⟨rfl, rfl, rfl, rfl, rfl, trivial⟩, g, by simp only [Cat.cells, ownP, List.length_replicate]; assumption, ⟨by assumption, by assumption, by assumption, by assumption, by omega, by omega, by omega, by omega, by omega, by omega, by omega, (f.st rk (.cons (f.lowNe (by omega)) (.nil _ _))).low (by omega), by first | exact f.lowNe (by omega) | exact f.ne (by omega), by first | exact f.lowNe (by omega) | exact f.ne (by omega), by first | exact f.lowNe (by omega) | exact f.ne (by omega)⟩⟩
    refine .call1 rfl rfl rfl rfl rfl @Try.call151 rfl (l01Own2O_c (hl2 := n5)) ?_
    rintro _ r1 ⟨i6, o7, rr12x15, rfl, t, ge12x15, f⟩
    have rk := St.refl [g2] r1
    replace e := e.trans i6
    refine ⟨e, ?_⟩
    replace g := g.le i6
    replace j := i6.2 _ _ j
    replace b := i6.2 _ _ b
    have lt_at12x15 := GHeap.ltg t
    refine .orI ?_ ?_
    ·
     refine .c1 rfl rfl rfl rfl (.makeIN rfl sl_22_A ze_2_L by_2_L rfl rfl (by omega) (by omega) (by omega)) ?_
     rintro _ H7x10 ⟨g7x10, rfl, i0, ge7x10, k0⟩
     replace e := e.trans i0
     refine ⟨e, ?_⟩
     replace g := g.le i0
     replace rk := rk.le i0
     replace j := i0.2 _ _ j
     replace b := i0.2 _ _ b
     replace t := i0.2 _ _ t
     have lt_at7x10 := GHeap.ltg k0
     refine .c1 rfl rfl rfl rfl (.makeIN rfl sl_22_A ze_2_L by_2_L rfl rfl (by omega) (by omega) (by omega)) ?_
     rintro _ H9x10 ⟨g9x10, rfl, e8, ge9x10, p2⟩
     replace e := e.trans e8
     refine ⟨e, ?_⟩
     replace g := g.le e8
     replace rk := rk.le e8
     replace j := e8.2 _ _ j
     replace b := e8.2 _ _ b
     replace t := e8.2 _ _ t
     replace k0 := e8.2 _ _ k0
     refine .qB rfl e (.build bt_29_Hj rfl rfl rfl) ?_
     refine .r0 rfl rfl rfl (.fillA rfl sz_29_D rfl rfl rfl rfl) ?_
     rintro _ H2008x17 ⟨rfl, a8, at2008x17⟩
     replace g := g.sA a8
     replace rk := rk.sA a8
     have m : NE h6 g2 := .a
     replace b := a8.s b m.ne
     have d4 : NE o7 g2 := .a
     replace t := a8.s t d4.ne
     replace k0 := a8.s k0
     replace p2 := a8.s p2
     refine .done ?_
     exact ⟨_, _, _, _, _, ⟨rfl, rfl, rfl, rfl, rfl, trivial⟩, g, by simp only [Cat.cells, ownP, List.length_replicate]; assumption, ⟨by assumption, by assumption, by assumption, by assumption, by omega, by omega, by omega, by omega, by omega, by omega, by omega, (f.st rk (.cons (f.lowNe (by omega)) (.nil _ _))).low (by omega), by first | exact f.lowNe (by omega) | exact f.ne (by omega), by first | exact f.lowNe (by omega) | exact f.ne (by omega), by first | exact f.lowNe (by omega) | exact f.ne (by omega)⟩⟩
    refine .c1 rfl rfl rfl rfl (.makeIN rfl sl_22_A ze_2_L by_2_L rfl rfl (by omega) (by omega) (by omega)) ?_
    rintro _ H9x11 ⟨g9x11, rfl, i5, ge9x11, l1⟩
    replace e := e.trans i5
    refine ⟨e, ?_⟩
    replace g := g.le i5
    replace rk := rk.le i5
    replace j := i5.2 _ _ j
    replace b := i5.2 _ _ b
    replace t := i5.2 _ _ t
    have lt_at9x11 := GHeap.ltg l1
    refine .c1 rfl rfl rfl rfl (.makeIN rfl sl_22_A ze_2_L by_2_L rfl rfl (by omega) (by omega) (by omega)) ?_
    rintro _ H7x11 ⟨g7x11, rfl, e7, ge7x11, o2⟩
    replace e := e.trans e7
    refine ⟨e, ?_⟩
    replace g := g.le e7
    replace rk := rk.le e7
    replace j := e7.2 _ _ j
    replace b := e7.2 _ _ b
    replace t := e7.2 _ _ t
    replace l1 := e7.2 _ _ l1
    refine .qB rfl e (.build bt_29_Hj rfl rfl rfl) ?_
    refine .r0 rfl rfl rfl (.fillA rfl sz_29_D rfl rfl rfl rfl) ?_
    rintro _ H2008x18 ⟨rfl, a3, at2008x18⟩
    replace g := g.sA a3
    replace rk := rk.sA a3
    have m : NE h6 g2 := .a
    replace b := a3.s b m.ne
    have d4 : NE o7 g2 := .a
    replace t := a3.s t d4.ne
    replace l1 := a3.s l1
    replace o2 := a3.s o2
    refine .done ?_
    exact ⟨_, _, _, _, _, ⟨rfl, rfl, rfl, rfl, rfl, trivial⟩, g, by simp only [Cat.cells, ownP, List.length_replicate]; assumption, ⟨by assumption, by assumption, by assumption, by assumption, by omega, by omega, by omega, by omega, by omega, by omega, by omega, (f.st rk (.cons (f.lowNe (by omega)) (.nil _ _))).low (by omega), by first | exact f.lowNe (by omega) | exact f.ne (by omega), by first | exact f.lowNe (by omega) | exact f.ne (by omega), by first | exact f.lowNe (by omega) | exact f.ne (by omega)⟩⟩
   refine .call1 rfl rfl rfl rfl rfl @Try.call151 rfl (l01Own2O_c (hl2 := n5)) ?_
   rintro _ r2 ⟨m2, i4, rr12x16, rfl, d, ge12x16, f⟩
   have rk := St.refl [g2] r2
   have e := m2
   refine ⟨e, ?_⟩
   replace g := g.le m2
   replace j := m2.2 _ _ j
   have lt_at12x16 := GHeap.ltg d
   refine .orI ?_ ?_
   ·
    refine .c1 rfl rfl rfl rfl (.makeIN rfl sl_22_A ze_2_L by_2_L rfl rfl (by omega) (by omega) (by omega)) ?_
    rintro _ H7x12 ⟨p8, rfl, l5, ge7x12, y⟩
    replace e := e.trans l5
    refine ⟨e, ?_⟩
    replace g := g.le l5
    replace rk := rk.le l5
    replace j := l5.2 _ _ j
    replace d := l5.2 _ _ d
    have lt_at7x12 := GHeap.ltg y
    refine .orI ?_ ?_
    ·
     refine .c1 rfl rfl rfl rfl (.makeIN rfl sl_22_A ze_2_L by_2_L rfl rfl (by omega) (by omega) (by omega)) ?_
     rintro _ H9x12 ⟨g9x12, rfl, h7, ge9x12, l6⟩
     replace e := e.trans h7
     refine ⟨e, ?_⟩
     replace g := g.le h7
     replace rk := rk.le h7
     replace j := h7.2 _ _ j
     replace d := h7.2 _ _ d
     replace y := h7.2 _ _ y
     have lt_at9x12 := GHeap.ltg l6
     refine .c1 rfl rfl rfl rfl (.litA rfl sl_22_A ze_2_L rfl rfl rfl rfl) ?_
     rintro _ H10x12 ⟨g10x12, rfl, d3, ge10x12, n3⟩
     replace e := e.trans d3
     refine ⟨e, ?_⟩
     replace g := g.le d3
     replace rk := rk.le d3
     replace j := d3.2 _ _ j
     replace d := d3.2 _ _ d
     replace y := d3.2 _ _ y
     replace l6 := d3.2 _ _ l6
     refine .qB rfl e (.build bt_29_Hj rfl rfl rfl) ?_
     refine .r0 rfl rfl rfl (.fillA rfl sz_29_D rfl rfl rfl rfl) ?_
     rintro _ H2008x19 ⟨rfl, b5, at2008x19⟩
     replace g := g.sA b5
     replace rk := rk.sA b5
     have l : NE i4 g2 := .a
     replace d := b5.s d l.ne
     have d7 : NE p8 g2 := .a
     replace y := b5.s y d7.ne
     replace l6 := b5.s l6
     replace n3 := b5.s n3
     refine .done ?_
     exact ⟨_, _, _, _, _, ⟨rfl, rfl, rfl, rfl, rfl, trivial⟩, g, by simp only [Cat.cells, ownP, List.length_replicate]; assumption, ⟨by assumption, by assumption, by assumption, by assumption, by omega, by omega, by omega, by omega, by omega, by omega, by omega, (f.st rk (.cons (f.lowNe (by omega)) (.nil _ _))).low (by omega), by first | exact f.lowNe (by omega) | exact f.ne (by omega), by first | exact f.lowNe (by omega) | exact f.ne (by omega), by first | exact f.lowNe (by omega) | exact f.ne (by omega)⟩⟩
    refine .c1 rfl rfl rfl rfl (.litA rfl sl_22_A ze_2_L rfl rfl rfl rfl) ?_
    rintro _ H10x13 ⟨g10x13, rfl, e4, ge10x13, g0⟩
    replace e := e.trans e4
    refine ⟨e, ?_⟩
    replace g := g.le e4
    replace rk := rk.le e4
    replace j := e4.2 _ _ j
    replace d := e4.2 _ _ d
    replace y := e4.2 _ _ y
    have lt_at10x13 := GHeap.ltg g0
    refine .c1 rfl rfl rfl rfl (.makeIN rfl sl_22_A ze_2_L by_2_L rfl rfl (by omega) (by omega) (by omega)) ?_
    rintro _ H9x13 ⟨g9x13, rfl, e9, ge9x13, o8⟩
    replace e := e.trans e9
    refine ⟨e, ?_⟩
    replace g := g.le e9
    replace rk := rk.le e9
    replace j := e9.2 _ _ j
    replace d := e9.2 _ _ d
    replace y := e9.2 _ _ y
    replace g0 := e9.2 _ _ g0
    refine .qB rfl e (.build bt_29_Hj rfl rfl rfl) ?_
    refine .r0 rfl rfl rfl (.fillA rfl sz_29_D rfl rfl rfl rfl) ?_
    rintro _ H2008x20 ⟨rfl, b6, at2008x20⟩
    replace g := g.sA b6
    replace rk := rk.sA b6
    have l : NE i4 g2 := .a
    replace d := b6.s d l.ne
    have d7 : NE p8 g2 := .a
    replace y := b6.s y d7.ne
    replace g0 := b6.s g0
    replace o8 := b6.s o8
    refine .done ?_
    exact ⟨_, _, _, _, _, ⟨rfl, rfl, rfl, rfl, rfl, trivial⟩, g, by simp only [Cat.cells, ownP, List.length_replicate]; assumption, ⟨by assumption, by assumption, by assumption, by assumption, by omega, by omega, by omega, by omega, by omega, by omega, by omega, (f.st rk (.cons (f.lowNe (by omega)) (.nil _ _))).low (by omega), by first | exact f.lowNe (by omega) | exact f.ne (by omega), by first | exact f.lowNe (by omega) | exact f.ne (by omega), by first | exact f.lowNe (by omega) | exact f.ne (by omega)⟩⟩
   refine .orI ?_ ?_
   ·
    refine .c1 rfl rfl rfl rfl (.makeIN rfl sl_22_A ze_2_L by_2_L rfl rfl (by omega) (by omega) (by omega)) ?_
    rintro _ H9x14 ⟨q4, rfl, l2, ge9x14, w⟩
    replace e := e.trans l2
    refine ⟨e, ?_⟩
    replace g := g.le l2
    replace rk := rk.le l2
    replace j := l2.2 _ _ j
    replace d := l2.2 _ _ d
    have lt_at9x14 := GHeap.ltg w
    refine .orI ?_ ?_
    ·
     refine .c1 rfl rfl rfl rfl (.makeIN rfl sl_22_A ze_2_L by_2_L rfl rfl (by omega) (by omega) (by omega)) ?_
     rintro _ H7x13 ⟨g7x13, rfl, h8, ge7x13, i9⟩
     replace e := e.trans h8
     refine ⟨e, ?_⟩
     replace g := g.le h8
     replace rk := rk.le h8
     replace j := h8.2 _ _ j
     replace d := h8.2 _ _ d
     replace w := h8.2 _ _ w
     have lt_at7x13 := GHeap.ltg i9
     refine .c1 rfl rfl rfl rfl (.litA rfl sl_22_A ze_2_L rfl rfl rfl rfl) ?_
     rintro _ H10x14 ⟨g10x14, rfl, d0, ge10x14, n4⟩
     replace e := e.trans d0
     refine ⟨e, ?_⟩
     replace g := g.le d0
     replace rk := rk.le d0
     replace j := d0.2 _ _ j
     replace d := d0.2 _ _ d
     replace w := d0.2 _ _ w
     replace i9 := d0.2 _ _ i9
     refine .qB rfl e (.build bt_29_Hj rfl rfl rfl) ?_
     refine .r0 rfl rfl rfl (.fillA rfl sz_29_D rfl rfl rfl rfl) ?_
     rintro _ H2008x21 ⟨rfl, a5, at2008x21⟩
     replace g := g.sA a5
     replace rk := rk.sA a5
     have l : NE i4 g2 := .a
     replace d := a5.s d l.ne
     have d9 : NE q4 g2 := .a
     replace w := a5.s w d9.ne
     replace i9 := a5.s i9
     replace n4 := a5.s n4
     refine .done ?_
     exact ⟨_, _, _, _, _, ⟨rfl, rfl, rfl, rfl, rfl, trivial⟩, g, by simp only [Cat.cells, ownP, List.length_replicate]; assumption, ⟨by assumption, by assumption, by assumption, by assumption, by omega, by omega, by omega, by omega, by omega, by omega, by omega, (f.st rk (.cons (f.lowNe (by omega)) (.nil _ _))).low (by omega), by first | exact f.lowNe (by omega) | exact f.ne (by omega), by first | exact f.lowNe (by omega) | exact f.ne (by omega), by first | exact f.lowNe (by omega) | exact f.ne (by omega)⟩⟩
    refine .c1 rfl rfl rfl rfl (.litA rfl sl_22_A ze_2_L rfl rfl rfl rfl) ?_
    rintro _ H10x15 ⟨g10x15, rfl, e2, ge10x15, g1⟩
    replace e := e.trans e2
    refine ⟨e, ?_⟩
    replace g := g.le e2
    replace rk := rk.le e2
    replace j := e2.2 _ _ j
    replace d := e2.2 _ _ d
    replace w := e2.2 _ _ w
    have lt_at10x15 := GHeap.ltg g1
    refine .c1 rfl rfl rfl rfl (.makeIN rfl sl_22_A ze_2_L by_2_L rfl rfl (by omega) (by omega) (by omega)) ?_
    rintro _ H7x14 ⟨g7x14, rfl, f0, ge7x14, p1⟩
    replace e := e.trans f0
    refine ⟨e, ?_⟩
    replace g := g.le f0
    replace rk := rk.le f0
    replace j := f0.2 _ _ j
    replace d := f0.2 _ _ d
    replace w := f0.2 _ _ w
    replace g1 := f0.2 _ _ g1
    refine .qB rfl e (.build bt_29_Hj rfl rfl rfl) ?_
    refine .r0 rfl rfl rfl (.fillA rfl sz_29_D rfl rfl rfl rfl) ?_
    rintro _ H2008x22 ⟨rfl, a6, at2008x22⟩
    replace g := g.sA a6
    replace rk := rk.sA a6
    have l : NE i4 g2 := .a
    replace d := a6.s d l.ne
    have d9 : NE q4 g2 := .a
    replace w := a6.s w d9.ne
    replace g1 := a6.s g1
    replace p1 := a6.s p1
    refine .done ?_
    exact ⟨_, _, _, _, _, ⟨rfl, rfl, rfl, rfl, rfl, trivial⟩, g, by simp only [Cat.cells, ownP, List.length_replicate]; assumption, ⟨by assumption, by assumption, by assumption, by assumption, by omega, by omega, by omega, by omega, by omega, by omega, by omega, (f.st rk (.cons (f.lowNe (by omega)) (.nil _ _))).low (by omega), by first | exact f.lowNe (by omega) | exact f.ne (by omega), by first | exact f.lowNe (by omega) | exact f.ne (by omega), by first | exact f.lowNe (by omega) | exact f.ne (by omega)⟩⟩
   refine .c1 rfl rfl rfl rfl (.litA rfl sl_22_A ze_2_L rfl rfl rfl rfl) ?_
   rintro _ H10x16 ⟨o9, rfl, h0, ge10x16, v⟩
   replace e := e.trans h0
   refine ⟨e, ?_⟩
   replace g := g.le h0
   replace rk := rk.le h0
   replace j := h0.2 _ _ j
   replace d := h0.2 _ _ d
   have lt_at10x16 := GHeap.ltg v
   refine .orI ?_ ?_
   ·
    refine .c1 rfl rfl rfl rfl (.makeIN rfl sl_22_A ze_2_L by_2_L rfl rfl (by omega) (by omega) (by omega)) ?_
    rintro _ H7x15 ⟨g7x15, rfl, h3, ge7x15, j0⟩
    replace e := e.trans h3
    refine ⟨e, ?_⟩
    replace g := g.le h3
    replace rk := rk.le h3
    replace j := h3.2 _ _ j
    replace d := h3.2 _ _ d
    replace v := h3.2 _ _ v
    have lt_at7x15 := GHeap.ltg j0
    refine .c1 rfl rfl rfl rfl (.makeIN rfl sl_22_A ze_2_L by_2_L rfl rfl (by omega) (by omega) (by omega)) ?_
    rintro _ H9x15 ⟨g9x15, rfl, f1, ge9x15, p4⟩
    replace e := e.trans f1
    refine ⟨e, ?_⟩
    replace g := g.le f1
    replace rk := rk.le f1
    replace j := f1.2 _ _ j
    replace d := f1.2 _ _ d
    replace v := f1.2 _ _ v
    replace j0 := f1.2 _ _ j0
    refine .qB rfl e (.build bt_29_Hj rfl rfl rfl) ?_
    refine .r0 rfl rfl rfl (.fillA rfl sz_29_D rfl rfl rfl rfl) ?_
    rintro _ H2008x23 ⟨rfl, a2, at2008x23⟩
    replace g := g.sA a2
    replace rk := rk.sA a2
    have l : NE i4 g2 := .a
    replace d := a2.s d l.ne
    have d2 : NE o9 g2 := .a
    replace v := a2.s v d2.ne
    replace j0 := a2.s j0
    replace p4 := a2.s p4
    refine .done ?_
    exact ⟨_, _, _, _, _, ⟨rfl, rfl, rfl, rfl, rfl, trivial⟩, g, by simp only [Cat.cells, ownP, List.length_replicate]; assumption, ⟨by assumption, by assumption, by assumption, by assumption, by omega, by omega, by omega, by omega, by omega, by omega, by omega, (f.st rk (.cons (f.lowNe (by omega)) (.nil _ _))).low (by omega), by first | exact f.lowNe (by omega) | exact f.ne (by omega), by first | exact f.lowNe (by omega) | exact f.ne (by omega), by first | exact f.lowNe (by omega) | exact f.ne (by omega)⟩⟩
   refine .c1 rfl rfl rfl rfl (.makeIN rfl sl_22_A ze_2_L by_2_L rfl rfl (by omega) (by omega) (by omega)) ?_
   rintro _ H9x16 ⟨g9x16, rfl, h5, ge9x16, l4⟩
   replace e := e.trans h5
   refine ⟨e, ?_⟩
   replace g := g.le h5
   replace rk := rk.le h5
   replace j := h5.2 _ _ j
   replace d := h5.2 _ _ d
   replace v := h5.2 _ _ v
   have lt_at9x16 := GHeap.ltg l4
   refine .c1 rfl rfl rfl rfl (.makeIN rfl sl_22_A ze_2_L by_2_L rfl rfl (by omega) (by omega) (by omega)) ?_
   rintro _ H7x16 ⟨g7x16, rfl, f5, ge7x16, p3⟩
   replace e := e.trans f5
   refine ⟨e, ?_⟩
   replace g := g.le f5
   replace rk := rk.le f5
   replace j := f5.2 _ _ j
   replace d := f5.2 _ _ d
   replace v := f5.2 _ _ v
   replace l4 := f5.2 _ _ l4
   refine .qB rfl e (.build bt_29_Hj rfl rfl rfl) ?_
   refine .r0 rfl rfl rfl (.fillA rfl sz_29_D rfl rfl rfl rfl) ?_
   rintro _ H2008x24 ⟨rfl, a9, at2008x24⟩
   replace g := g.sA a9
   replace rk := rk.sA a9
   have l : NE i4 g2 := .a
   replace d := a9.s d l.ne
   have d2 : NE o9 g2 := .a
   replace v := a9.s v d2.ne
   replace l4 := a9.s l4
   replace p3 := a9.s p3
   refine .done ?_
   exact ⟨_, _, _, _, _, ⟨rfl, rfl, rfl, rfl, rfl, trivial⟩, g, by simp only [Cat.cells, ownP, List.length_replicate]; assumption, ⟨by assumption, by assumption, by assumption, by assumption, by omega, by omega, by omega, by omega, by omega, by omega, by omega, (f.st rk (.cons (f.lowNe (by omega)) (.nil _ _))).low (by omega), by first | exact f.lowNe (by omega) | exact f.ne (by omega), by first | exact f.lowNe (by omega) | exact f.ne (by omega), by first | exact f.lowNe (by omega) | exact f.ne (by omega)⟩⟩
  rintro fr902 H902 ⟨w1, w2, w3, w4, rr, p7, s5, r9, t4⟩
  replace a1 := a1.st s5 (fun k hk => ⟨by omega, trivial⟩)
  refine t8 _ _ ?_
  refine .forget p7 ?_
  refine .ret ?_
  refine t3 _ _ ?_
  refine ⟨_, _, _, _, rfl, ag_29_D, (by rfl), (Mem.of_get r9), ?_⟩
  exact ⟨⟨1, List.replicate T.length 0, List.replicate T.length 0, [0], T⟩, rect_mk (by omega) (by simp; omega) (by simp) (.rep _ (by omega) (by omega)) (.rep _ (by omega) (by omega)) rfl (by unfold Bd; decide) (by simp) (by rw [List.length_replicate]; exact ht.mono (by omega) (by omega)), a1, w1, w2, w3, w4, rr, rfl, t4.low (by omega)⟩
end Go.Proofs.Ytjdedelneppnlaa
namespace Go.Proofs.Ytjdedelneppnlaa
open Go Go.GL Go.RowKit Go.Proofs
set_option maxHeartbeats 8000000 in
theorem l03Poset_c {a : Option Addr} {r : Nat → Option Addr} {rel : List (List Int)} {H : GHeap} (hin : Intss H a rel r := by assumption) (hn : rel.length ≤ 8) (hr : ∀ i, i < rel.length → (rel.getD i []).length = rel.length) :
    GCalls Try.prog 71 [.slice a rel.length rel.length] H (NewRc 2 22 (8 * rel.length) H) := by
  refine GCalls.body (N := 133) (rs := [.cell 2 29]) Try.func71 rfl rfl rfl rfl (fun Qx p1 hend => ?_)
  refine .fg [0] rfl ?_
  have a1 := GHeap.Le.refl H
  have g9 := hin
  refine .seq (fun K1 v0 => .region ?_)
  refine .R rfl (.allocR rfl ze_29_Hj rfl) ?_
  rintro _ H2 ⟨g2, rfl, v3, ge2, d3⟩
  replace a1 := a1.trans v3
  have lt_at2 := GHeap.ltg d3
  refine .nil (v0 _ _ (.seq (fun K2 u2 => .region (.mv rfl (.q rfl (.len sl_23_B rfl) (.mv rfl (.nil (u2 _ _ (.seq (fun K3 u9 => .region ?_))))))))))
  refine .R rfl (.litA rfl sl_23_B ze_22_Hj rfl rfl rfl rfl) ?_
  rintro _ H16 ⟨m8, rfl, l7, ge16, a8⟩
  replace a1 := a1.trans l7
  replace d3 := l7.2 _ _ d3
  have lt_at16 := GHeap.ltg a8
  refine .mv rfl (.nil (u9 _ _ (.seq (fun K4 t6 => .region (.mv rfl ?_)))))
  refine .R rfl (.litA rfl sl_22_A ze_2_L rfl rfl rfl rfl) ?_
  rintro _ v2 ⟨k3, rfl, j7, ge18, b5⟩
  replace a1 := a1.trans j7
  replace d3 := j7.2 _ _ d3
  replace a8 := j7.2 _ _ a8
  have lt_at18 := GHeap.ltg b5
  replace b5 : GHeap.get v2 k3 = some (.row (ints []) 2 true) := b5
  refine .R rfl (.litA rfl sl_22_A ze_2_L rfl rfl rfl rfl) ?_
  rintro _ u8 ⟨k1, rfl, h9, ge19, b8⟩
  replace a1 := a1.trans h9
  replace d3 := h9.2 _ _ d3
  replace a8 := h9.2 _ _ a8
  replace b5 := h9.2 _ _ b5
  have lt_at19 := GHeap.ltg b8
  replace b8 : GHeap.get u8 k1 = some (.row (ints []) 2 true) := b8
  refine .R rfl (.litA rfl sl_22_A ze_2_L rfl rfl rfl rfl) ?_
  rintro _ t8 ⟨g6, rfl, h4, ge20, c5⟩
  replace a1 := a1.trans h4
  replace d3 := h4.2 _ _ d3
  replace a8 := h4.2 _ _ a8
  replace b5 := h4.2 _ _ b5
  replace b8 := h4.2 _ _ b8
  have lt_at20 := GHeap.ltg c5
  replace c5 : GHeap.get t8 g6 = some (.row (ints []) 2 true) := c5
  refine .R rfl (.litA rfl sl_23_B ze_22_Hj rfl rfl rfl rfl) ?_
  rintro _ H21 ⟨g7, rfl, f9, ge21, e3⟩
  replace a1 := a1.trans f9
  replace d3 := f9.2 _ _ d3
  replace a8 := f9.2 _ _ a8
  replace b5 := f9.2 _ _ b5
  replace b8 := f9.2 _ _ b8
  replace c5 := f9.2 _ _ c5
  have lt_at21 := GHeap.ltg e3
  refine .q rfl (.build bt_29_Hj rfl rfl rfl) ?_
  refine .R rfl (.allocR rfl ze_29_Hj rfl) ?_
  rintro _ H5 ⟨g5, rfl, i7, ge5, at5⟩
  have nx_H5 := i7.1
  replace a1 := a1.trans i7
  replace d3 := i7.2 _ _ d3
  replace a8 := i7.2 _ _ a8
  replace b5 := i7.2 _ _ b5
  replace b8 := i7.2 _ _ b8
  replace c5 := i7.2 _ _ c5
  replace e3 := i7.2 _ _ e3
  refine .r0 rfl rfl (.fillA rfl sz_29_D rfl rfl rfl rfl) ?_
  rintro _ a3 ⟨rfl, z, k4⟩
  have nx_H3007 := z.nx
  replace a1 := a1.st z (fun k hk => ⟨by omega, trivial⟩)
  have a0 : NE g2 g5 := .a
  replace d3 := z.s d3 a0.ne
  replace a8 := z.s a8
  replace b5 := z.s b5
  replace b8 := z.s b8
  have e1 : NE g6 g5 := .a
  replace c5 := z.s c5 e1.ne
  have b1 : NE g7 g5 := .a
  replace e3 := z.s e3 b1.ne
  have lt_at3007 := GHeap.ltg k4
  refine .nil (t6 _ _ (.seq (fun K5 t4 => .seq (fun K6 u4 => .region (.mv rfl (.nil (u4 _ _ ?_)))))))
  refine .block ?_
  refine .loopR (σ := Nat × List Int × List Int × List (List Int) × (Nat → Option Addr) × Nat × Nat × Nat × Nat) [(0, some _), (2, some _), (3, some _), (5, some _)] (fun (i, ss, ts, num, rn, g4, j5, gLF, gLT) => [(6, some (.int .i64 (i : Int))), (4, some (.slice (some ⟨g4, 0, none⟩) j5 j5))]) (fun (i, ss, ts, num, rn, g4, j5, gLF, gLT) H' => St [m8, k3, k1, g5] a3 H' ∧ H'.get g4 = some (.row ((slsL rn num)) 22 true) ∧ PL g4 m8 a3.next ∧ j5 = (slsL rn num).length ∧ H'.get gLF = some (.row (ints ss) 2 true) ∧ PL gLF k3 a3.next ∧ H'.get gLT = some (.row (ints ts) 2 true) ∧ PL gLT k1 a3.next ∧ H'.get g5 = some (.row ([.int .i64 (rel.length : Int), .slice (some ⟨gLF, 0, none⟩) ss.length ss.length, .slice (some ⟨gLT, 0, none⟩) ss.length ss.length, .slice (some ⟨g6, 0, none⟩) 0 0, .slice (some ⟨g7, 0, none⟩) 0 0]) 29 true) ∧ g4 ≠ gLF ∧ g4 ≠ gLT ∧ g4 ≠ g5 ∧ gLF ≠ gLT ∧ gLF ≠ g5 ∧ gLT ≠ g5 ∧ (i ≤ rel.length ∧ ss.length ≤ 8 * i ∧ ts.length = ss.length ∧ num.length = i) ∧ Bd 0 (rel.length - 1) ss ∧ Bd 0 (rel.length - 1) ts ∧ Tb 0 (8 * rel.length) rel.length num ∧ OwnL a3.next H' 2 rn num ∧ (∀ j, j < num.length → rn j ≠ some ⟨gLF, 0, none⟩) ∧ ∀ j, j < num.length → rn j ≠ some ⟨gLT, 0, none⟩) (fun (i, ss, ts, num, rn, g4, j5, gLF, gLT) => rel.length - i) ((0, [], [], [], fun _ => none, _, _, k3, k1)) ⟨rfl, rfl, rfl, rfl, trivial⟩ ⟨rfl, rfl, trivial⟩ ?_ ?_
  ·
   refine ⟨.refl _ _, by assumption, ⟨.inl rfl⟩, by rfl, by assumption, ⟨.inl rfl⟩, by assumption, ⟨.inl rfl⟩, by assumption, by omega, by omega, by omega, by omega, by omega, by omega, ?_⟩
   exact ⟨⟨by omega, by simp, rfl, rfl⟩, .nil _ _, .nil _ _, .nil _ _ _, .nil _ _ _ _, fun _ h => by simp at h, fun _ h => by simp at h⟩
  rintro ⟨i, ss, ts, num, rn, g4, j5, gLF, gLT⟩ HL1 ⟨a5, e, h6, ln_L4, l, c2, m, d0, b, j6, i5, f7, ap1_3, i9, j0, hI⟩ KL1 p5
  refine .forget (fr' := [(6, some (.int .i64 (i : Int))), (4, some (.slice (some ⟨g4, 0, none⟩) j5 j5)), (0, some _), (2, some _), (3, some _), (5, some _)]) ⟨rfl, rfl, rfl, rfl, rfl, rfl, trivial⟩ ?_
  have ge_L4 : H.next ≤ g4 := h6.ge (by omega) (by omega)
  have ge_LF : H.next ≤ gLF := c2.ge (by omega) (by omega)
  have ge_LT : H.next ≤ gLT := d0.ge (by omega) (by omega)
  have nx_HL1 := a5.nx
  replace a1 := a1.st a5 (fun k hk => ⟨by omega, by omega, by omega, by omega, trivial⟩)
  have d8 : NE g2 k3 := .a
  have d4 : NE g2 k1 := .a
  replace d3 := a5.same _ _ ⟨(by first | assumption | omega), d8.ne, d4.ne, a0.ne, trivial⟩ d3
  have c7 : NE g6 m8 := .a
  have b9 : NE g6 k3 := .a
  have c3 : NE g6 k1 := .a
  replace c5 := a5.same _ _ ⟨c7.ne, b9.ne, c3.ne, e1.ne, trivial⟩ c5
  have c8 : NE g7 m8 := .a
  have c9 : NE g7 k3 := .a
  have d1 : NE g7 k1 := .a
  replace e3 := a5.same _ _ ⟨c8.ne, c9.ne, d1.ne, b1.ne, trivial⟩ e3
  have lt_at_L4 := GHeap.ltg e
  have lt_at_LF := GHeap.ltg l
  have lt_at_LT := GHeap.ltg m
  have b0 := GHeap.ltg b
  obtain ⟨⟨hi, hs8, hts, hnl⟩, hS, hT, hN, hR, k2, k6⟩ := hI
  have hfl : (slsL rn num).length = num.length := length_slsL _ _
  refine .seq (fun K7 v1 => .seq (fun K8 u5 => .region (.mv rfl (.mv rfl (.q rfl (.cmp rfl rfl rfl) (.nil (u5 _ _ ?_)))))))
  refine .cond rfl (fun o8 => ?_) (fun o8 => ?_)
  ·
   simp only [sps] at o8
   have hr1 := hr i (by omega)
   refine .skip ?_
   refine v1 _ _ (.seq (fun K9 u6 => ?_))
   refine .block ?_
   refine .seq (fun K10 p0 => .region ?_)
   refine .R rfl (.litA rfl sl_22_A ze_2_L rfl rfl rfl rfl) ?_
   rintro _ m4 ⟨m7, rfl, f1, ge28, j8⟩
   have nx_H28 := f1.1
   replace a1 := a1.trans f1
   replace a5 := a5.le f1
   replace e := f1.2 _ _ e
   replace l := f1.2 _ _ l
   replace m := f1.2 _ _ m
   replace b := f1.2 _ _ b
   have lt_at28 := GHeap.ltg j8
   replace j8 : GHeap.get m4 m7 = some (.row (ints []) 2 true) := j8
   refine .mv rfl (.nil (p0 _ _ (.seq (fun K11 p8 => .seq (fun K12 o7 => .region (.mv rfl (.nil (o7 _ _ ?_))))))))
   refine .block ?_
   refine .loopR (σ := Nat × List Int × List Int × List Int × Nat × Nat × Nat × Nat) [(0, some _), (2, some _), (3, some _), (4, some _), (5, some _), (6, some _)] (fun (j, s2, t2, row, f4, j3, a9, b3) => [(8, some (.int .i64 (j : Int))), (7, some (.slice (some ⟨f4, 0, none⟩) j3 j3))]) (fun (j, s2, t2, row, f4, j3, a9, b3) H' => St [m7, gLF, gLT, g5] m4 H' ∧ H'.get f4 = some (.row (ints row) 2 true) ∧ PL f4 m7 m4.next ∧ j3 = row.length ∧ H'.get a9 = some (.row (ints s2) 2 true) ∧ PL a9 gLF m4.next ∧ H'.get b3 = some (.row (ints t2) 2 true) ∧ PL b3 gLT m4.next ∧ H'.get g5 = some (.row ([.int .i64 (rel.length : Int), .slice (some ⟨a9, 0, none⟩) s2.length s2.length, .slice (some ⟨b3, 0, none⟩) s2.length s2.length, .slice (some ⟨g6, 0, none⟩) 0 0, .slice (some ⟨g7, 0, none⟩) 0 0]) 29 true) ∧ f4 ≠ a9 ∧ f4 ≠ b3 ∧ f4 ≠ g5 ∧ a9 ≠ b3 ∧ a9 ≠ g5 ∧ b3 ≠ g5 ∧ (j ≤ rel.length ∧ s2.length ≤ 8 * i + j ∧ t2.length = s2.length ∧ row.length = j) ∧ Bd 0 (rel.length - 1) s2 ∧ Bd 0 (rel.length - 1) t2 ∧ Bd 0 (8 * rel.length) row ∧ OwnL a3.next H' 2 rn num ∧ (∀ j, j < num.length → rn j ≠ some ⟨f4, 0, none⟩) ∧ (∀ j, j < num.length → rn j ≠ some ⟨a9, 0, none⟩) ∧ ∀ j, j < num.length → rn j ≠ some ⟨b3, 0, none⟩) (fun (j, s2, t2, row, f4, j3, a9, b3) => rel.length - j) ((0, ss, ts, [], _, _, gLF, gLT)) ⟨rfl, rfl, rfl, rfl, rfl, rfl, trivial⟩ ⟨rfl, rfl, trivial⟩ ?_ ?_
   ·
    refine ⟨.refl _ _, by assumption, ⟨.inl rfl⟩, by rfl, by assumption, ⟨.inl rfl⟩, by assumption, ⟨.inl rfl⟩, by assumption, by omega, by omega, by omega, by omega, by omega, by omega, ?_⟩
    exact ⟨⟨by omega, by omega, by omega, rfl⟩, hS, hT, .nil _ _, hR.keep (.of_le (by assumption)), hR.ne (by omega), k2, k6⟩
   rintro ⟨j, s2, t2, row, f4, j3, a9, b3⟩ HL2 ⟨o, e2, h2, k8, n, g8, d, h1, b, k7, m3, l8, m1, l5, j2, hI⟩ KL2 m0
   refine .forget (fr' := [(8, some (.int .i64 (j : Int))), (7, some (.slice (some ⟨f4, 0, none⟩) j3 j3)), (0, some _), (2, some _), (3, some _), (4, some _), (5, some _), (6, some _)]) ⟨rfl, rfl, rfl, rfl, rfl, rfl, rfl, rfl, trivial⟩ ?_
   have ge_L7 : H.next ≤ f4 := h2.ge (by omega) (by omega)
   have nx_HL2 := o.nx
   replace a1 := a1.st o (fun k hk => ⟨by omega, by omega, by omega, by omega, trivial⟩)
   replace a5 := a5.st o (fun k hk ho => by simp only [out, and_true] at ho ⊢ <;> exact ⟨by first | exact ho | exact ho.1 | exact ho.2 | exact ho.2.1 | exact ho.2.2 | exact ho.2.2.1 | exact ho.2.2.2 | omega, by first | exact ho | exact ho.1 | exact ho.2 | exact ho.2.1 | exact ho.2.2 | exact ho.2.2.1 | exact ho.2.2.2 | exact c2.ne (by first | exact ho | exact ho.1 | exact ho.2 | exact ho.2.1 | exact ho.2.2 | exact ho.2.2.1 | exact ho.2.2.2 | omega) (by omega) | omega, by first | exact ho | exact ho.1 | exact ho.2 | exact ho.2.1 | exact ho.2.2 | exact ho.2.2.1 | exact ho.2.2.2 | exact d0.ne (by first | exact ho | exact ho.1 | exact ho.2 | exact ho.2.1 | exact ho.2.2 | exact ho.2.2.1 | exact ho.2.2.2 | omega) (by omega) | omega, by first | exact ho | exact ho.1 | exact ho.2 | exact ho.2.1 | exact ho.2.2 | exact ho.2.2.1 | exact ho.2.2.2 | omega⟩)
   have c4 : NE g4 m7 := .a
   replace e := o.same _ _ ⟨c4.ne, j6, i5, f7, trivial⟩ e
   have lt_at_LF2 := GHeap.ltg n
   have lt_at_LT2 := GHeap.ltg d
   have b0 := GHeap.ltg b
   have rk := St.refl [f4, a9, b3, g5] HL2
   obtain ⟨⟨hj, hs9, hts, hrl⟩, hS, hT, hB, hR, h7, k2, k6⟩ := hI
   refine .seq (fun K13 o1 => .seq (fun K14 q6 => .region (.mv rfl (.mv rfl (.q rfl (.cmp rfl rfl rfl) (.nil (q6 _ _ ?_)))))))
   refine .cond rfl (fun p4 => ?_) (fun p4 => ?_)
   ·
    try simp only [sps] at p4
    refine .skip ?_
    refine o1 _ _ (.seq (fun K15 l6 => ?_))
    refine .block ?_
    refine .seq (fun K16 r9 => .region (.mv rfl (.q rfl (.fieldAddr fo_29_1_B rfl) ?_)))
    refine .q rfl (.load on_22_B rfl (by first | assumption | exact Mem.of_get b 1 _ rfl)) ?_
    refine .q rfl (.len sl_22_A rfl) ?_
    refine .R rfl (.litA rfl sl_22_A ze_2_L rfl rfl rfl rfl) ?_
    rintro _ H38 ⟨g38, rfl, f2, ge38, s0⟩
    replace a1 := a1.trans f2
    replace o := o.le f2
    replace rk := rk.le f2
    replace e2 := f2.2 _ _ e2
    replace n := f2.2 _ _ n
    replace d := f2.2 _ _ d
    replace b := f2.2 _ _ b
    have lt_at38 := GHeap.ltg s0
    refine .R rfl (.appendI rfl sl_22_A ze_2_L rfl by_2_L sl_22_A rfl rfl (by assumption) (by assumption) (by first | omega | (simp <;> omega)) (by omega) (by omega)) ?_
    rintro _ H39 ⟨t7, rfl, g1, ge39, b4⟩
    replace a1 := a1.st g1 (fun k hk => ⟨by omega, trivial⟩)
    replace o := o.sP g1
    replace rk := rk.sP g1
    replace n := g1.same _ _ ⟨(Ne.symm k7), trivial⟩ n
    replace d := g1.same _ _ ⟨(Ne.symm m3), trivial⟩ d
    replace b := g1.same _ _ ⟨(Ne.symm l8), trivial⟩ b
    have lt_at39 := GHeap.ltg b4
    replace hin := g9.mono a1
    refine .mv rfl (.nil (r9 _ _ (.seq (fun K17 q0 => .region ?_))))
    have u1 := hin.2 i (by omega)
    refine .mv rfl (.mv rfl ?_)
    refine .q rfl (.idxN sl_23_B (Intss.sl (by assumption)) rfl rfl (by omega)) ?_
    refine .q rfl (.loadR on_22_B (by assumption) rfl (by omega)) ?_
    refine .mv rfl ?_
    refine .q rfl (.idxN sl_22_A (by assumption) rfl rfl (by omega)) ?_
    refine .q rfl (.loadI on_2_A (by assumption) rfl (by omega)) ?_
    refine .q rfl (.cmp rfl rfl rfl) (.nil (q0 _ _ ?_))
    refine .cond rfl (fun u3 => ?_) (fun u3 => ?_)
    ·
     obtain ⟨s3, n0, s8, r6⟩ : ∃ s3, s3 = s2 ++ [(i : Int)] ∧ s3.length = s2.length + 1 ∧ Bd 0 (rel.length - 1) s3 := ⟨_, rfl, by simp, hS.snoc (by omega) (by omega)⟩
     obtain ⟨t3, n5, v4, o6⟩ : ∃ t3, t3 = t2 ++ [(j : Int)] ∧ t3.length = t2.length + 1 ∧ Bd 0 (rel.length - 1) t3 := ⟨_, rfl, by simp, hT.snoc (by omega) (by omega)⟩
     refine .seq (fun K18 p6 => .region (.q rfl (.fieldAddr fo_29_1_B rfl) ?_))
     refine .q rfl (.load on_22_B rfl (by first | assumption | exact Mem.of_get b 1 _ rfl)) ?_
     refine .mv rfl ?_
     refine .R rfl (.litA rfl sl_22_A ze_2_L rfl rfl rfl rfl) ?_
     rintro _ H51 ⟨g51, rfl, g3, ge51, q8⟩
     replace o := o.le g3
     replace rk := rk.le g3
     replace n := g3.2 _ _ n
     replace d := g3.2 _ _ d
     replace b := g3.2 _ _ b
     replace b4 := g3.2 _ _ b4
     have lt_at51 := GHeap.ltg q8
     refine .R rfl (.appendI rfl sl_22_A ze_2_L rfl by_2_L sl_22_A rfl rfl (by assumption) (by assumption) (by first | omega | (simp <;> omega)) (by omega) (by omega)) ?_
     rintro _ H52 ⟨t1, rfl, h0, ge52, e4⟩
     replace o := o.sQ h0
     replace rk := rk.sQ h0
     replace d := h0.same _ _ ⟨(Ne.symm m1), trivial⟩ d
     replace b := h0.same _ _ ⟨(Ne.symm l5), trivial⟩ b
     replace b4 := h0.s b4
     have lt_at52 := GHeap.ltg e4
     refine .q rfl (.fieldAddr fo_29_1_B rfl) ?_
     refine .r0 rfl rfl (.storeR rfl sz_22_Ch rfl rfl rfl (by assumption) (by first | exact Nat.le_of_ble_eq_true rfl | (simp; done) | (simp <;> omega))) ?_
     rintro _ H13006 ⟨rfl, a2, t⟩
     have nx_H13006 := a2.nx
     replace o := o.sA a2
     replace rk := rk.sA a2
     replace d := a2.same _ _ ⟨j2, trivial⟩ d
     have d6 : NE t7 g5 := .a
     replace b4 := a2.s b4 d6.ne
     have d7 : NE t1 g5 := .a
     replace e4 := a2.s e4 d7.ne
     have lt_at13006 := GHeap.ltg t
     try simp only [Nat.zero_add, List.set_cons_succ, List.set_cons_zero] at t
     refine .nil (p6 _ _ (.region (.q rfl (.fieldAddr fo_29_2_B rfl) ?_)))
     refine .q rfl (.load on_22_B rfl (by first | assumption | exact Mem.of_get t 2 _ rfl)) ?_
     refine .mv rfl ?_
     refine .R rfl (.litA rfl sl_22_A ze_2_L rfl rfl rfl rfl) ?_
     rintro _ H57 ⟨g57, rfl, g0, ge57, r2⟩
     replace o := o.le g0
     replace rk := rk.le g0
     replace d := g0.2 _ _ d
     replace b4 := g0.2 _ _ b4
     replace e4 := g0.2 _ _ e4
     replace t := g0.2 _ _ t
     have lt_at57 := GHeap.ltg r2
     refine .R rfl (.appendI rfl sl_22_A ze_2_L rfl by_2_L sl_22_A rfl rfl (by assumption) (by assumption) (by first | omega | (simp <;> omega)) (by omega) (by omega)) ?_
     rintro _ H58 ⟨u0, rfl, h8, ge58, l2⟩
     replace o := o.sQ h8
     replace rk := rk.sQ h8
     replace b4 := h8.s b4
     replace e4 := h8.s e4
     replace t := h8.same _ _ ⟨(Ne.symm j2), trivial⟩ t
     refine .q rfl (.fieldAddr fo_29_2_B rfl) ?_
     refine .r0 rfl rfl (.storeR rfl sz_22_Ch rfl rfl rfl (by assumption) (by first | exact Nat.le_of_ble_eq_true rfl | (simp; done) | (simp <;> omega))) ?_
     rintro _ H14006 ⟨rfl, a7, i4⟩
     replace o := o.sA a7
     replace rk := rk.sA a7
     replace b4 := a7.s b4 d6.ne
     replace e4 := a7.s e4 d7.ne
     replace l2 := a7.s l2
     try simp only [Nat.zero_add, List.set_cons_succ, List.set_cons_zero] at i4
     refine .nil (l6 _ _ (.region (.mv rfl ?_)))
     refine .q rfl (.add rfl rfl rfl (by omega) (by omega)) ?_
     refine .mv rfl (.nil ?_)
     refine m0 ((j + 1, s3, t3, row ++ [(s2.length : Int)], _, _, t1, u0)) _ _ ?_ ?_ ⟨rfl, rfl, rfl, rfl, rfl, rfl, rfl, rfl, trivial⟩
     ·
      refine ⟨o, by assumption, by exact ⟨.inr (by omega)⟩, by (simp only [List.length_append, List.length_cons, List.length_nil] <;> omega), by (rw [n0]; assumption), by exact ⟨.inr (by omega)⟩, by (rw [n5]; assumption), by exact ⟨.inr (by omega)⟩, by (rw [s8]; assumption), by omega, by omega, by omega, by omega, by omega, by omega, ?_⟩
      have hR' := hR.st rk (.cons h7 (.cons k2 (.cons k6 (.cons (hR.lowNe (by omega)) (.nil _ _)))))
      exact ⟨⟨by omega, by omega, by omega, by simp; omega⟩, r6, o6, hB.snoc (by omega) (by omega), hR', hR.ne (by omega), by first | exact k2 | exact hR.ne (by omega), by first | exact k6 | exact hR.ne (by omega)⟩
     (dsimp only; omega)
    obtain ⟨s3, n0, s8, r6⟩ : ∃ s3, s3 = s2 ∧ s3.length = s2.length ∧ Bd 0 (rel.length - 1) s3 := ⟨_, rfl, by simp, hS⟩
    obtain ⟨t3, n5, v4, o6⟩ : ∃ t3, t3 = t2 ∧ t3.length = t2.length ∧ Bd 0 (rel.length - 1) t3 := ⟨_, rfl, by simp, hT⟩
    refine .skip ?_
    refine l6 _ _ (.region (.mv rfl ?_))
    refine .q rfl (.add rfl rfl rfl (by omega) (by omega)) ?_
    refine .mv rfl (.nil ?_)
    refine m0 ((j + 1, s3, t3, row ++ [(s2.length : Int)], _, _, a9, b3)) _ _ ?_ ?_ ⟨rfl, rfl, rfl, rfl, rfl, rfl, rfl, rfl, trivial⟩
    ·
     refine ⟨o, by assumption, by exact ⟨.inr (by omega)⟩, by (simp only [List.length_append, List.length_cons, List.length_nil] <;> omega), by (rw [n0]; assumption), by assumption, by (rw [n5]; assumption), by assumption, by (rw [n0]; assumption), by omega, by omega, by omega, by assumption, by assumption, by assumption, ?_⟩
     have hR' := hR.st rk (.cons h7 (.cons k2 (.cons k6 (.cons (hR.lowNe (by omega)) (.nil _ _)))))
     exact ⟨⟨by omega, by omega, by omega, by simp; omega⟩, r6, o6, hB.snoc (by omega) (by omega), hR', hR.ne (by omega), by first | exact k2 | exact hR.ne (by omega), by first | exact k6 | exact hR.ne (by omega)⟩
    (dsimp only; omega)
   try simp only [sps] at p4
   refine .exit ?_
   refine p8 _ _ (.region ?_)
   obtain rfl : j = rel.length := by omega
   obtain rfl := k8
   have r5 := e
   refine .mv rfl (.mv rfl ?_)
   refine .R rfl (.litA rfl sl_23_B ze_22_Hj rfl rfl rfl rfl) ?_
   rintro _ H62 ⟨g62, rfl, f0, ge62, p2⟩
   replace a5 := a5.le f0
   replace e := f0.2 _ _ e
   replace e2 := f0.2 _ _ e2
   replace n := f0.2 _ _ n
   replace d := f0.2 _ _ d
   replace b := f0.2 _ _ b
   have lt_at62 := GHeap.ltg p2
   refine .R rfl (.appendV rfl sl_23_B ze_22_Hj rfl by_22_Hj sl_23_B rfl rfl (by assumption) (by assumption) (by first | omega | (simp <;> omega)) rfl rfl (by omega) (by omega)) ?_
   rintro _ H63 ⟨g63, rfl, f8, ge63, at63⟩
   replace a5 := a5.sP f8
   replace e2 := f8.same _ _ ⟨(Ne.symm (h2.ne c4.ne (by omega))), trivial⟩ e2
   replace n := f8.same _ _ ⟨(Ne.symm (g8.ne j6 (by omega))), trivial⟩ n
   replace d := f8.same _ _ ⟨(Ne.symm (h1.ne i5 (by omega))), trivial⟩ d
   replace b := f8.same _ _ ⟨(Ne.symm f7), trivial⟩ b
   refine .mv rfl (.nil (u6 _ _ (.region (.mv rfl ?_))))
   refine .q rfl (.add rfl rfl rfl (by omega) (by omega)) ?_
   refine .mv rfl (.nil ?_)
   refine p5 ((i + 1, s2, t2, num ++ [row], upd rn num.length (some ⟨f4, 0, none⟩), _, _, a9, b3)) _ _ ?_ ?_ ⟨rfl, rfl, rfl, rfl, rfl, rfl, trivial⟩
   ·
    refine ⟨a5, by (rw [slsL_snoc]; assumption), by exact ⟨.inr (by omega)⟩, by (rw [slsL_snoc] <;> (first | omega | (simp only [List.length_append, List.length_cons, List.length_nil] <;> omega))), by assumption, by exact g8.trans c2 (by omega), by assumption, by exact h1.trans d0 (by omega), by assumption, by omega, by omega, by omega, by assumption, by assumption, by assumption, ?_⟩
    have hR' := (hR.keep (.of_le f0)).st f8 (.cons (hR.neT r5 rfl) (.nil _ _))
    exact ⟨⟨by omega, by omega, by omega, by simp; omega⟩, hS, hT, hN.snoc (by omega) hB, hR'.snoc2 (by assumption) h7 (h2.ge (by omega) (by omega)), ne_snoc k2 (by omega), ne_snoc k6 (by omega)⟩
   (dsimp only; omega)
  try simp only [sps] at o8
  refine .exit ?_
  refine t4 _ _ (.seq (fun K19 n9 => .seq (fun K20 p7 => .region ?_)))
  obtain rfl : i = rel.length := by omega
  refine .mv rfl (.nil (p7 _ _ ?_))
  refine .block ?_
  refine .loopR (σ := Nat × List Int × Nat) [(2, some _), (3, some _), (4, some _), (5, some _)] (fun (x, is, gLI) => [(9, some (.int .i64 (x : Int)))]) (fun (x, is, gLI) H' => St [g6, g5] HL1 H' ∧ H'.get gLI = some (.row (ints is) 2 true) ∧ PL gLI g6 HL1.next ∧ H'.get g5 = some (.row ([.int .i64 (rel.length : Int), .slice (some ⟨gLF, 0, none⟩) ss.length ss.length, .slice (some ⟨gLT, 0, none⟩) ss.length ss.length, .slice (some ⟨gLI, 0, none⟩) x x, .slice (some ⟨g7, 0, none⟩) 0 0]) 29 true) ∧ gLI ≠ g5 ∧ (x ≤ rel.length ∧ is.length = x) ∧ Bd 0 (8 * rel.length) is ∧ OwnL a3.next H' 2 rn num ∧ ∀ j, j < num.length → rn j ≠ some ⟨gLI, 0, none⟩) (fun (x, is, gLI) => rel.length - x) ((0, [], g6)) ⟨rfl, rfl, rfl, rfl, trivial⟩ ⟨rfl, trivial⟩ ?_ ?_
  ·
   refine ⟨.refl _ _, by assumption, ⟨.inl rfl⟩, by assumption, by omega, ?_⟩
   exact ⟨⟨by omega, rfl⟩, .nil _ _, hR, hR.lowNe (by omega)⟩
  rintro ⟨x, is, gLI⟩ HL3 ⟨a6, b6, e6, b, i6, hI⟩ KL3 s5
  refine .forget (fr' := [(9, some (.int .i64 (x : Int))), (2, some _), (3, some _), (4, some _), (5, some _)]) ⟨rfl, rfl, rfl, rfl, rfl, trivial⟩ ?_
  have ge_LI : H.next ≤ gLI := e6.ge (by omega) (by omega)
  have nx_HL3 := a6.nx
  replace a1 := a1.st a6 (fun k hk => ⟨by omega, by omega, trivial⟩)
  have e0 : NE g2 g6 := .a
  replace d3 := a6.same _ _ ⟨e0.ne, a0.ne, trivial⟩ d3
  have d2 : NE g7 g6 := .a
  replace e3 := a6.same _ _ ⟨d2.ne, b1.ne, trivial⟩ e3
  replace e := a6.same _ _ ⟨(Ne.symm (h6.ne c7.ne (by omega))), f7, trivial⟩ e
  replace l := a6.same _ _ ⟨(Ne.symm (c2.ne b9.ne (by omega))), i9, trivial⟩ l
  replace m := a6.same _ _ ⟨(Ne.symm (d0.ne c3.ne (by omega))), j0, trivial⟩ m
  have lt_at_LI := GHeap.ltg b6
  have b0 := GHeap.ltg b
  have rk := St.refl [gLI, g5] HL3
  obtain ⟨⟨hx, hxl⟩, s7, hR, m9⟩ := hI
  refine .seq (fun K21 o2 => .seq (fun K22 r8 => .region (.mv rfl (.mv rfl (.q rfl (.cmp rfl rfl rfl) (.nil (r8 _ _ ?_)))))))
  refine .cond rfl (fun o0 => ?_) (fun o0 => ?_)
  ·
   simp only [sps] at o0
   have n1 := hN.at (i := x) (j := x) (by omega) (by omega)
   have n2 := (hN x (by omega)).1
   refine .skip ?_
   refine o2 _ _ (.seq (fun K23 o4 => ?_))
   refine .block ?_
   refine .regionD mo_B (.q 0 (.q 1 (.q 2 (.q 3 (.q 4 (.q 5 (.q 6 (.q 7 (.q 8 (.c 9 1 (.c 10 0 (.q 11 (.c 12 0 (.done)))))))))))))) (by kernel_rfl) ?_
   have iN := (hR.low (b' := H.next) (by omega)).intss e (by omega)
   have u1 := iN.2 x (by omega)
   refine .q rfl (.fieldAddr fo_29_3_B rfl) ?_
   refine .q rfl (.load on_22_B rfl (by first | assumption | exact Mem.of_get b 3 _ rfl)) ?_
   refine .mv rfl rfl (.mv rfl rfl ?_)
   refine .q rfl (.idxN sl_23_B (by first | exact (Intss.sl (by assumption)) | exact SlA.of_row e (by first | rfl | (simp; done) | (simp <;> omega))) rfl rfl (by omega)) ?_
   refine .q rfl (.loadR on_22_B (by assumption) rfl (by omega)) ?_
   refine .mv rfl rfl ?_
   refine .q rfl (.idxN sl_22_A (by assumption) rfl rfl (by omega)) ?_
   refine .q rfl (.loadI on_2_A (by assumption) rfl (by omega)) ?_
   refine .c1 rfl rfl rfl rfl (.litA rfl sl_22_A ze_2_L rfl rfl rfl rfl) ?_
   rintro _ H78 ⟨g78, rfl, h5, ge78, r3⟩
   have u7 := h5
   refine ⟨u7, ?_⟩
   replace a6 := a6.le h5
   replace rk := rk.le h5
   replace b6 := h5.2 _ _ b6
   replace b := h5.2 _ _ b
   have lt_at78 := GHeap.ltg r3
   refine .c0 rfl rfl rfl rfl (.appendI rfl sl_22_A ze_2_L rfl by_2_L sl_22_A rfl rfl (by assumption) (by assumption) (by first | omega | (simp <;> omega)) (by omega) (by omega)) ?_
   rintro _ H79 ⟨t5, rfl, j9, ge79, m5⟩
   replace a6 := a6.sP j9
   replace rk := rk.sP j9
   replace b := j9.same _ _ ⟨(Ne.symm i6), trivial⟩ b
   refine .q rfl (.fieldAddr fo_29_3_B rfl) ?_
   refine .r0 rfl rfl rfl (.storeR rfl sz_22_Ch rfl rfl rfl (by assumption) (by first | exact Nat.le_of_ble_eq_true rfl | (simp; done) | (simp <;> omega))) ?_
   rintro _ H19012 ⟨rfl, e5, i2⟩
   replace a6 := a6.sA e5
   replace rk := rk.sA e5
   replace m5 := e5.s m5
   try simp only [Nat.zero_add, List.set_cons_succ, List.set_cons_zero] at i2
   refine .done ?_
   refine o4 _ _ (.region (.mv rfl ?_))
   refine .q rfl (.add rfl rfl rfl (by omega) (by omega)) ?_
   refine .mv rfl (.nil ?_)
   refine s5 ((x + 1, is ++ [(num.getD x []).getD x 0], t5)) _ _ ?_ ?_ ⟨rfl, rfl, rfl, rfl, rfl, trivial⟩
   ·
    refine ⟨a6, by assumption, by exact ⟨.inr (by omega)⟩, by assumption, by omega, ?_⟩
    exact ⟨⟨by omega, by simp; omega⟩, s7.snoc n1.1 n1.2, hR.st rk (.cons m9 (.cons (hR.lowNe (by omega)) (.nil _ _))), hR.ne (by omega)⟩
   (dsimp only; omega)
  try simp only [sps] at o0
  refine .exit ?_
  refine n9 _ _ (.seq (fun K24 n4 => .seq (fun K25 q5 => .region ?_)))
  obtain rfl : x = rel.length := by omega
  refine .mv rfl (.nil (q5 _ _ ?_))
  refine .block ?_
  refine .loopR (σ := Nat × (Nat → Option Addr) × List (List Int) × Nat) [(2, some _), (4, some _), (5, some _)] (fun (f, rr, cs, gLC) => [(10, some (.int .i64 (f : Int)))]) (fun (f, rr, cs, gLC) H' => St [g7, g5] HL3 H' ∧ H'.get gLC = some (.row ((slsL rr cs)) 22 true) ∧ PL gLC g7 HL3.next ∧ H'.get g5 = some (.row ([.int .i64 (rel.length : Int), .slice (some ⟨gLF, 0, none⟩) ss.length ss.length, .slice (some ⟨gLT, 0, none⟩) ss.length ss.length, .slice (some ⟨gLI, 0, none⟩) rel.length rel.length, .slice (some ⟨gLC, 0, none⟩) f f]) 29 true) ∧ gLC ≠ g5 ∧ (f ≤ ss.length ∧ cs.length = f) ∧ Tb (-1) (8 * rel.length) ss.length cs ∧ OwnL a3.next H' 2 rn num ∧ OwnL a3.next H' 2 rr cs ∧ (∀ j, j < cs.length → rr j ≠ some ⟨gLF, 0, none⟩) ∧ (∀ j, j < cs.length → rr j ≠ some ⟨gLT, 0, none⟩) ∧ ∀ j, j < cs.length → rr j ≠ some ⟨gLI, 0, none⟩) (fun (f, rr, cs, gLC) => ss.length - f) ((0, fun _ => none, [], g7)) ⟨rfl, rfl, rfl, trivial⟩ ⟨rfl, trivial⟩ ?_ ?_
  ·
   refine ⟨.refl _ _, by assumption, ⟨.inl rfl⟩, by assumption, by omega, ?_⟩
   exact ⟨⟨by omega, rfl⟩, .nil _ _ _, hR, .nil _ _ _ _, fun _ h => by simp at h, fun _ h => by simp at h, fun _ h => by simp at h⟩
  rintro ⟨f, rr, cs, gLC⟩ HL4 ⟨v, y, i8, b, l1, hI⟩ KL4 o9
  refine .forget (fr' := [(10, some (.int .i64 (f : Int))), (2, some _), (4, some _), (5, some _)]) ⟨rfl, rfl, rfl, rfl, trivial⟩ ?_
  have ge_LC : H.next ≤ gLC := i8.ge (by omega) (by omega)
  have nx_HL4 := v.nx
  replace a1 := a1.st v (fun k hk => ⟨by omega, by omega, trivial⟩)
  have d5 : NE g2 g7 := .a
  replace d3 := v.same _ _ ⟨d5.ne, a0.ne, trivial⟩ d3
  replace e := v.same _ _ ⟨(Ne.symm (h6.ne c8.ne (by omega))), f7, trivial⟩ e
  replace l := v.same _ _ ⟨(Ne.symm (c2.ne c9.ne (by omega))), i9, trivial⟩ l
  replace m := v.same _ _ ⟨(Ne.symm (d0.ne d1.ne (by omega))), j0, trivial⟩ m
  replace b6 := v.same _ _ ⟨(Ne.symm (e6.ne d2.ne (by omega))), i6, trivial⟩ b6
  have lt_at_LC := GHeap.ltg y
  have b0 := GHeap.ltg b
  have rk := St.refl [gLC, g5] HL4
  obtain ⟨⟨hf, hcl⟩, hC, hR, hQ, s9, t0, m9⟩ := hI
  have hatC := y
  have hfl : (slsL rr cs).length = cs.length := length_slsL _ _
  refine .seq (fun K26 s4 => .seq (fun K27 r1 => .region (.mv rfl (.q rfl (.fieldAddr fo_29_1_B rfl) ?_))))
  refine .q rfl (.load on_22_B rfl (by first | assumption | exact Mem.of_get b 1 _ rfl)) ?_
  refine .q rfl (.len sl_22_A rfl) (.q rfl (.cmp rfl rfl rfl) (.nil (r1 _ _ ?_)))
  refine .cond rfl (fun p3 => ?_) (fun p3 => ?_)
  ·
   simp only [sps] at p3
   have q1 := hS f (by omega)
   refine .skip ?_
   refine s4 _ _ (.seq (fun K28 n7 => ?_))
   refine .block ?_
   refine .seq (fun K29 q3 => .region ?_)
   refine .R rfl (.litA rfl sl_22_A ze_2_L rfl rfl rfl rfl) ?_
   rintro _ q7 ⟨m2, rfl, e9, ge88, k0⟩
   have nx_H88 := e9.1
   replace v := v.le e9
   replace rk := rk.le e9
   replace e := e9.2 _ _ e
   replace l := e9.2 _ _ l
   replace m := e9.2 _ _ m
   replace y := e9.2 _ _ y
   replace b := e9.2 _ _ b
   have lt_at88 := GHeap.ltg k0
   replace k0 : GHeap.get q7 m2 = some (.row (ints []) 2 true) := k0
   refine .mv rfl (.nil (q3 _ _ (.seq (fun K30 p9 => .seq (fun K31 r4 => .region (.mv rfl (.nil (r4 _ _ ?_))))))))
   refine .block ?_
   refine .loopR (σ := Nat × List Int × Nat × Nat) [(2, some _), (4, some _), (5, some _), (10, some _)] (fun (g, row, b2, e7) => [(12, some (.int .i64 (g : Int))), (11, some (.slice (some ⟨b2, 0, none⟩) e7 e7))]) (fun (g, row, b2, e7) H' => St [m2] q7 H' ∧ H'.get b2 = some (.row (ints row) 2 true) ∧ PL b2 m2 q7.next ∧ e7 = row.length ∧ (g ≤ ss.length ∧ row.length = g) ∧ Bd (-1) (8 * rel.length) row) (fun (g, row, b2, e7) => ss.length - g) ((0, [], _, _)) ⟨rfl, rfl, rfl, rfl, trivial⟩ ⟨rfl, rfl, trivial⟩ ?_ ?_
   ·
    refine ⟨.refl _ _, by assumption, ⟨.inl rfl⟩, by rfl, ?_⟩
    exact ⟨⟨by omega, rfl⟩, .nil _ _⟩
   rintro ⟨g, row, b2, e7⟩ HL5 ⟨w, p, a4, k5, hI⟩ KL5 l0
   refine .forget (fr' := [(12, some (.int .i64 (g : Int))), (11, some (.slice (some ⟨b2, 0, none⟩) e7 e7)), (2, some _), (4, some _), (5, some _), (10, some _)]) ⟨rfl, rfl, rfl, rfl, rfl, rfl, trivial⟩ ?_
   have nx_HL5 := w.nx
   replace v := v.sA w
   replace rk := rk.sA w
   replace e := w.s e
   replace l := w.s l
   replace m := w.s m
   have c6 : NE gLC m2 := .a
   replace y := w.s y c6.ne
   have d9 : NE g5 m2 := .a
   replace b := w.s b d9.ne
   obtain ⟨⟨hg, hrl⟩, hB⟩ := hI
   refine .seq (fun K32 o5 => .seq (fun K33 q9 => .region (.mv rfl (.q rfl (.fieldAddr fo_29_1_B rfl) ?_))))
   refine .q rfl (.load on_22_B rfl (by first | assumption | exact Mem.of_get b 1 _ rfl)) ?_
   refine .q rfl (.len sl_22_A rfl) (.q rfl (.cmp rfl rfl rfl) (.nil (q9 _ _ ?_)))
   refine .cond rfl (fun s6 => ?_) (fun s6 => ?_)
   ·
    simp only [sps] at s6
    have q4 := hT g (by omega)
    refine .skip ?_
    refine o5 _ _ (.seq (fun K34 l4 => ?_))
    refine .block ?_
    refine .seq (fun K35 o3 => .region (.mv rfl (.nil (o3 _ _ (.seq (fun K36 l3 => .seq (fun K37 n6 => ?_)))))))
    refine .regionD mo_B (.q 0 (.q 1 (.q 2 (.q 3 (.q 4 (.q 5 (.q 6 (.q 7 (.q 8 (.q 9 (.q 10 (.done)))))))))))) (by kernel_rfl) ?_
    refine .q rfl (.fieldAddr fo_29_2_B rfl) ?_
    refine .q rfl (.load on_22_B rfl (by first | assumption | exact Mem.of_get b 2 _ rfl)) ?_
    refine .mv rfl rfl ?_
    refine .q rfl (.idxN sl_22_A (by first | assumption | exact SlA.of_row m (by first | rfl | (simp; done) | (simp <;> omega))) rfl rfl (by omega)) ?_
    refine .q rfl (.loadI on_2_A (by first | assumption | exact Ints.of_get m) rfl (by omega)) ?_
    refine .q rfl (.fieldAddr fo_29_1_B rfl) ?_
    refine .q rfl (.load on_22_B rfl (by first | assumption | exact Mem.of_get b 1 _ rfl)) ?_
    refine .mv rfl rfl ?_
    refine .q rfl (.idxN sl_22_A (by first | assumption | exact SlA.of_row l (by first | rfl | (simp; done) | (simp <;> omega))) rfl rfl (by omega)) ?_
    refine .q rfl (.loadI on_2_A (by first | assumption | exact Ints.of_get l) rfl (by omega)) ?_
    refine .q rfl (.cmp rfl rfl rfl) ?_
    refine .done ?_
    refine n6 _ _ ?_
    refine .cond rfl (fun q2 => ?_) (fun q2 => ?_)
    ·
     have n1 := hN.at (i := (ss.getD f 0).toNat) (j := (ts.getD g 0).toNat) (by omega) (by omega)
     obtain ⟨h3, r7, n3⟩ : ∃ h3, h3 = (num.getD (ss.getD f 0).toNat []).getD (ts.getD g 0).toNat 0 ∧ -1 ≤ h3 ∧ h3 ≤ 8 * rel.length := ⟨_, rfl, by omega, by omega⟩
     refine .regionD mo_B (.q 0 (.q 1 (.q 2 (.q 3 (.q 4 (.q 5 (.q 6 (.q 7 (.q 8 (.q 9 (.q 10 (.q 11 (.q 12 (.q 13 (.q 14 (.q 15 (.done))))))))))))))))) (by kernel_rfl) ?_
     have hRn := hR.st rk (.cons (hR.neT hatC rfl) (.cons (hR.lowNe (by omega)) (.nil _ _)))
     have iN := (hRn.low (b' := H.next) (by omega)).intss e (by omega)
     have u1 := iN.2 (ss.getD f 0).toNat (by omega)
     have n2 := (hN (ss.getD f 0).toNat (by omega)).1
     refine .mv rfl rfl (.q rfl (.fieldAddr fo_29_1_B rfl) ?_)
     refine .q rfl (.load on_22_B rfl (by first | assumption | exact Mem.of_get b 1 _ rfl)) ?_
     refine .mv rfl rfl ?_
     refine .q rfl (.idxN sl_22_A (by first | assumption | exact SlA.of_row l (by first | rfl | (simp; done) | (simp <;> omega))) rfl rfl (by omega)) ?_
     refine .q rfl (.loadI on_2_A (by first | assumption | exact Ints.of_get l) rfl (by omega)) ?_
     refine .q rfl (.idx1 sl_23_B (by first | exact (Intss.sl (by assumption)) | exact SlA.of_row e (by first | rfl | (simp; done) | (simp <;> omega))) rfl rfl (by omega) (by omega)) ?_
     refine .q rfl (.loadR on_22_B (by assumption) rfl (by omega)) ?_
     refine .q rfl (.fieldAddr fo_29_2_B rfl) ?_
     refine .q rfl (.load on_22_B rfl (by first | assumption | exact Mem.of_get b 2 _ rfl)) ?_
     refine .mv rfl rfl ?_
     refine .q rfl (.idxN sl_22_A (by first | assumption | exact SlA.of_row m (by first | rfl | (simp; done) | (simp <;> omega))) rfl rfl (by omega)) ?_
     refine .q rfl (.loadI on_2_A (by first | assumption | exact Ints.of_get m) rfl (by omega)) ?_
     refine .q rfl (.idx1 sl_22_A (by assumption) rfl rfl (by omega) (by omega)) ?_
     refine .q rfl (.loadI on_2_A (by assumption) rfl (by omega)) ?_
     refine .mv rfl rfl ?_
     refine .done ?_
     refine l3 _ _ (.region (.mv rfl (.mv rfl ?_)))
     refine .R rfl (.litA rfl sl_22_A ze_2_L rfl rfl rfl rfl) ?_
     rintro _ H124 ⟨g124, rfl, j4, ge124, l9⟩
     replace w := w.le j4
     replace p := j4.2 _ _ p
     have lt_at124 := GHeap.ltg l9
     refine .R rfl (.appendI rfl sl_22_A ze_2_L rfl by_2_L sl_22_A rfl rfl (by assumption) (by assumption) (by first | omega | (simp <;> omega)) (by omega) (by omega)) ?_
     rintro _ H125 ⟨g125, rfl, k9, ge125, at125⟩
     replace w := w.sP k9
     refine .mv rfl (.nil (l4 _ _ (.region (.mv rfl ?_))))
     refine .q rfl (.add rfl rfl rfl (by omega) (by omega)) ?_
     refine .mv rfl (.nil ?_)
     refine l0 ((g + 1, row ++ [h3], _, _)) _ _ ?_ ?_ ⟨rfl, rfl, rfl, rfl, rfl, rfl, trivial⟩
     ·
      refine ⟨w, by (rw [r7]; assumption), by exact ⟨.inr (by omega)⟩, by (simp only [List.length_append, List.length_cons, List.length_nil] <;> omega), ?_⟩
      exact ⟨⟨by omega, by simp; omega⟩, hB.snoc (by omega) (by omega)⟩
     (dsimp only; omega)
    obtain ⟨h3, r7, n3⟩ : ∃ h3 : Int, h3 = -1 ∧ -1 ≤ h3 ∧ h3 ≤ 8 * rel.length := ⟨_, rfl, by omega, by omega⟩
    refine .skip ?_
    refine l3 _ _ (.region (.mv rfl (.mv rfl ?_)))
    refine .R rfl (.litA rfl sl_22_A ze_2_L rfl rfl rfl rfl) ?_
    rintro _ H124x2 ⟨g124x2, rfl, f5, ge124x2, i0⟩
    replace w := w.le f5
    replace p := f5.2 _ _ p
    have lt_at124x2 := GHeap.ltg i0
    refine .R rfl (.appendI rfl sl_22_A ze_2_L rfl by_2_L sl_22_A rfl rfl (by assumption) (by assumption) (by first | omega | (simp <;> omega)) (by omega) (by omega)) ?_
    rintro _ H125x2 ⟨g125x2, rfl, i3, ge125x2, at125x2⟩
    replace w := w.sP i3
    refine .mv rfl (.nil (l4 _ _ (.region (.mv rfl ?_))))
    refine .q rfl (.add rfl rfl rfl (by omega) (by omega)) ?_
    refine .mv rfl (.nil ?_)
    refine l0 ((g + 1, row ++ [h3], _, _)) _ _ ?_ ?_ ⟨rfl, rfl, rfl, rfl, rfl, rfl, trivial⟩
    ·
     refine ⟨w, by (rw [r7]; assumption), by exact ⟨.inr (by omega)⟩, by (simp only [List.length_append, List.length_cons, List.length_nil] <;> omega), ?_⟩
     exact ⟨⟨by omega, by simp; omega⟩, hB.snoc (by omega) (by omega)⟩
    (dsimp only; omega)
   try simp only [sps] at s6
   refine .exit ?_
   refine p9 _ _ (.region ?_)
   obtain rfl : g = ss.length := by omega
   obtain rfl := k5
   refine .q rfl (.fieldAddr fo_29_4_B rfl) ?_
   refine .q rfl (.load on_23_B rfl (by first | assumption | exact Mem.of_get b 4 _ rfl)) ?_
   refine .mv rfl ?_
   refine .R rfl (.litA rfl sl_23_B ze_22_Hj rfl rfl rfl rfl) ?_
   rintro _ H129 ⟨g129, rfl, e8, ge129, m6⟩
   replace v := v.le e8
   replace rk := rk.le e8
   replace y := e8.2 _ _ y
   replace b := e8.2 _ _ b
   replace p := e8.2 _ _ p
   have lt_at129 := GHeap.ltg m6
   refine .R rfl (.appendV rfl sl_23_B ze_22_Hj rfl by_22_Hj sl_23_B rfl rfl (by assumption) (by assumption) (by first | omega | (simp <;> omega)) rfl rfl (by omega) (by omega)) ?_
   rintro _ H130 ⟨n8, rfl, f3, ge130, j1⟩
   replace v := v.sP f3
   replace rk := rk.sP f3
   replace b := f3.same _ _ ⟨(Ne.symm l1), trivial⟩ b
   replace p := f3.same _ _ ⟨(Ne.symm (a4.ne c6.ne (by omega))), trivial⟩ p
   refine .q rfl (.fieldAddr fo_29_4_B rfl) ?_
   refine .r0 rfl rfl (.storeR rfl sz_23_Ch rfl rfl rfl (by assumption) (by first | exact Nat.le_of_ble_eq_true rfl | (simp; done) | (simp <;> omega))) ?_
   rintro _ H31006 ⟨rfl, b7, i1⟩
   replace v := v.sA b7
   replace rk := rk.sA b7
   replace p := b7.same _ _ ⟨(Ne.symm (a4.ne d9.ne (by omega))), trivial⟩ p
   replace j1 := b7.s j1
   try simp only [Nat.zero_add, List.set_cons_succ, List.set_cons_zero] at i1
   refine .nil (n7 _ _ (.region (.mv rfl ?_)))
   refine .q rfl (.add rfl rfl rfl (by omega) (by omega)) ?_
   refine .mv rfl (.nil ?_)
   refine o9 ((f + 1, upd rr cs.length (some ⟨b2, 0, none⟩), cs ++ [row], n8)) _ _ ?_ ?_ ⟨rfl, rfl, rfl, rfl, trivial⟩
   ·
    refine ⟨v, by (rw [slsL_snoc]; assumption), by exact ⟨.inr (by omega)⟩, by assumption, by omega, ?_⟩
    have hR' := hR.st rk (.cons (hR.neT hatC rfl) (.cons (hR.lowNe (by omega)) (.nil _ _)))
    have hQ' := hQ.st rk (.cons (hQ.neT hatC rfl) (.cons (hQ.lowNe (by omega)) (.nil _ _)))
    have t9 := hQ.ne (g := b2) (a4.ge (by omega) (by omega))
    have b11 : a3.next ≤ b2 := a4.ge (by omega) (by omega)
    have hx1 : b2 ≠ gLF := a4.ne' (by omega) (by omega)
    have hx2 : b2 ≠ gLT := a4.ne' (by omega) (by omega)
    have hx3 : b2 ≠ gLI := a4.ne' (by omega) (by omega)
    exact ⟨⟨by omega, by simp; omega⟩, hC.snoc (by omega) hB, hR', hQ'.snoc2 (by assumption) t9 (by omega), ne_snoc s9 (by omega), ne_snoc t0 (by omega), ne_snoc m9 (by omega)⟩
   (dsimp only; omega)
  simp only [sps] at p3
  refine .exit ?_
  refine n4 _ _ (.seq (fun K38 s1 => .region ?_))
  refine .q rfl (.loadM ag_29_D rfl ⟨rfl, Mem.of_get b⟩) ?_
  refine .r0 rfl rfl (.fillA rfl sz_29_D rfl rfl rfl rfl) ?_
  rintro _ H32001 ⟨rfl, u, f6⟩
  replace a1 := a1.st u (fun k hk => ⟨by omega, trivial⟩)
  replace l := u.same _ _ ⟨(Ne.symm (c2.ne d8.ne (by omega))), trivial⟩ l
  replace m := u.same _ _ ⟨(Ne.symm (d0.ne d4.ne (by omega))), trivial⟩ m
  replace b6 := u.same _ _ ⟨(Ne.symm (e6.ne e0.ne (by omega))), trivial⟩ b6
  replace y := u.same _ _ ⟨(Ne.symm (i8.ne d5.ne (by omega))), trivial⟩ y
  replace b := u.s b (Ne.symm a0.ne)
  have mm32001 : MemN _ _ _ _ _ := ⟨rfl, Mem.of_get f6⟩
  refine .nil (s1 _ _ ?_)
  refine .ret ?_
  refine p1 _ _ ?_
  refine ⟨_, _, _, _, rfl, ag_29_D, (by rfl), (Mem.of_get f6), ?_⟩
  obtain rfl : f = ss.length := by omega
  have hx4 : gLF ≠ gLI := e6.ne (c2.ne' (by omega) (by omega)) (by omega)
  have hx5 : gLT ≠ gLI := e6.ne (d0.ne' (by omega) (by omega)) (by omega)
  exact ⟨⟨rel.length, ss, ts, is, cs⟩, rect_mk (by omega) (by omega) hts (hS.mono (by omega) (by omega)) (hT.mono (by omega) (by omega)) (by omega) s7 (by omega) (hC.mono (by omega) (by omega)), a1, gLF, gLT, gLI, gLC, rr, by simp [Cat.cells, ownP, hts, hxl, hcl], ⟨l, m, b6, y, by omega, by omega, by omega, by omega, by omega, by omega, by omega, (hQ.st u (.cons (hQ.lowNe (by omega)) (.nil _ _))).low (by omega), s9, t0, m9⟩⟩
end Go.Proofs.Ytjdedelneppnlaa
