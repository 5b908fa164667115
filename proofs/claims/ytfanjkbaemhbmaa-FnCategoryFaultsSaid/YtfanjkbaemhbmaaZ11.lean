/- Products of drawn categories, with their form. No condition but those of each statement. -/
import Derived.Test.YtfanjkbaemhbmaaZ10
namespace Go.Proofs.Ytfanjkbaemhbmaa
open Go Go.GL Go.RowKit Go.Proofs
set_option maxHeartbeats 8000000 in
theorem l03ProductG_c {c d : Cat} {p q : CatP} {H : GHeap} (hin : c.In H p := by assumption) (hin1 : d.In H q := by assumption) (gc : c.Good 256) (gd : d.Good 128) :
    GCalls Try.prog 104 [.agg (c.cells p).toArray, .agg (d.cells q).toArray] H (NewGd 2 24 33000 (c.obj * d.obj) H) := by
  have hc := gc.r
  have hd := gd.r
  obtain ⟨a1, a2, a3, a4, a5, a6, a7, a8, a9, cN⟩ := id hc
  obtain ⟨b1, b2, b3, b4, b5, b6, b7, b8, b9, cG⟩ := id hd
  have m0 := mul_bd a1 b1
  refine GCalls.body (N := 174) (rs := [.cell 4 27]) Try.func104 rfl rfl rfl rfl (fun Qx aJ hend => ?_)
  refine .fg [0, 1] rfl ?_
  have u := GHeap.Le.refl H
  have i := hin
  have e := hin1
  refine .seq (fun K1 bW => .region ?_)
  refine .R rfl (.boxR rfl sz_27_D rfl) ?_
  rintro _ H2 ⟨g2, rfl, bT, ge2, c3⟩
  have nx_H2 := bT.1
  replace u := u.trans bT
  have lt_at2 := GHeap.ltg c3
  replace hin := i.mono u
  replace hin1 := e.mono u
  have n : Cat.At _ g2 0 c p := ⟨Mem.of_get c3, hin⟩
  obtain ⟨f3, f2, f0, f4, e7, e8, e9, f5, d6⟩ := n.get
  have f1 : MemN _ _ _ _ _ := ⟨rfl, n.1⟩
  have e6 := n.2
  refine .R rfl (.boxR rfl sz_27_D rfl) ?_
  rintro _ H3 ⟨g3, rfl, bP, ge3, c5⟩
  have nx_H3 := bP.1
  replace u := u.trans bP
  replace c3 := bP.2 _ _ c3
  have lt_at3 := GHeap.ltg c5
  replace hin := i.mono u
  replace hin1 := e.mono u
  clear n f3 f2 f0 f4 e7 e8 e9 f5 d6 f1 e6
  have n : Cat.At _ g2 0 c p := ⟨Mem.of_get c3, hin⟩
  obtain ⟨f3, f2, f0, f4, e7, e8, e9, f5, d6⟩ := n.get
  have f1 : MemN _ _ _ _ _ := ⟨rfl, n.1⟩
  have e6 := n.2
  have o : Cat.At _ g3 0 d q := ⟨Mem.of_get c5, hin1⟩
  obtain ⟨g5, g9, f8, f9, h0, g8, f7, g0, d8⟩ := o.get
  have g1 : MemN _ _ _ _ _ := ⟨rfl, o.1⟩
  have g6 := o.2
  refine .R rfl (.allocR rfl ze_27_Hj rfl) ?_
  rintro _ H4 ⟨g4, rfl, aC, ge4, h6⟩
  have nx_H4 := aC.1
  replace u := u.trans aC
  replace c3 := aC.2 _ _ c3
  replace c5 := aC.2 _ _ c5
  have lt_at4 := GHeap.ltg h6
  replace hin := i.mono u
  replace hin1 := e.mono u
  clear n f3 f2 f0 f4 e7 e8 e9 f5 d6 f1 e6
  have n : Cat.At _ g2 0 c p := ⟨Mem.of_get c3, hin⟩
  obtain ⟨f3, f2, f0, f4, e7, e8, e9, f5, d6⟩ := n.get
  have f1 : MemN _ _ _ _ _ := ⟨rfl, n.1⟩
  have e6 := n.2
  clear o g5 g9 f8 f9 h0 g8 f7 g0 d8 g1 g6
  have o : Cat.At _ g3 0 d q := ⟨Mem.of_get c5, hin1⟩
  obtain ⟨g5, g9, f8, f9, h0, g8, f7, g0, d8⟩ := o.get
  have g1 : MemN _ _ _ _ _ := ⟨rfl, o.1⟩
  have g6 := o.2
  refine .nil (bW _ _ (.seq (fun K2 cL => ?_)))
  refine .regionD mo_B (.q 0 (.q 1 (.q 2 (.q 3 (.q 4 (.q 5 (.q 6 (.done)))))))) (by kernel_rfl) ?_
  refine .q rfl (.fieldAddr fo_27_0_B rfl) ?_
  refine .q rfl (.load on_2_A rfl (by first | assumption | exact Mem.of_get c5 0 _ rfl)) ?_
  refine .q rfl (.fieldAddr fo_27_1_B rfl) ?_
  refine .q rfl (.load on_24_B rfl (by first | assumption | exact Mem.of_get c5 1 _ rfl)) ?_
  refine .q rfl (.len sl_24_A rfl) (.mv rfl rfl (.mv rfl rfl ?_))
  refine .done ?_
  refine cL _ _ (.seq (fun K3 cE => .region (.q rfl (.fieldAddr fo_27_0_B rfl) ?_)))
  refine .q rfl (.load on_2_A rfl (by first | assumption | exact Mem.of_get c3 0 _ rfl)) ?_
  refine .mv rfl ?_
  refine .q rfl (.mul rfl rfl rfl (by omega) (by omega)) ?_
  refine .R rfl (.litA rfl sl_24_A ze_2_N rfl rfl rfl rfl) ?_
  rintro _ cB ⟨v8, rfl, x1, ge25, j1⟩
  have nx_H25 := x1.1
  replace u := u.trans x1
  replace c3 := x1.2 _ _ c3
  replace c5 := x1.2 _ _ c5
  replace h6 := x1.2 _ _ h6
  have lt_at25 := GHeap.ltg j1
  replace hin := i.mono u
  replace hin1 := e.mono u
  clear n f3 f2 f0 f4 e7 e8 e9 f5 d6 f1 e6
  have n : Cat.At _ g2 0 c p := ⟨Mem.of_get c3, hin⟩
  obtain ⟨f3, f2, f0, f4, e7, e8, e9, f5, d6⟩ := n.get
  have f1 : MemN _ _ _ _ _ := ⟨rfl, n.1⟩
  have e6 := n.2
  clear o g5 g9 f8 f9 h0 g8 f7 g0 d8 g1 g6
  have o : Cat.At _ g3 0 d q := ⟨Mem.of_get c5, hin1⟩
  obtain ⟨g5, g9, f8, f9, h0, g8, f7, g0, d8⟩ := o.get
  have g1 : MemN _ _ _ _ _ := ⟨rfl, o.1⟩
  have g6 := o.2
  replace j1 : GHeap.get cB v8 = some (.row (ints []) 2 true) := j1
  refine .R rfl (.litA rfl sl_24_A ze_2_N rfl rfl rfl rfl) ?_
  rintro _ cJ ⟨v9, rfl, w0, ge26, k2⟩
  have nx_H26 := w0.1
  replace u := u.trans w0
  replace c3 := w0.2 _ _ c3
  replace c5 := w0.2 _ _ c5
  replace h6 := w0.2 _ _ h6
  replace j1 := w0.2 _ _ j1
  have lt_at26 := GHeap.ltg k2
  replace hin := i.mono u
  replace hin1 := e.mono u
  clear n f3 f2 f0 f4 e7 e8 e9 f5 d6 f1 e6
  have n : Cat.At _ g2 0 c p := ⟨Mem.of_get c3, hin⟩
  obtain ⟨f3, f2, f0, f4, e7, e8, e9, f5, d6⟩ := n.get
  have f1 : MemN _ _ _ _ _ := ⟨rfl, n.1⟩
  have e6 := n.2
  clear o g5 g9 f8 f9 h0 g8 f7 g0 d8 g1 g6
  have o : Cat.At _ g3 0 d q := ⟨Mem.of_get c5, hin1⟩
  obtain ⟨g5, g9, f8, f9, h0, g8, f7, g0, d8⟩ := o.get
  have g1 : MemN _ _ _ _ _ := ⟨rfl, o.1⟩
  have g6 := o.2
  replace k2 : GHeap.get cJ v9 = some (.row (ints []) 2 true) := k2
  refine .R rfl (.litA rfl sl_24_A ze_2_N rfl rfl rfl rfl) ?_
  rintro _ cD ⟨x2, rfl, v3, ge27, q9⟩
  have nx_H27 := v3.1
  replace u := u.trans v3
  replace c3 := v3.2 _ _ c3
  replace c5 := v3.2 _ _ c5
  replace h6 := v3.2 _ _ h6
  replace j1 := v3.2 _ _ j1
  replace k2 := v3.2 _ _ k2
  have lt_at27 := GHeap.ltg q9
  replace hin := i.mono u
  replace hin1 := e.mono u
  clear n f3 f2 f0 f4 e7 e8 e9 f5 d6 f1 e6
  have n : Cat.At _ g2 0 c p := ⟨Mem.of_get c3, hin⟩
  obtain ⟨f3, f2, f0, f4, e7, e8, e9, f5, d6⟩ := n.get
  have f1 : MemN _ _ _ _ _ := ⟨rfl, n.1⟩
  have e6 := n.2
  clear o g5 g9 f8 f9 h0 g8 f7 g0 d8 g1 g6
  have o : Cat.At _ g3 0 d q := ⟨Mem.of_get c5, hin1⟩
  obtain ⟨g5, g9, f8, f9, h0, g8, f7, g0, d8⟩ := o.get
  have g1 : MemN _ _ _ _ _ := ⟨rfl, o.1⟩
  have g6 := o.2
  replace q9 : GHeap.get cD x2 = some (.row (ints []) 2 true) := q9
  refine .R rfl (.litA rfl sl_25_B ze_24_Hj rfl rfl rfl rfl) ?_
  rintro _ H28 ⟨w4, rfl, u6, ge28, l8⟩
  have nx_H28 := u6.1
  replace u := u.trans u6
  replace c3 := u6.2 _ _ c3
  replace c5 := u6.2 _ _ c5
  replace h6 := u6.2 _ _ h6
  replace j1 := u6.2 _ _ j1
  replace k2 := u6.2 _ _ k2
  replace q9 := u6.2 _ _ q9
  have lt_at28 := GHeap.ltg l8
  replace hin := i.mono u
  replace hin1 := e.mono u
  clear n f3 f2 f0 f4 e7 e8 e9 f5 d6 f1 e6
  have n : Cat.At _ g2 0 c p := ⟨Mem.of_get c3, hin⟩
  obtain ⟨f3, f2, f0, f4, e7, e8, e9, f5, d6⟩ := n.get
  have f1 : MemN _ _ _ _ _ := ⟨rfl, n.1⟩
  have e6 := n.2
  clear o g5 g9 f8 f9 h0 g8 f7 g0 d8 g1 g6
  have o : Cat.At _ g3 0 d q := ⟨Mem.of_get c5, hin1⟩
  obtain ⟨g5, g9, f8, f9, h0, g8, f7, g0, d8⟩ := o.get
  have g1 : MemN _ _ _ _ _ := ⟨rfl, o.1⟩
  have g6 := o.2
  refine .q rfl (.build bt_27_Hj rfl rfl rfl) ?_
  refine .R rfl (.allocR rfl ze_27_Hj rfl) ?_
  rintro _ H7 ⟨g7, rfl, x5, ge7, cC⟩
  have nx_H7 := x5.1
  replace u := u.trans x5
  replace c3 := x5.2 _ _ c3
  replace c5 := x5.2 _ _ c5
  replace h6 := x5.2 _ _ h6
  replace j1 := x5.2 _ _ j1
  replace k2 := x5.2 _ _ k2
  replace q9 := x5.2 _ _ q9
  replace l8 := x5.2 _ _ l8
  have lt_at7 := GHeap.ltg cC
  replace hin := i.mono u
  replace hin1 := e.mono u
  clear n f3 f2 f0 f4 e7 e8 e9 f5 d6 f1 e6
  have n : Cat.At _ g2 0 c p := ⟨Mem.of_get c3, hin⟩
  obtain ⟨f3, f2, f0, f4, e7, e8, e9, f5, d6⟩ := n.get
  have f1 : MemN _ _ _ _ _ := ⟨rfl, n.1⟩
  have e6 := n.2
  clear o g5 g9 f8 f9 h0 g8 f7 g0 d8 g1 g6
  have o : Cat.At _ g3 0 d q := ⟨Mem.of_get c5, hin1⟩
  obtain ⟨g5, g9, f8, f9, h0, g8, f7, g0, d8⟩ := o.get
  have g1 : MemN _ _ _ _ _ := ⟨rfl, o.1⟩
  have g6 := o.2
  refine .r0 rfl rfl (.fillA rfl sz_27_D rfl rfl rfl rfl) ?_
  rintro _ x8 ⟨rfl, k9, b0⟩
  have nx_H2010 := k9.nx
  replace u := u.st k9 (fun k hk => ⟨by omega, trivial⟩)
  have i0 : NE g2 g7 := .a
  replace c3 := k9.s c3 i0.ne
  have i1 : NE g3 g7 := .a
  replace c5 := k9.s c5 i1.ne
  have h2 : NE g4 g7 := .a
  replace h6 := k9.s h6 h2.ne
  have m3 : NE v8 g7 := .a
  replace j1 := k9.s j1 m3.ne
  have m4 : NE v9 g7 := .a
  replace k2 := k9.s k2 m4.ne
  replace q9 := k9.s q9
  have n0 : NE w4 g7 := .a
  replace l8 := k9.s l8 n0.ne
  have lt_at2010 := GHeap.ltg b0
  replace hin := i.mono u
  replace hin1 := e.mono u
  clear n f3 f2 f0 f4 e7 e8 e9 f5 d6 f1 e6
  have n : Cat.At _ g2 0 c p := ⟨Mem.of_get c3, hin⟩
  obtain ⟨f3, f2, f0, f4, e7, e8, e9, f5, d6⟩ := n.get
  have f1 : MemN _ _ _ _ _ := ⟨rfl, n.1⟩
  have e6 := n.2
  clear o g5 g9 f8 f9 h0 g8 f7 g0 d8 g1 g6
  have o : Cat.At _ g3 0 d q := ⟨Mem.of_get c5, hin1⟩
  obtain ⟨g5, g9, f8, f9, h0, g8, f7, g0, d8⟩ := o.get
  have g1 : MemN _ _ _ _ _ := ⟨rfl, o.1⟩
  have g6 := o.2
  have l : MemN _ _ _ _ _ := ⟨rfl, Mem.of_get b0⟩
  refine .nil (cE _ _ (.seq (fun K4 cF => .seq (fun K5 cK => .region (.mv rfl (.nil (cK _ _ ?_)))))))
  refine .block ?_
  refine .loopR (σ := Nat × List Int × Nat) [(2, some _), (3, some _), (4, some _), (5, some _), (6, some _), (7, some _)] (fun (x, is, gLI) => [(8, some (.int .i64 (x : Int)))]) (fun (x, is, gLI) H' => St [x2, g7] x8 H' ∧ H'.get gLI = some (.row (ints is) 2 true) ∧ PL gLI x2 x8.next ∧ H'.get g7 = some (.row ([.int .i64 (c.obj * d.obj), .slice (some ⟨v8, 0, none⟩) 0 0, .slice (some ⟨v9, 0, none⟩) 0 0, .slice (some ⟨gLI, 0, none⟩) is.length is.length, .slice (some ⟨w4, 0, none⟩) 0 0]) 27 true) ∧ gLI ≠ g7 ∧ ((x : Int) ≤ c.obj ∧ (is.length : Int) = (x : Int) * d.obj) ∧ AtP d.obj.toNat (prV d.src.length c.idn d.idn) is ∧ Bd 0 33000 is) (fun (x, is, gLI) => (c.obj - x : Int).toNat) ((0, [], x2)) ⟨rfl, rfl, rfl, rfl, rfl, rfl, trivial⟩ ⟨rfl, trivial⟩ ?_ ?_
  ·
   refine ⟨.refl _ _, by first | assumption | exact q9 | simpa using q9, ⟨.inl rfl⟩, by first | assumption | exact b0 | simpa using b0, by omega, ?_⟩
   exact ⟨⟨by omega, by simp⟩, .nil _ _, .nil _ _⟩
  rintro ⟨x, is, gLI⟩ HL1 ⟨l9, v, j8, c4, u8, hI⟩ KL1 aO
  refine .forget (fr' := [(8, some (.int .i64 (x : Int))), (2, some _), (3, some _), (4, some _), (5, some _), (6, some _), (7, some _)]) ⟨rfl, rfl, rfl, rfl, rfl, rfl, rfl, trivial⟩ ?_
  have ge_LI : H.next ≤ gLI := j8.ge (by omega) (by omega)
  have nx_HL1 := l9.nx
  replace u := u.st l9 (fun k hk => ⟨by omega, by omega, trivial⟩)
  have t6 : NE g2 x2 := .a
  replace c3 := l9.same _ _ ⟨t6.ne, i0.ne, trivial⟩ c3
  have t4 : NE g3 x2 := .a
  replace c5 := l9.same _ _ ⟨t4.ne, i1.ne, trivial⟩ c5
  have o4 : NE g4 x2 := .a
  replace h6 := l9.same _ _ ⟨o4.ne, h2.ne, trivial⟩ h6
  have n4 : NE v8 x2 := .a
  replace j1 := l9.same _ _ ⟨n4.ne, m3.ne, trivial⟩ j1
  have n2 : NE v9 x2 := .a
  replace k2 := l9.same _ _ ⟨n2.ne, m4.ne, trivial⟩ k2
  have n5 : NE w4 x2 := .a
  replace l8 := l9.same _ _ ⟨n5.ne, n0.ne, trivial⟩ l8
  have lt_at_LI := GHeap.ltg v
  have p5 := GHeap.ltg c4
  replace hin := i.mono u
  replace hin1 := e.mono u
  clear n f3 f2 f0 f4 e7 e8 e9 f5 d6 f1 e6
  have n : Cat.At _ g2 0 c p := ⟨Mem.of_get c3, hin⟩
  obtain ⟨f3, f2, f0, f4, e7, e8, e9, f5, d6⟩ := n.get
  have f1 : MemN _ _ _ _ _ := ⟨rfl, n.1⟩
  have e6 := n.2
  clear o g5 g9 f8 f9 h0 g8 f7 g0 d8 g1 g6
  have o : Cat.At _ g3 0 d q := ⟨Mem.of_get c5, hin1⟩
  obtain ⟨g5, g9, f8, f9, h0, g8, f7, g0, d8⟩ := o.get
  have g1 : MemN _ _ _ _ _ := ⟨rfl, o.1⟩
  have g6 := o.2
  clear l
  have l : MemN _ _ _ _ _ := ⟨rfl, Mem.of_get b0⟩
  obtain ⟨⟨hx, hl⟩, hAI, hB⟩ := hI
  have mx := mul_bd (a := (x : Int)) (by omega) b1
  refine .seq (fun K6 bY => .seq (fun K7 bZ => .region (.mv rfl (.q rfl (.fieldAddr fo_27_0_B rfl) ?_))))
  refine .q rfl (.load on_2_A rfl (by first | assumption | exact Mem.of_get c3 0 _ rfl)) ?_
  refine .q rfl (.cmp rfl rfl rfl) (.nil (bZ _ _ ?_))
  refine .cond rfl (fun bJ => ?_) (fun bJ => ?_)
  ·
   simp only [sps] at bJ
   have r1 := a7 x (by omega)
   refine .skip ?_
   refine bY _ _ (.seq (fun K8 cI => ?_))
   refine .block ?_
   refine .seq (fun K9 cO => .region (.mv rfl (.nil (cO _ _ ?_))))
   refine .block ?_
   refine .loopR (σ := Nat × List Int × Nat) [(2, some _), (3, some _), (4, some _), (5, some _), (6, some _), (7, some _), (8, some _)] (fun (y, i2, u5) => [(9, some (.int .i64 (y : Int)))]) (fun (y, i2, u5) H' => St [gLI, g7] HL1 H' ∧ H'.get u5 = some (.row (ints i2) 2 true) ∧ PL u5 gLI HL1.next ∧ H'.get g7 = some (.row ([.int .i64 (c.obj * d.obj), .slice (some ⟨v8, 0, none⟩) 0 0, .slice (some ⟨v9, 0, none⟩) 0 0, .slice (some ⟨u5, 0, none⟩) i2.length i2.length, .slice (some ⟨w4, 0, none⟩) 0 0]) 27 true) ∧ u5 ≠ g7 ∧ ((y : Int) ≤ d.obj ∧ (i2.length : Int) = (x : Int) * d.obj + y) ∧ AtP d.obj.toNat (prV d.src.length c.idn d.idn) i2 ∧ Bd 0 33000 i2) (fun (y, i2, u5) => (d.obj - y : Int).toNat) ((0, is, gLI)) ⟨rfl, rfl, rfl, rfl, rfl, rfl, rfl, trivial⟩ ⟨rfl, trivial⟩ ?_ ?_
   ·
    refine ⟨.refl _ _, by first | assumption | exact v | simpa using v, ⟨.inl rfl⟩, by first | assumption | exact c4 | simpa using c4, by omega, ?_⟩
    exact ⟨⟨by omega, by omega⟩, hAI, hB⟩
   rintro ⟨y, i2, u5⟩ HL2 ⟨n1, v4, m1, c4, z3, hI⟩ KL2 bI
   refine .forget (fr' := [(9, some (.int .i64 (y : Int))), (2, some _), (3, some _), (4, some _), (5, some _), (6, some _), (7, some _), (8, some _)]) ⟨rfl, rfl, rfl, rfl, rfl, rfl, rfl, rfl, trivial⟩ ?_
   have ge_LI2 : H.next ≤ u5 := m1.ge (by omega) (by omega)
   have nx_HL2 := n1.nx
   replace u := u.st n1 (fun k hk => ⟨by omega, by omega, trivial⟩)
   replace l9 := l9.st n1 (fun k hk ho => by simp only [out, and_true] at ho ⊢ <;> exact ⟨by first | exact ho | exact ho.1 | exact ho.2 | exact ho.2.1 | exact ho.2.2 | exact ho.2.2.1 | exact ho.2.2.2 | exact j8.ne (by first | exact ho | exact ho.1 | exact ho.2 | exact ho.2.1 | exact ho.2.2 | exact ho.2.2.1 | exact ho.2.2.2 | omega) (by omega) | omega, by first | exact ho | exact ho.1 | exact ho.2 | exact ho.2.1 | exact ho.2.2 | exact ho.2.2.1 | exact ho.2.2.2 | omega⟩)
   have t1 : NE g2 gLI := ⟨j8.ne t6.ne (by omega)⟩
   replace c3 := n1.same _ _ ⟨t1.ne, i0.ne, trivial⟩ c3
   have s1 : NE g3 gLI := ⟨j8.ne t4.ne (by omega)⟩
   replace c5 := n1.same _ _ ⟨s1.ne, i1.ne, trivial⟩ c5
   have m5 : NE g4 gLI := ⟨j8.ne o4.ne (by omega)⟩
   replace h6 := n1.same _ _ ⟨m5.ne, h2.ne, trivial⟩ h6
   have k3 : NE v8 gLI := ⟨j8.ne n4.ne (by omega)⟩
   replace j1 := n1.same _ _ ⟨k3.ne, m3.ne, trivial⟩ j1
   have k1 : NE v9 gLI := ⟨j8.ne n2.ne (by omega)⟩
   replace k2 := n1.same _ _ ⟨k1.ne, m4.ne, trivial⟩ k2
   have j9 : NE w4 gLI := ⟨j8.ne n5.ne (by omega)⟩
   replace l8 := n1.same _ _ ⟨j9.ne, n0.ne, trivial⟩ l8
   have lt_at_LI2 := GHeap.ltg v4
   have p5 := GHeap.ltg c4
   replace hin := i.mono u
   replace hin1 := e.mono u
   clear n f3 f2 f0 f4 e7 e8 e9 f5 d6 f1 e6
   have n : Cat.At _ g2 0 c p := ⟨Mem.of_get c3, hin⟩
   obtain ⟨f3, f2, f0, f4, e7, e8, e9, f5, d6⟩ := n.get
   have f1 : MemN _ _ _ _ _ := ⟨rfl, n.1⟩
   have e6 := n.2
   clear o g5 g9 f8 f9 h0 g8 f7 g0 d8 g1 g6
   have o : Cat.At _ g3 0 d q := ⟨Mem.of_get c5, hin1⟩
   obtain ⟨g5, g9, f8, f9, h0, g8, f7, g0, d8⟩ := o.get
   have g1 : MemN _ _ _ _ _ := ⟨rfl, o.1⟩
   have g6 := o.2
   clear l
   have l : MemN _ _ _ _ _ := ⟨rfl, Mem.of_get b0⟩
   obtain ⟨⟨hy, hl⟩, hAI, hB⟩ := hI
   refine .seq (fun K10 aP => .seq (fun K11 bL => .region (.mv rfl (.mv rfl (.q rfl (.cmp rfl rfl rfl) (.nil (bL _ _ ?_)))))))
   refine .cond rfl (fun bE => ?_) (fun bE => ?_)
   ·
    simp only [sps] at bE
    have r2 := b7 y (by omega)
    have mm := mul_bd (a := c.idn.getD x 0) (b := (d.src.length : Int)) (by omega) (by omega)
    refine .skip ?_
    refine aP _ _ (.seq (fun K12 aL => ?_))
    refine .block ?_
    refine .regionD mo_B (.q 0 (.q 1 (.q 2 (.q 3 (.q 4 (.q 5 (.q 6 (.q 7 (.q 8 (.q 9 (.q 10 (.q 11 (.q 12 (.q 13 (.q 14 (.c 15 1 (.c 16 0 (.q 17 (.c 18 0 (.done)))))))))))))))))))) (by kernel_rfl) ?_
    refine .q rfl (.fieldAddr fo_27_3_B rfl) ?_
    refine .q rfl (.load on_24_B rfl (by first | assumption | exact Mem.of_get c4 3 _ rfl)) ?_
    refine .q rfl (.fieldAddr fo_27_3_B rfl) ?_
    refine .q rfl (.load on_24_B rfl (by first | assumption | exact Mem.of_get c3 3 _ rfl)) ?_
    refine .mv rfl rfl ?_
    refine .q rfl (.idxN sl_24_A (by assumption) rfl rfl (by omega)) ?_
    refine .q rfl (.loadI on_2_A (by assumption) rfl (by omega)) ?_
    refine .mv rfl rfl ?_
    refine .q rfl (.mul rfl rfl rfl (by omega) (by omega)) ?_
    refine .q rfl (.fieldAddr fo_27_3_B rfl) ?_
    refine .q rfl (.load on_24_B rfl (by first | assumption | exact Mem.of_get c5 3 _ rfl)) ?_
    refine .mv rfl rfl ?_
    refine .q rfl (.idxN sl_24_A (by assumption) rfl rfl (by omega)) ?_
    refine .q rfl (.loadI on_2_A (by assumption) rfl (by omega)) ?_
    refine .q rfl (.add rfl rfl rfl (by omega) (by omega)) ?_
    refine .c1 rfl rfl rfl rfl (.litA rfl sl_24_A ze_2_N rfl rfl rfl rfl) ?_
    rintro _ H56 ⟨g56, rfl, o7, ge56, x0⟩
    have z4 := o7
    refine ⟨z4, ?_⟩
    have nx_H56 := o7.1
    replace u := u.trans o7
    replace l9 := l9.le o7
    replace n1 := n1.le o7
    replace c3 := o7.2 _ _ c3
    replace c5 := o7.2 _ _ c5
    replace h6 := o7.2 _ _ h6
    replace j1 := o7.2 _ _ j1
    replace k2 := o7.2 _ _ k2
    replace l8 := o7.2 _ _ l8
    replace v4 := o7.2 _ _ v4
    replace c4 := o7.2 _ _ c4
    have lt_at56 := GHeap.ltg x0
    replace hin := i.mono u
    replace hin1 := e.mono u
    clear n f3 f2 f0 f4 e7 e8 e9 f5 d6 f1 e6
    have n : Cat.At _ g2 0 c p := ⟨Mem.of_get c3, hin⟩
    obtain ⟨f3, f2, f0, f4, e7, e8, e9, f5, d6⟩ := n.get
    have f1 : MemN _ _ _ _ _ := ⟨rfl, n.1⟩
    have e6 := n.2
    clear o g5 g9 f8 f9 h0 g8 f7 g0 d8 g1 g6
    have o : Cat.At _ g3 0 d q := ⟨Mem.of_get c5, hin1⟩
    obtain ⟨g5, g9, f8, f9, h0, g8, f7, g0, d8⟩ := o.get
    have g1 : MemN _ _ _ _ _ := ⟨rfl, o.1⟩
    have g6 := o.2
    clear l
    have l : MemN _ _ _ _ _ := ⟨rfl, Mem.of_get b0⟩
    refine .c0 rfl rfl rfl rfl (.appendI rfl sl_24_A ze_2_N rfl by_2_N sl_24_A rfl rfl (by assumption) (by assumption) (by first | omega | (simp <;> omega)) (by omega) (by omega)) ?_
    rintro _ H57 ⟨bX, rfl, q5, ge57, y6⟩
    have nx_H57 := q5.nx
    replace u := u.st q5 (fun k hk => ⟨by omega, trivial⟩)
    replace l9 := l9.sQ q5
    replace n1 := n1.sQ q5
    replace c3 := q5.same _ _ ⟨(m1.ne t1.ne (by omega)), trivial⟩ c3
    replace c5 := q5.same _ _ ⟨(m1.ne s1.ne (by omega)), trivial⟩ c5
    replace h6 := q5.same _ _ ⟨(m1.ne m5.ne (by omega)), trivial⟩ h6
    replace j1 := q5.same _ _ ⟨(m1.ne k3.ne (by omega)), trivial⟩ j1
    replace k2 := q5.same _ _ ⟨(m1.ne k1.ne (by omega)), trivial⟩ k2
    replace l8 := q5.same _ _ ⟨(m1.ne j9.ne (by omega)), trivial⟩ l8
    replace c4 := q5.same _ _ ⟨(Ne.symm z3), trivial⟩ c4
    replace x0 := q5.s x0
    have lt_at57 := GHeap.ltg y6
    replace hin := i.mono u
    replace hin1 := e.mono u
    clear n f3 f2 f0 f4 e7 e8 e9 f5 d6 f1 e6
    have n : Cat.At _ g2 0 c p := ⟨Mem.of_get c3, hin⟩
    obtain ⟨f3, f2, f0, f4, e7, e8, e9, f5, d6⟩ := n.get
    have f1 : MemN _ _ _ _ _ := ⟨rfl, n.1⟩
    have e6 := n.2
    clear o g5 g9 f8 f9 h0 g8 f7 g0 d8 g1 g6
    have o : Cat.At _ g3 0 d q := ⟨Mem.of_get c5, hin1⟩
    obtain ⟨g5, g9, f8, f9, h0, g8, f7, g0, d8⟩ := o.get
    have g1 : MemN _ _ _ _ _ := ⟨rfl, o.1⟩
    have g6 := o.2
    clear l
    have l : MemN _ _ _ _ _ := ⟨rfl, Mem.of_get b0⟩
    refine .q rfl (.fieldAddr fo_27_3_B rfl) ?_
    refine .r0 rfl rfl rfl (.storeR rfl sz_24_Ch rfl rfl rfl (by assumption) (by first | exact Nat.le_of_ble_eq_true rfl | (simp; done) | (simp <;> omega))) ?_
    rintro _ H9018 ⟨rfl, j2, w9⟩
    have nx_H9018 := j2.nx
    replace u := u.st j2 (fun k hk => ⟨by omega, trivial⟩)
    replace l9 := l9.sA j2
    replace n1 := n1.sA j2
    replace c3 := j2.s c3 i0.ne
    replace c5 := j2.s c5 i1.ne
    replace h6 := j2.s h6 h2.ne
    replace j1 := j2.s j1 m3.ne
    replace k2 := j2.s k2 m4.ne
    replace l8 := j2.s l8 n0.ne
    replace x0 := j2.s x0
    replace y6 := j2.s y6
    have lt_at9018 := GHeap.ltg w9
    replace hin := i.mono u
    replace hin1 := e.mono u
    clear n f3 f2 f0 f4 e7 e8 e9 f5 d6 f1 e6
    have n : Cat.At _ g2 0 c p := ⟨Mem.of_get c3, hin⟩
    obtain ⟨f3, f2, f0, f4, e7, e8, e9, f5, d6⟩ := n.get
    have f1 : MemN _ _ _ _ _ := ⟨rfl, n.1⟩
    have e6 := n.2
    clear o g5 g9 f8 f9 h0 g8 f7 g0 d8 g1 g6
    have o : Cat.At _ g3 0 d q := ⟨Mem.of_get c5, hin1⟩
    obtain ⟨g5, g9, f8, f9, h0, g8, f7, g0, d8⟩ := o.get
    have g1 : MemN _ _ _ _ _ := ⟨rfl, o.1⟩
    have g6 := o.2
    clear l
    have l : MemN _ _ _ _ _ := ⟨rfl, Mem.of_get b0⟩
    try simp only [Nat.zero_add, List.set_cons_succ, List.set_cons_zero] at w9
    refine .done ?_
    refine aL _ _ (.region (.mv rfl ?_))
    refine .q rfl (.add rfl rfl rfl (by omega) (by omega)) ?_
    refine .mv rfl (.nil ?_)
    refine bI ((y + 1, i2 ++ [c.idn.getD x 0 * (d.src.length : Int) + d.idn.getD y 0], bX)) _ _ ?_ ?_ ⟨rfl, rfl, rfl, rfl, rfl, rfl, rfl, rfl, trivial⟩
    ·
     refine ⟨n1, by first | assumption | (rw [List.length_append]; assumption), by first | assumption | exact ⟨.inr (by omega)⟩ | exact ⟨.inl rfl⟩, by first | assumption | (rw [List.length_append]; assumption), by first | assumption | omega, ?_⟩
     exact ⟨⟨by omega, by simp; omega⟩, hAI.snoc (by omega) (lenI b1.1 hl) rfl, hB.snoc (by omega) (by omega)⟩
    (dsimp only; omega)
   try simp only [sps] at bE
   refine .exit ?_
   refine cI _ _ (.region (.mv rfl ?_))
   refine .q rfl (.add rfl rfl rfl (by omega) (by omega)) ?_
   refine .mv rfl (.nil ?_)
   refine aO ((x + 1, i2, u5)) _ _ ?_ ?_ ⟨rfl, rfl, rfl, rfl, rfl, rfl, rfl, trivial⟩
   ·
    refine ⟨l9, by assumption, by first | assumption | exact m1.trans j8 (by omega) | exact ⟨.inr (by omega)⟩ | exact ⟨.inl rfl⟩, by assumption, by first | assumption | omega, ?_⟩
    have e1 := smz x d.obj
    exact ⟨⟨by omega, by omega⟩, hAI, hB⟩
   (dsimp only; omega)
  try simp only [sps] at bJ
  refine .exit ?_
  refine cF _ _ (.seq (fun K13 bK => .seq (fun K14 bA => .region ?_)))
  obtain rfl : x = c.obj.toNat := by omega
  refine .mv rfl (.nil (bA _ _ ?_))
  refine .block ?_
  refine .loopR (σ := Nat × List Int × List Int × (Nat → Option Addr) × List (List Int) × Nat × Nat × Nat) [(2, some _), (3, some _), (4, some _), (5, some _), (6, some _), (7, some _)] (fun (a, ss, ts, rr, cs, gLF, gLT, gLC) => [(10, some (.int .i64 (a : Int)))]) (fun (a, ss, ts, rr, cs, gLF, gLT, gLC) H' => St [v8, v9, w4, g7] HL1 H' ∧ H'.get gLF = some (.row (ints ss) 2 true) ∧ PL gLF v8 HL1.next ∧ H'.get gLT = some (.row (ints ts) 2 true) ∧ PL gLT v9 HL1.next ∧ H'.get gLC = some (.row ((slsL rr cs)) 24 true) ∧ PL gLC w4 HL1.next ∧ H'.get g7 = some (.row ([.int .i64 (c.obj * d.obj), .slice (some ⟨gLF, 0, none⟩) ss.length ss.length, .slice (some ⟨gLT, 0, none⟩) ss.length ss.length, .slice (some ⟨gLI, 0, none⟩) is.length is.length, .slice (some ⟨gLC, 0, none⟩) ss.length ss.length]) 27 true) ∧ gLF ≠ gLT ∧ gLF ≠ gLC ∧ gLF ≠ g7 ∧ gLT ≠ gLC ∧ gLT ≠ g7 ∧ gLC ≠ g7 ∧ (a ≤ c.src.length ∧ ss.length = a * d.src.length ∧ ts.length = ss.length ∧ cs.length = ss.length) ∧ Bd 0 33000 ss ∧ Bd 0 33000 ts ∧ Tb (-1) 33000 (c.src.length * d.src.length) cs ∧ (AtP d.src.length (prV d.obj c.src d.src) ss ∧ AtP d.src.length (prV d.obj c.tgt d.tgt) ts ∧ AtT d.src.length (fun a b row => AtP d.src.length (prC c d a b) row) cs) ∧ OwnL H.next H' 2 rr cs ∧ (∀ j, j < cs.length → rr j ≠ some ⟨gLF, 0, none⟩) ∧ (∀ j, j < cs.length → rr j ≠ some ⟨gLT, 0, none⟩) ∧ ∀ j, j < cs.length → rr j ≠ some ⟨gLI, 0, none⟩) (fun (a, ss, ts, rr, cs, gLF, gLT, gLC) => c.src.length - a) ((0, [], [], fun _ => none, [], v8, v9, w4)) ⟨rfl, rfl, rfl, rfl, rfl, rfl, trivial⟩ ⟨rfl, trivial⟩ ?_ ?_
  ·
   refine ⟨.refl _ _, by first | assumption | exact j1 | simpa using j1, ⟨.inl rfl⟩, by first | assumption | exact k2 | simpa using k2, ⟨.inl rfl⟩, by first | assumption | exact l8 | simpa using l8, ⟨.inl rfl⟩, by first | assumption | exact c4 | simpa using c4, by omega, by omega, by omega, by omega, by omega, by omega, ?_⟩
   exact ⟨⟨by omega, by simp, rfl, rfl⟩, .nil _ _, .nil _ _, .nil _ _ _, ⟨.nil _ _, .nil _ _, .nil _ _⟩, .nil _ _ _ _, fun _ h => by simp at h, fun _ h => by simp at h, fun _ h => by simp at h⟩
  rintro ⟨a, ss, ts, rr, cs, gLF, gLT, gLC⟩ HL3 ⟨d0, s6, n7, s5, n8, t3, q4, c4, ap3_0, ap3_1, ap3_2, ap3_3, ap3_4, ap3_5, hI⟩ KL3 bD
  refine .forget (fr' := [(10, some (.int .i64 (a : Int))), (2, some _), (3, some _), (4, some _), (5, some _), (6, some _), (7, some _)]) ⟨rfl, rfl, rfl, rfl, rfl, rfl, rfl, trivial⟩ ?_
  have ge_LF : H.next ≤ gLF := n7.ge (by omega) (by omega)
  have ge_LT : H.next ≤ gLT := n8.ge (by omega) (by omega)
  have ge_LC : H.next ≤ gLC := q4.ge (by omega) (by omega)
  have nx_HL3 := d0.nx
  replace u := u.st d0 (fun k hk => ⟨by omega, by omega, by omega, by omega, trivial⟩)
  have t5 : NE g2 v8 := .a
  have s4 : NE g2 v9 := .a
  have s9 : NE g2 w4 := .a
  replace c3 := d0.same _ _ ⟨t5.ne, s4.ne, s9.ne, i0.ne, trivial⟩ c3
  have s0 : NE g3 v8 := .a
  have r9 : NE g3 v9 := .a
  have t0 : NE g3 w4 := .a
  replace c5 := d0.same _ _ ⟨s0.ne, r9.ne, t0.ne, i1.ne, trivial⟩ c5
  have o3 : NE g4 v8 := .a
  have p7 : NE g4 v9 := .a
  have p3 : NE g4 w4 := .a
  replace h6 := d0.same _ _ ⟨o3.ne, p7.ne, p3.ne, h2.ne, trivial⟩ h6
  have k3 : NE v8 gLI := ⟨j8.ne n4.ne (by omega)⟩
  have k1 : NE v9 gLI := ⟨j8.ne n2.ne (by omega)⟩
  have j9 : NE w4 gLI := ⟨j8.ne n5.ne (by omega)⟩
  replace v := d0.same _ _ ⟨(Ne.symm k3.ne), (Ne.symm k1.ne), (Ne.symm j9.ne), u8, trivial⟩ v
  have lt_at_LF := GHeap.ltg s6
  have lt_at_LT := GHeap.ltg s5
  have lt_at_LC := GHeap.ltg t3
  have p5 := GHeap.ltg c4
  replace hin := i.mono u
  replace hin1 := e.mono u
  clear n f3 f2 f0 f4 e7 e8 e9 f5 d6 f1 e6
  have n : Cat.At _ g2 0 c p := ⟨Mem.of_get c3, hin⟩
  obtain ⟨f3, f2, f0, f4, e7, e8, e9, f5, d6⟩ := n.get
  have f1 : MemN _ _ _ _ _ := ⟨rfl, n.1⟩
  have e6 := n.2
  clear o g5 g9 f8 f9 h0 g8 f7 g0 d8 g1 g6
  have o : Cat.At _ g3 0 d q := ⟨Mem.of_get c5, hin1⟩
  obtain ⟨g5, g9, f8, f9, h0, g8, f7, g0, d8⟩ := o.get
  have g1 : MemN _ _ _ _ _ := ⟨rfl, o.1⟩
  have g6 := o.2
  clear l
  have l : MemN _ _ _ _ _ := ⟨rfl, Mem.of_get b0⟩
  obtain ⟨⟨ha, aZ, hts, hcl⟩, hS, hT, hC, aD, hR, aB, aA, z9⟩ := hI
  have ml := mulN_bd (a := a) (b := d.src.length) (by omega) (by omega)
  refine .seq (fun K15 aN => .seq (fun K16 aY => .region (.mv rfl (.q rfl (.fieldAddr fo_27_1_B rfl) ?_))))
  refine .q rfl (.load on_24_B rfl (by first | assumption | exact Mem.of_get c3 1 _ rfl)) ?_
  refine .q rfl (.len sl_24_A rfl) (.q rfl (.cmp rfl rfl rfl) (.nil (aY _ _ ?_)))
  refine .cond rfl (fun aX => ?_) (fun aX => ?_)
  ·
   simp only [sps] at aX
   have q1 := a4 a (by omega)
   have q2 := a5 a (by omega)
   refine .skip ?_
   refine aN _ _ (.seq (fun K17 aM => ?_))
   refine .block ?_
   refine .seq (fun K18 bG => .region (.mv rfl (.nil (bG _ _ ?_))))
   refine .block ?_
   refine .loopR (σ := Nat × List Int × List Int × (Nat → Option Addr) × List (List Int) × Nat × Nat × Nat) [(2, some _), (3, some _), (4, some _), (5, some _), (6, some _), (7, some _), (10, some _)] (fun (b, s2, t2, r2, c2, p6, o9, l7) => [(11, some (.int .i64 (b : Int)))]) (fun (b, s2, t2, r2, c2, p6, o9, l7) H' => St [gLF, gLT, gLC, g7] HL3 H' ∧ H'.get p6 = some (.row (ints s2) 2 true) ∧ PL p6 gLF HL3.next ∧ H'.get o9 = some (.row (ints t2) 2 true) ∧ PL o9 gLT HL3.next ∧ H'.get l7 = some (.row ((slsL r2 c2)) 24 true) ∧ PL l7 gLC HL3.next ∧ H'.get g7 = some (.row ([.int .i64 (c.obj * d.obj), .slice (some ⟨p6, 0, none⟩) s2.length s2.length, .slice (some ⟨o9, 0, none⟩) s2.length s2.length, .slice (some ⟨gLI, 0, none⟩) is.length is.length, .slice (some ⟨l7, 0, none⟩) s2.length s2.length]) 27 true) ∧ p6 ≠ o9 ∧ p6 ≠ l7 ∧ p6 ≠ g7 ∧ o9 ≠ l7 ∧ o9 ≠ g7 ∧ l7 ≠ g7 ∧ (b ≤ d.src.length ∧ s2.length = a * d.src.length + b ∧ t2.length = s2.length ∧ c2.length = s2.length) ∧ Bd 0 33000 s2 ∧ Bd 0 33000 t2 ∧ Tb (-1) 33000 (c.src.length * d.src.length) c2 ∧ (AtP d.src.length (prV d.obj c.src d.src) s2 ∧ AtP d.src.length (prV d.obj c.tgt d.tgt) t2 ∧ AtT d.src.length (fun a b row => AtP d.src.length (prC c d a b) row) c2) ∧ OwnL H.next H' 2 r2 c2 ∧ (∀ j, j < c2.length → r2 j ≠ some ⟨p6, 0, none⟩) ∧ (∀ j, j < c2.length → r2 j ≠ some ⟨o9, 0, none⟩) ∧ ∀ j, j < c2.length → r2 j ≠ some ⟨gLI, 0, none⟩) (fun (b, s2, t2, r2, c2, p6, o9, l7) => d.src.length - b) ((0, ss, ts, rr, cs, gLF, gLT, gLC)) ⟨rfl, rfl, rfl, rfl, rfl, rfl, rfl, trivial⟩ ⟨rfl, trivial⟩ ?_ ?_
   ·
    refine ⟨.refl _ _, by first | assumption | exact s6 | simpa using s6, ⟨.inl rfl⟩, by first | assumption | exact s5 | simpa using s5, ⟨.inl rfl⟩, by first | assumption | exact t3 | simpa using t3, ⟨.inl rfl⟩, by first | assumption | exact c4 | simpa using c4, by omega, by omega, by omega, by omega, by omega, by omega, ?_⟩
    exact ⟨⟨by omega, by omega, by omega, by omega⟩, hS, hT, hC, aD, hR, aB, aA, z9⟩
   rintro ⟨b, s2, t2, r2, c2, p6, o9, l7⟩ HL4 ⟨d1, v5, p8, l6, o5, w, p4, c4, z6, z0, z1, z7, x7, w6, hI⟩ KL4 aT
   refine .forget (fr' := [(11, some (.int .i64 (b : Int))), (2, some _), (3, some _), (4, some _), (5, some _), (6, some _), (7, some _), (10, some _)]) ⟨rfl, rfl, rfl, rfl, rfl, rfl, rfl, rfl, trivial⟩ ?_
   have ge_LF2 : H.next ≤ p6 := p8.ge (by omega) (by omega)
   have ge_LT2 : H.next ≤ o9 := o5.ge (by omega) (by omega)
   have ge_LC2 : H.next ≤ l7 := p4.ge (by omega) (by omega)
   have nx_HL4 := d1.nx
   replace u := u.st d1 (fun k hk => ⟨by omega, by omega, by omega, by omega, trivial⟩)
   replace d0 := d0.st d1 (fun k hk ho => by simp only [out, and_true] at ho ⊢ <;> exact ⟨by first | exact ho | exact ho.1 | exact ho.2 | exact ho.2.1 | exact ho.2.2 | exact ho.2.2.1 | exact ho.2.2.2 | exact n7.ne (by first | exact ho | exact ho.1 | exact ho.2 | exact ho.2.1 | exact ho.2.2 | exact ho.2.2.1 | exact ho.2.2.2 | omega) (by omega) | omega, by first | exact ho | exact ho.1 | exact ho.2 | exact ho.2.1 | exact ho.2.2 | exact ho.2.2.1 | exact ho.2.2.2 | exact n8.ne (by first | exact ho | exact ho.1 | exact ho.2 | exact ho.2.1 | exact ho.2.2 | exact ho.2.2.1 | exact ho.2.2.2 | omega) (by omega) | omega, by first | exact ho | exact ho.1 | exact ho.2 | exact ho.2.1 | exact ho.2.2 | exact ho.2.2.1 | exact ho.2.2.2 | exact q4.ne (by first | exact ho | exact ho.1 | exact ho.2 | exact ho.2.1 | exact ho.2.2 | exact ho.2.2.1 | exact ho.2.2.2 | omega) (by omega) | omega, by first | exact ho | exact ho.1 | exact ho.2 | exact ho.2.1 | exact ho.2.2 | exact ho.2.2.1 | exact ho.2.2.2 | omega⟩)
   have t8 : NE g2 gLF := ⟨n7.ne t5.ne (by omega)⟩
   have r8 : NE g2 gLT := ⟨n8.ne s4.ne (by omega)⟩
   have t7 : NE g2 gLC := ⟨q4.ne s9.ne (by omega)⟩
   replace c3 := d1.same _ _ ⟨t8.ne, r8.ne, t7.ne, i0.ne, trivial⟩ c3
   have s8 : NE g3 gLF := ⟨n7.ne s0.ne (by omega)⟩
   have s3 : NE g3 gLT := ⟨n8.ne r9.ne (by omega)⟩
   have s7 : NE g3 gLC := ⟨q4.ne t0.ne (by omega)⟩
   replace c5 := d1.same _ _ ⟨s8.ne, s3.ne, s7.ne, i1.ne, trivial⟩ c5
   have m7 : NE g4 gLF := ⟨n7.ne o3.ne (by omega)⟩
   have m6 : NE g4 gLT := ⟨n8.ne p7.ne (by omega)⟩
   have m8 : NE g4 gLC := ⟨q4.ne p3.ne (by omega)⟩
   replace h6 := d1.same _ _ ⟨m7.ne, m6.ne, m8.ne, h2.ne, trivial⟩ h6
   have q7 : NE gLI gLF := ⟨n7.ne (Ne.symm k3.ne) (by omega)⟩
   have r3 : NE gLI gLT := ⟨n8.ne (Ne.symm k1.ne) (by omega)⟩
   have r5 : NE gLI gLC := ⟨q4.ne (Ne.symm j9.ne) (by omega)⟩
   replace v := d1.same _ _ ⟨q7.ne, r3.ne, r5.ne, u8, trivial⟩ v
   have lt_at_LF2 := GHeap.ltg v5
   have lt_at_LT2 := GHeap.ltg l6
   have lt_at_LC2 := GHeap.ltg w
   have p5 := GHeap.ltg c4
   replace hin := i.mono u
   replace hin1 := e.mono u
   clear n f3 f2 f0 f4 e7 e8 e9 f5 d6 f1 e6
   have n : Cat.At _ g2 0 c p := ⟨Mem.of_get c3, hin⟩
   obtain ⟨f3, f2, f0, f4, e7, e8, e9, f5, d6⟩ := n.get
   have f1 : MemN _ _ _ _ _ := ⟨rfl, n.1⟩
   have e6 := n.2
   clear o g5 g9 f8 f9 h0 g8 f7 g0 d8 g1 g6
   have o : Cat.At _ g3 0 d q := ⟨Mem.of_get c5, hin1⟩
   obtain ⟨g5, g9, f8, f9, h0, g8, f7, g0, d8⟩ := o.get
   have g1 : MemN _ _ _ _ _ := ⟨rfl, o.1⟩
   have g6 := o.2
   clear l
   have l : MemN _ _ _ _ _ := ⟨rfl, Mem.of_get b0⟩
   have rk := St.refl [p6, o9, l7, g7] HL4
   obtain ⟨⟨hb, hs9, hts, hcl⟩, hS, hT, hC, ⟨bV, bS, bU⟩, hR, aB, aA, z9⟩ := hI
   have hatC := w
   have aH := c4
   have hfl : (slsL r2 c2).length = c2.length := length_slsL _ _
   refine .seq (fun K19 aG => .seq (fun K20 aS => .region (.mv rfl (.q rfl (.fieldAddr fo_27_1_B rfl) ?_))))
   refine .q rfl (.load on_24_B rfl (by first | assumption | exact Mem.of_get c5 1 _ rfl)) ?_
   refine .q rfl (.len sl_24_A rfl) (.q rfl (.cmp rfl rfl rfl) (.nil (aS _ _ ?_)))
   refine .cond rfl (fun aU => ?_) (fun aU => ?_)
   ·
    simp only [sps] at aU
    have p1 := b4 b (by omega)
    have p2 := b5 b (by omega)
    have mm1 := mul_bd (a := c.src.getD a 0) (by omega) b1
    have mm2 := mul_bd (a := c.tgt.getD a 0) (by omega) b1
    refine .skip ?_
    refine aG _ _ (.seq (fun K21 aR => ?_))
    refine .block ?_
    refine .seq (fun K22 aK => ?_)
    refine .regionD mo_B (.q 0 (.q 1 (.q 2 (.q 3 (.q 4 (.q 5 (.q 6 (.q 7 (.q 8 (.q 9 (.q 10 (.q 11 (.q 12 (.q 13 (.q 14 (.c 15 1 (.c 16 0 (.q 17 (.c 18 0 (.done)))))))))))))))))))) (by kernel_rfl) ?_
    refine .q rfl (.fieldAddr fo_27_1_B rfl) ?_
    refine .q rfl (.load on_24_B rfl (by first | assumption | exact Mem.of_get c4 1 _ rfl)) ?_
    refine .q rfl (.fieldAddr fo_27_1_B rfl) ?_
    refine .q rfl (.load on_24_B rfl (by first | assumption | exact Mem.of_get c3 1 _ rfl)) ?_
    refine .mv rfl rfl ?_
    refine .q rfl (.idxN sl_24_A (by assumption) rfl rfl (by omega)) ?_
    refine .q rfl (.loadI on_2_A (by assumption) rfl (by omega)) ?_
    refine .mv rfl rfl ?_
    refine .q rfl (.mul rfl rfl rfl (by omega) (by omega)) ?_
    refine .q rfl (.fieldAddr fo_27_1_B rfl) ?_
    refine .q rfl (.load on_24_B rfl (by first | assumption | exact Mem.of_get c5 1 _ rfl)) ?_
    refine .mv rfl rfl ?_
    refine .q rfl (.idxN sl_24_A (by assumption) rfl rfl (by omega)) ?_
    refine .q rfl (.loadI on_2_A (by assumption) rfl (by omega)) ?_
    refine .q rfl (.add rfl rfl rfl (by omega) (by omega)) ?_
    refine .c1 rfl rfl rfl rfl (.litA rfl sl_24_A ze_2_N rfl rfl rfl rfl) ?_
    rintro _ H88 ⟨y9, rfl, n9, ge88, d9⟩
    have z4 := n9
    refine ⟨z4, ?_⟩
    have nx_H88 := n9.1
    replace u := u.trans n9
    replace d0 := d0.le n9
    replace d1 := d1.le n9
    replace rk := rk.le n9
    replace c3 := n9.2 _ _ c3
    replace c5 := n9.2 _ _ c5
    replace h6 := n9.2 _ _ h6
    replace v := n9.2 _ _ v
    replace v5 := n9.2 _ _ v5
    replace l6 := n9.2 _ _ l6
    replace w := n9.2 _ _ w
    replace c4 := n9.2 _ _ c4
    have lt_at88 := GHeap.ltg d9
    replace hin := i.mono u
    replace hin1 := e.mono u
    clear n f3 f2 f0 f4 e7 e8 e9 f5 d6 f1 e6
    have n : Cat.At _ g2 0 c p := ⟨Mem.of_get c3, hin⟩
    obtain ⟨f3, f2, f0, f4, e7, e8, e9, f5, d6⟩ := n.get
    have f1 : MemN _ _ _ _ _ := ⟨rfl, n.1⟩
    have e6 := n.2
    clear o g5 g9 f8 f9 h0 g8 f7 g0 d8 g1 g6
    have o : Cat.At _ g3 0 d q := ⟨Mem.of_get c5, hin1⟩
    obtain ⟨g5, g9, f8, f9, h0, g8, f7, g0, d8⟩ := o.get
    have g1 : MemN _ _ _ _ _ := ⟨rfl, o.1⟩
    have g6 := o.2
    clear l
    have l : MemN _ _ _ _ _ := ⟨rfl, Mem.of_get b0⟩
    refine .c0 rfl rfl rfl rfl (.appendI rfl sl_24_A ze_2_N rfl by_2_N sl_24_A rfl rfl (by assumption) (by assumption) (by first | omega | (simp <;> omega)) (by omega) (by omega)) ?_
    rintro _ H89 ⟨x6, rfl, o8, ge89, f6⟩
    have nx_H89 := o8.nx
    replace u := u.st o8 (fun k hk => ⟨by omega, trivial⟩)
    replace d0 := d0.sQ o8
    replace d1 := d1.sQ o8
    replace rk := rk.sQ o8
    replace c3 := o8.same _ _ ⟨(p8.ne t8.ne (by omega)), trivial⟩ c3
    replace c5 := o8.same _ _ ⟨(p8.ne s8.ne (by omega)), trivial⟩ c5
    replace h6 := o8.same _ _ ⟨(p8.ne m7.ne (by omega)), trivial⟩ h6
    replace v := o8.same _ _ ⟨(p8.ne q7.ne (by omega)), trivial⟩ v
    replace l6 := o8.same _ _ ⟨(Ne.symm z6), trivial⟩ l6
    replace w := o8.same _ _ ⟨(Ne.symm z0), trivial⟩ w
    replace c4 := o8.same _ _ ⟨(Ne.symm z1), trivial⟩ c4
    replace d9 := o8.s d9
    have lt_at89 := GHeap.ltg f6
    replace hin := i.mono u
    replace hin1 := e.mono u
    clear n f3 f2 f0 f4 e7 e8 e9 f5 d6 f1 e6
    have n : Cat.At _ g2 0 c p := ⟨Mem.of_get c3, hin⟩
    obtain ⟨f3, f2, f0, f4, e7, e8, e9, f5, d6⟩ := n.get
    have f1 : MemN _ _ _ _ _ := ⟨rfl, n.1⟩
    have e6 := n.2
    clear o g5 g9 f8 f9 h0 g8 f7 g0 d8 g1 g6
    have o : Cat.At _ g3 0 d q := ⟨Mem.of_get c5, hin1⟩
    obtain ⟨g5, g9, f8, f9, h0, g8, f7, g0, d8⟩ := o.get
    have g1 : MemN _ _ _ _ _ := ⟨rfl, o.1⟩
    have g6 := o.2
    clear l
    have l : MemN _ _ _ _ _ := ⟨rfl, Mem.of_get b0⟩
    refine .q rfl (.fieldAddr fo_27_1_B rfl) ?_
    refine .r0 rfl rfl rfl (.storeR rfl sz_24_Ch rfl rfl rfl (by assumption) (by first | exact Nat.le_of_ble_eq_true rfl | (simp; done) | (simp <;> omega))) ?_
    rintro _ H16018 ⟨rfl, e5, l5⟩
    have nx_H16018 := e5.nx
    replace u := u.st e5 (fun k hk => ⟨by omega, trivial⟩)
    replace d0 := d0.sA e5
    replace d1 := d1.sA e5
    replace rk := rk.sA e5
    replace c3 := e5.s c3 i0.ne
    replace c5 := e5.s c5 i1.ne
    replace h6 := e5.s h6 h2.ne
    replace v := e5.same _ _ ⟨u8, trivial⟩ v
    replace l6 := e5.same _ _ ⟨x7, trivial⟩ l6
    replace w := e5.same _ _ ⟨w6, trivial⟩ w
    have o6 : NE y9 g7 := .a
    replace d9 := e5.s d9 o6.ne
    have p0 : NE x6 g7 := .a
    replace f6 := e5.s f6 p0.ne
    have lt_at16018 := GHeap.ltg l5
    replace hin := i.mono u
    replace hin1 := e.mono u
    clear n f3 f2 f0 f4 e7 e8 e9 f5 d6 f1 e6
    have n : Cat.At _ g2 0 c p := ⟨Mem.of_get c3, hin⟩
    obtain ⟨f3, f2, f0, f4, e7, e8, e9, f5, d6⟩ := n.get
    have f1 : MemN _ _ _ _ _ := ⟨rfl, n.1⟩
    have e6 := n.2
    clear o g5 g9 f8 f9 h0 g8 f7 g0 d8 g1 g6
    have o : Cat.At _ g3 0 d q := ⟨Mem.of_get c5, hin1⟩
    obtain ⟨g5, g9, f8, f9, h0, g8, f7, g0, d8⟩ := o.get
    have g1 : MemN _ _ _ _ _ := ⟨rfl, o.1⟩
    have g6 := o.2
    clear l
    have l : MemN _ _ _ _ _ := ⟨rfl, Mem.of_get b0⟩
    try simp only [Nat.zero_add, List.set_cons_succ, List.set_cons_zero] at l5
    refine .done ?_
    refine aK _ _ (.seq (fun K23 aV => ?_))
    refine .regionD mo_B (.q 0 (.q 1 (.q 2 (.q 3 (.q 4 (.q 5 (.q 6 (.q 7 (.q 8 (.q 9 (.q 10 (.q 11 (.q 12 (.q 13 (.q 14 (.c 15 1 (.c 16 0 (.q 17 (.c 18 0 (.done)))))))))))))))))))) (by kernel_rfl) ?_
    refine .q rfl (.fieldAddr fo_27_2_B rfl) ?_
    refine .q rfl (.load on_24_B rfl (by first | assumption | exact Mem.of_get l5 2 _ rfl)) ?_
    refine .q rfl (.fieldAddr fo_27_2_B rfl) ?_
    refine .q rfl (.load on_24_B rfl (by first | assumption | exact Mem.of_get c3 2 _ rfl)) ?_
    refine .mv rfl rfl ?_
    refine .q rfl (.idxN sl_24_A (by assumption) rfl rfl (by omega)) ?_
    refine .q rfl (.loadI on_2_A (by assumption) rfl (by omega)) ?_
    refine .mv rfl rfl ?_
    refine .q rfl (.mul rfl rfl rfl (by omega) (by omega)) ?_
    refine .q rfl (.fieldAddr fo_27_2_B rfl) ?_
    refine .q rfl (.load on_24_B rfl (by first | assumption | exact Mem.of_get c5 2 _ rfl)) ?_
    refine .mv rfl rfl ?_
    refine .q rfl (.idxN sl_24_A (by assumption) rfl rfl (by omega)) ?_
    refine .q rfl (.loadI on_2_A (by assumption) rfl (by omega)) ?_
    refine .q rfl (.add rfl rfl rfl (by omega) (by omega)) ?_
    refine .c1 rfl rfl rfl rfl (.litA rfl sl_24_A ze_2_N rfl rfl rfl rfl) ?_
    rintro _ H106 ⟨v7, rfl, k4, ge106, d2⟩
    have z4 := k4
    refine ⟨z4, ?_⟩
    have nx_H106 := k4.1
    replace u := u.trans k4
    replace d0 := d0.le k4
    replace d1 := d1.le k4
    replace rk := rk.le k4
    replace c3 := k4.2 _ _ c3
    replace c5 := k4.2 _ _ c5
    replace h6 := k4.2 _ _ h6
    replace v := k4.2 _ _ v
    replace l6 := k4.2 _ _ l6
    replace w := k4.2 _ _ w
    replace d9 := k4.2 _ _ d9
    replace f6 := k4.2 _ _ f6
    replace l5 := k4.2 _ _ l5
    have lt_at106 := GHeap.ltg d2
    replace hin := i.mono u
    replace hin1 := e.mono u
    clear n f3 f2 f0 f4 e7 e8 e9 f5 d6 f1 e6
    have n : Cat.At _ g2 0 c p := ⟨Mem.of_get c3, hin⟩
    obtain ⟨f3, f2, f0, f4, e7, e8, e9, f5, d6⟩ := n.get
    have f1 : MemN _ _ _ _ _ := ⟨rfl, n.1⟩
    have e6 := n.2
    clear o g5 g9 f8 f9 h0 g8 f7 g0 d8 g1 g6
    have o : Cat.At _ g3 0 d q := ⟨Mem.of_get c5, hin1⟩
    obtain ⟨g5, g9, f8, f9, h0, g8, f7, g0, d8⟩ := o.get
    have g1 : MemN _ _ _ _ _ := ⟨rfl, o.1⟩
    have g6 := o.2
    clear l
    have l : MemN _ _ _ _ _ := ⟨rfl, Mem.of_get b0⟩
    refine .c0 rfl rfl rfl rfl (.appendI rfl sl_24_A ze_2_N rfl by_2_N sl_24_A rfl rfl (by assumption) (by assumption) (by first | omega | (simp <;> omega)) (by omega) (by omega)) ?_
    rintro _ H107 ⟨t9, rfl, k7, ge107, d4⟩
    have nx_H107 := k7.nx
    replace u := u.st k7 (fun k hk => ⟨by omega, trivial⟩)
    replace d0 := d0.sQ k7
    replace d1 := d1.sQ k7
    replace rk := rk.sQ k7
    replace c3 := k7.same _ _ ⟨(o5.ne r8.ne (by omega)), trivial⟩ c3
    replace c5 := k7.same _ _ ⟨(o5.ne s3.ne (by omega)), trivial⟩ c5
    replace h6 := k7.same _ _ ⟨(o5.ne m6.ne (by omega)), trivial⟩ h6
    replace v := k7.same _ _ ⟨(o5.ne r3.ne (by omega)), trivial⟩ v
    replace w := k7.same _ _ ⟨(Ne.symm z7), trivial⟩ w
    replace d9 := k7.s d9
    replace f6 := k7.s f6
    replace l5 := k7.same _ _ ⟨(Ne.symm x7), trivial⟩ l5
    replace d2 := k7.s d2
    have lt_at107 := GHeap.ltg d4
    replace hin := i.mono u
    replace hin1 := e.mono u
    clear n f3 f2 f0 f4 e7 e8 e9 f5 d6 f1 e6
    have n : Cat.At _ g2 0 c p := ⟨Mem.of_get c3, hin⟩
    obtain ⟨f3, f2, f0, f4, e7, e8, e9, f5, d6⟩ := n.get
    have f1 : MemN _ _ _ _ _ := ⟨rfl, n.1⟩
    have e6 := n.2
    clear o g5 g9 f8 f9 h0 g8 f7 g0 d8 g1 g6
    have o : Cat.At _ g3 0 d q := ⟨Mem.of_get c5, hin1⟩
    obtain ⟨g5, g9, f8, f9, h0, g8, f7, g0, d8⟩ := o.get
    have g1 : MemN _ _ _ _ _ := ⟨rfl, o.1⟩
    have g6 := o.2
    clear l
    have l : MemN _ _ _ _ _ := ⟨rfl, Mem.of_get b0⟩
    refine .q rfl (.fieldAddr fo_27_2_B rfl) ?_
    refine .r0 rfl rfl rfl (.storeR rfl sz_24_Ch rfl rfl rfl (by assumption) (by first | exact Nat.le_of_ble_eq_true rfl | (simp; done) | (simp <;> omega))) ?_
    rintro _ H17018 ⟨rfl, d7, a0⟩
    have nx_H17018 := d7.nx
    replace u := u.st d7 (fun k hk => ⟨by omega, trivial⟩)
    replace d0 := d0.sA d7
    replace d1 := d1.sA d7
    replace rk := rk.sA d7
    replace c3 := d7.s c3 i0.ne
    replace c5 := d7.s c5 i1.ne
    replace h6 := d7.s h6 h2.ne
    replace v := d7.same _ _ ⟨u8, trivial⟩ v
    replace w := d7.same _ _ ⟨w6, trivial⟩ w
    replace d9 := d7.s d9 o6.ne
    replace f6 := d7.s f6 p0.ne
    have r4 : NE v7 g7 := .a
    replace d2 := d7.s d2 r4.ne
    have q8 : NE t9 g7 := .a
    replace d4 := d7.s d4 q8.ne
    have lt_at17018 := GHeap.ltg a0
    replace hin := i.mono u
    replace hin1 := e.mono u
    clear n f3 f2 f0 f4 e7 e8 e9 f5 d6 f1 e6
    have n : Cat.At _ g2 0 c p := ⟨Mem.of_get c3, hin⟩
    obtain ⟨f3, f2, f0, f4, e7, e8, e9, f5, d6⟩ := n.get
    have f1 : MemN _ _ _ _ _ := ⟨rfl, n.1⟩
    have e6 := n.2
    clear o g5 g9 f8 f9 h0 g8 f7 g0 d8 g1 g6
    have o : Cat.At _ g3 0 d q := ⟨Mem.of_get c5, hin1⟩
    obtain ⟨g5, g9, f8, f9, h0, g8, f7, g0, d8⟩ := o.get
    have g1 : MemN _ _ _ _ _ := ⟨rfl, o.1⟩
    have g6 := o.2
    clear l
    have l : MemN _ _ _ _ _ := ⟨rfl, Mem.of_get b0⟩
    try simp only [Nat.zero_add, List.set_cons_succ, List.set_cons_zero] at a0
    refine .done ?_
    refine aV _ _ (.seq (fun K24 aE => .region ?_))
    refine .R rfl (.litA rfl sl_24_A ze_2_N rfl rfl rfl rfl) ?_
    rintro _ y4 ⟨o2, rfl, k0, ge109, u7⟩
    have nx_H109 := k0.1
    replace u := u.trans k0
    replace d0 := d0.le k0
    replace d1 := d1.le k0
    replace rk := rk.le k0
    replace c3 := k0.2 _ _ c3
    replace c5 := k0.2 _ _ c5
    replace h6 := k0.2 _ _ h6
    replace v := k0.2 _ _ v
    replace w := k0.2 _ _ w
    replace d9 := k0.2 _ _ d9
    replace f6 := k0.2 _ _ f6
    replace d2 := k0.2 _ _ d2
    replace d4 := k0.2 _ _ d4
    replace a0 := k0.2 _ _ a0
    have lt_at109 := GHeap.ltg u7
    replace hin := i.mono u
    replace hin1 := e.mono u
    clear n f3 f2 f0 f4 e7 e8 e9 f5 d6 f1 e6
    have n : Cat.At _ g2 0 c p := ⟨Mem.of_get c3, hin⟩
    obtain ⟨f3, f2, f0, f4, e7, e8, e9, f5, d6⟩ := n.get
    have f1 : MemN _ _ _ _ _ := ⟨rfl, n.1⟩
    have e6 := n.2
    clear o g5 g9 f8 f9 h0 g8 f7 g0 d8 g1 g6
    have o : Cat.At _ g3 0 d q := ⟨Mem.of_get c5, hin1⟩
    obtain ⟨g5, g9, f8, f9, h0, g8, f7, g0, d8⟩ := o.get
    have g1 : MemN _ _ _ _ _ := ⟨rfl, o.1⟩
    have g6 := o.2
    clear l
    have l : MemN _ _ _ _ _ := ⟨rfl, Mem.of_get b0⟩
    replace u7 : GHeap.get y4 o2 = some (.row (ints []) 2 true) := u7
    refine .mv rfl (.nil (aE _ _ (.seq (fun K25 bF => .seq (fun K26 bN => .region (.mv rfl (.nil (bN _ _ ?_))))))))
    refine .block ?_
    refine .loopR (σ := Nat × List Int × Nat × Nat) [(2, some _), (3, some _), (4, some _), (5, some _), (6, some _), (7, some _), (10, some _), (11, some _)] (fun (f, row, i8, v0) => [(13, some (.int .i64 (f : Int))), (12, some (.slice (some ⟨i8, 0, none⟩) v0 v0))]) (fun (f, row, i8, v0) H' => St [o2] y4 H' ∧ H'.get i8 = some (.row (ints row) 2 true) ∧ PL i8 o2 y4.next ∧ v0 = row.length ∧ (f ≤ c.src.length ∧ row.length = f * d.src.length) ∧ AtP d.src.length (prC c d a b) row ∧ Bd (-1) 33000 row) (fun (f, row, i8, v0) => c.src.length - f) ((0, [], _, _)) ⟨rfl, rfl, rfl, rfl, rfl, rfl, rfl, rfl, trivial⟩ ⟨rfl, rfl, trivial⟩ ?_ ?_
    ·
     refine ⟨.refl _ _, by first | assumption | exact u7 | simpa using u7, ⟨.inl rfl⟩, by first | rfl | assumption | simp | omega, ?_⟩
     exact ⟨⟨by omega, by simp⟩, .nil _ _, .nil _ _⟩
    rintro ⟨f, row, i8, v0⟩ HL5 ⟨h8, l2, d5, y2, hI⟩ KL5 aQ
    refine .forget (fr' := [(13, some (.int .i64 (f : Int))), (12, some (.slice (some ⟨i8, 0, none⟩) v0 v0)), (2, some _), (3, some _), (4, some _), (5, some _), (6, some _), (7, some _), (10, some _), (11, some _)]) ⟨rfl, rfl, rfl, rfl, rfl, rfl, rfl, rfl, rfl, rfl, trivial⟩ ?_
    have ge_L12 : H.next ≤ i8 := d5.ge (by omega) (by omega)
    have nx_HL5 := h8.nx
    replace u := u.st h8 (fun k hk => ⟨by omega, trivial⟩)
    replace d0 := d0.sA h8
    replace d1 := d1.sA h8
    replace rk := rk.sA h8
    have r6 : NE g2 o2 := .a
    replace c3 := h8.s c3 r6.ne
    have r7 : NE g3 o2 := .a
    replace c5 := h8.s c5 r7.ne
    have q6 : NE g4 o2 := .a
    replace h6 := h8.s h6 q6.ne
    have q0 : NE gLI o2 := .a
    replace v := h8.s v q0.ne
    have l0 : NE l7 o2 := .a
    replace w := h8.s w l0.ne
    have p9 : NE y9 o2 := .a
    replace d9 := h8.s d9 p9.ne
    have q3 : NE x6 o2 := .a
    replace f6 := h8.s f6 q3.ne
    have o1 : NE v7 o2 := .a
    replace d2 := h8.s d2 o1.ne
    have o0 : NE t9 o2 := .a
    replace d4 := h8.s d4 o0.ne
    have n6 : NE g7 o2 := .a
    replace a0 := h8.s a0 n6.ne
    have lt_at_L12 := GHeap.ltg l2
    replace hin := i.mono u
    replace hin1 := e.mono u
    clear n f3 f2 f0 f4 e7 e8 e9 f5 d6 f1 e6
    have n : Cat.At _ g2 0 c p := ⟨Mem.of_get c3, hin⟩
    obtain ⟨f3, f2, f0, f4, e7, e8, e9, f5, d6⟩ := n.get
    have f1 : MemN _ _ _ _ _ := ⟨rfl, n.1⟩
    have e6 := n.2
    clear o g5 g9 f8 f9 h0 g8 f7 g0 d8 g1 g6
    have o : Cat.At _ g3 0 d q := ⟨Mem.of_get c5, hin1⟩
    obtain ⟨g5, g9, f8, f9, h0, g8, f7, g0, d8⟩ := o.get
    have g1 : MemN _ _ _ _ _ := ⟨rfl, o.1⟩
    have g6 := o.2
    clear l
    have l : MemN _ _ _ _ _ := ⟨rfl, Mem.of_get b0⟩
    obtain ⟨⟨hf, hrl⟩, hWA, hW⟩ := hI
    have ml2 := mulN_bd (a := f) (b := d.src.length) (by omega) (by omega)
    refine .seq (fun K27 bH => .seq (fun K28 bQ => .region (.mv rfl (.q rfl (.fieldAddr fo_27_1_B rfl) ?_))))
    refine .q rfl (.load on_24_B rfl (by first | assumption | exact Mem.of_get c3 1 _ rfl)) ?_
    refine .q rfl (.len sl_24_A rfl) (.q rfl (.cmp rfl rfl rfl) (.nil (bQ _ _ ?_)))
    refine .cond rfl (fun y7 => ?_) (fun y7 => ?_)
    ·
     simp only [sps] at y7
     refine .skip ?_
     refine bH _ _ (.seq (fun K29 aW => ?_))
     refine .block ?_
     refine .seq (fun K30 bC => .region (.mv rfl (.nil (bC _ _ ?_))))
     refine .block ?_
     refine .loopR (σ := Nat × List Int × Nat × Nat) [(2, some _), (3, some _), (4, some _), (5, some _), (6, some _), (7, some _), (10, some _), (11, some _), (13, some _)] (fun (g, w2, t, m2) => [(14, some (.int .i64 (g : Int))), (12, some (.slice (some ⟨t, 0, none⟩) m2 m2))]) (fun (g, w2, t, m2) H' => St [i8] HL5 H' ∧ H'.get t = some (.row (ints w2) 2 true) ∧ PL t i8 HL5.next ∧ m2 = w2.length ∧ (g ≤ d.src.length ∧ w2.length = f * d.src.length + g) ∧ AtP d.src.length (prC c d a b) w2 ∧ Bd (-1) 33000 w2) (fun (g, w2, t, m2) => d.src.length - g) ((0, row, _, _)) ⟨rfl, rfl, rfl, rfl, rfl, rfl, rfl, rfl, rfl, trivial⟩ ⟨rfl, rfl, trivial⟩ ?_ ?_
     ·
      refine ⟨.refl _ _, by first | assumption | exact l2 | simpa using l2, ⟨.inl rfl⟩, by first | rfl | assumption | simp | omega, ?_⟩
      exact ⟨⟨by omega, by omega⟩, hWA, hW⟩
     rintro ⟨g, w2, t, m2⟩ HL6 ⟨h7, j7, m, ln_L12v6, hI⟩ KL6 y8
     refine .forget (fr' := [(14, some (.int .i64 (g : Int))), (12, some (.slice (some ⟨t, 0, none⟩) m2 m2)), (2, some _), (3, some _), (4, some _), (5, some _), (6, some _), (7, some _), (10, some _), (11, some _), (13, some _)]) ⟨rfl, rfl, rfl, rfl, rfl, rfl, rfl, rfl, rfl, rfl, rfl, trivial⟩ ?_
     have ge_L12v6 : H.next ≤ t := m.ge (by omega) (by omega)
     have nx_HL6 := h7.nx
     replace u := u.st h7 (fun k hk => ⟨by omega, trivial⟩)
     replace d0 := d0.sP h7
     replace d1 := d1.sP h7
     replace rk := rk.sP h7
     replace h8 := h8.sP h7
     have l3 : NE g2 i8 := ⟨d5.ne r6.ne (by omega)⟩
     replace c3 := h7.s c3 l3.ne
     have l4 : NE g3 i8 := ⟨d5.ne r7.ne (by omega)⟩
     replace c5 := h7.s c5 l4.ne
     have l1 : NE g4 i8 := ⟨d5.ne q6.ne (by omega)⟩
     replace h6 := h7.s h6 l1.ne
     have k6 : NE gLI i8 := ⟨d5.ne q0.ne (by omega)⟩
     replace v := h7.s v k6.ne
     have e4 : NE l7 i8 := ⟨d5.ne l0.ne (by omega)⟩
     replace w := h7.s w e4.ne
     have k5 : NE y9 i8 := ⟨d5.ne p9.ne (by omega)⟩
     replace d9 := h7.s d9 k5.ne
     have k8 : NE x6 i8 := ⟨d5.ne q3.ne (by omega)⟩
     replace f6 := h7.s f6 k8.ne
     have j6 : NE v7 i8 := ⟨d5.ne o1.ne (by omega)⟩
     replace d2 := h7.s d2 j6.ne
     have j5 : NE t9 i8 := ⟨d5.ne o0.ne (by omega)⟩
     replace d4 := h7.s d4 j5.ne
     have i9 : NE g7 i8 := ⟨d5.ne n6.ne (by omega)⟩
     replace a0 := h7.s a0 i9.ne
     have lt_at_L12v6 := GHeap.ltg j7
     replace hin := i.mono u
     replace hin1 := e.mono u
     clear n f3 f2 f0 f4 e7 e8 e9 f5 d6 f1 e6
     have n : Cat.At _ g2 0 c p := ⟨Mem.of_get c3, hin⟩
     obtain ⟨f3, f2, f0, f4, e7, e8, e9, f5, d6⟩ := n.get
     have f1 : MemN _ _ _ _ _ := ⟨rfl, n.1⟩
     have e6 := n.2
     clear o g5 g9 f8 f9 h0 g8 f7 g0 d8 g1 g6
     have o : Cat.At _ g3 0 d q := ⟨Mem.of_get c5, hin1⟩
     obtain ⟨g5, g9, f8, f9, h0, g8, f7, g0, d8⟩ := o.get
     have g1 : MemN _ _ _ _ _ := ⟨rfl, o.1⟩
     have g6 := o.2
     clear l
     have l : MemN _ _ _ _ _ := ⟨rfl, Mem.of_get b0⟩
     obtain ⟨⟨hg, hrl⟩, hWA, hW⟩ := hI
     refine .seq (fun K31 bO => .seq (fun K32 aF => .region (.mv rfl (.q rfl (.fieldAddr fo_27_1_B rfl) ?_))))
     refine .q rfl (.load on_24_B rfl (by first | assumption | exact Mem.of_get c5 1 _ rfl)) ?_
     refine .q rfl (.len sl_24_A rfl) (.q rfl (.cmp rfl rfl rfl) (.nil (aF _ _ ?_)))
     refine .cond rfl (fun x9 => ?_) (fun x9 => ?_)
     ·
      simp only [sps] at x9
      have v1 := cN a (by omega) f (by omega)
      have v2 := cG b (by omega) g (by omega)
      have w1 := a9 a (by omega)
      have w3 := b9 b (by omega)
      have u1 := d6.2 a (by omega)
      have u2 := d8.2 b (by omega)
      refine .skip ?_
      refine bO _ _ (.seq (fun K33 y5 => ?_))
      refine .block ?_
      refine .seq (fun K34 aI => .region (.mv rfl (.nil (aI _ _ (.seq (fun K35 y1 => .seq (fun K36 z5 => .region (.q rfl (.fieldAddr fo_27_4_B rfl) ?_))))))))
      refine .q rfl (.load on_25_B rfl (by first | assumption | exact Mem.of_get c3 4 _ rfl)) ?_
      refine .mv rfl ?_
      refine .q rfl (.idxN sl_25_B (Intss.sl (by assumption)) rfl rfl (by omega)) ?_
      refine .q rfl (.loadR on_24_B (by assumption) rfl (by omega)) ?_
      refine .mv rfl ?_
      refine .q rfl (.idxN sl_24_A (by assumption) rfl rfl (by omega)) ?_
      refine .q rfl (.loadI on_2_A (by assumption) rfl (by omega)) ?_
      refine .q rfl (.cmp rfl rfl rfl) (.mv rfl ?_)
      refine .split (fun y0 => ?_) (fun y0 => ?_)
      ·
       simp only [sps] at y0
       refine .qg rfl (.fieldAddr fo_27_4_B rfl) ?_
       refine .qg rfl (.load on_25_B rfl (by first | assumption | exact Mem.of_get c5 4 _ rfl)) ?_
       refine .qg rfl (.move rfl) ?_
       refine .qg rfl (.idxN sl_25_B (Intss.sl (by assumption)) rfl rfl (by omega)) ?_
       refine .qg rfl (.loadR on_24_B (by assumption) rfl (by omega)) ?_
       refine .qg rfl (.move rfl) ?_
       refine .qg rfl (.idxN sl_24_A (by assumption) rfl rfl (by omega)) ?_
       refine .qg rfl (.loadI on_2_A (by assumption) rfl (by omega)) ?_
       refine .qg rfl (.cmp rfl rfl rfl) (.q rfl (.pickT rfl rfl) (.nil (z5 _ _ ?_)))
       refine .cond rfl (fun y3 => ?_) (fun y3 => ?_)
       ·
        simp only [sps] at y3
        have mm3 := mul_bd (a := (c.comp.getD a []).getD f 0) (b := (d.src.length : Int)) (by omega) (by omega)
        obtain ⟨h3, w7, n3⟩ : ∃ h3, h3 = (c.comp.getD a []).getD f 0 * (d.src.length : Int) + (d.comp.getD b []).getD g 0 ∧ -1 ≤ h3 ∧ h3 ≤ 33000 := ⟨_, rfl, by omega, by omega⟩
        have z8 : h3 = prC c d a b f g := by rw [w7]; exact (if_pos ⟨by omega, by omega⟩).symm
        refine .regionD mo_B (.q 0 (.q 1 (.q 2 (.q 3 (.q 4 (.q 5 (.q 6 (.q 7 (.q 8 (.q 9 (.q 10 (.q 11 (.q 12 (.q 13 (.q 14 (.q 15 (.q 16 (.q 17 (.q 18 (.q 19 (.done))))))))))))))))))))) (by kernel_rfl) ?_
        refine .q rfl (.fieldAddr fo_27_4_B rfl) ?_
        refine .q rfl (.load on_25_B rfl (by first | assumption | exact Mem.of_get c3 4 _ rfl)) ?_
        refine .mv rfl rfl ?_
        refine .q rfl (.idxN sl_25_B (Intss.sl (by assumption)) rfl rfl (by omega)) ?_
        refine .q rfl (.loadR on_24_B (by assumption) rfl (by omega)) ?_
        refine .mv rfl rfl ?_
        refine .q rfl (.idxN sl_24_A (by assumption) rfl rfl (by omega)) ?_
        refine .q rfl (.loadI on_2_A (by assumption) rfl (by omega)) ?_
        refine .mv rfl rfl ?_
        refine .q rfl (.mul rfl rfl rfl (by omega) (by omega)) ?_
        refine .q rfl (.fieldAddr fo_27_4_B rfl) ?_
        refine .q rfl (.load on_25_B rfl (by first | assumption | exact Mem.of_get c5 4 _ rfl)) ?_
        refine .mv rfl rfl ?_
        refine .q rfl (.idxN sl_25_B (Intss.sl (by assumption)) rfl rfl (by omega)) ?_
        refine .q rfl (.loadR on_24_B (by assumption) rfl (by omega)) ?_
        refine .mv rfl rfl ?_
        refine .q rfl (.idxN sl_24_A (by assumption) rfl rfl (by omega)) ?_
        refine .q rfl (.loadI on_2_A (by assumption) rfl (by omega)) ?_
        refine .q rfl (.add rfl rfl rfl (by omega) (by omega)) ?_
        refine .mv rfl rfl ?_
        refine .done ?_
        refine y1 _ _ (.region (.mv rfl (.mv rfl ?_)))
        refine .R rfl (.litA rfl sl_24_A ze_2_N rfl rfl rfl rfl) ?_
        rintro _ H165 ⟨g165, rfl, i6, ge165, w8⟩
        have nx_H165 := i6.1
        replace u := u.trans i6
        replace d0 := d0.le i6
        replace d1 := d1.le i6
        replace rk := rk.le i6
        replace h8 := h8.le i6
        replace h7 := h7.le i6
        replace c3 := i6.2 _ _ c3
        replace c5 := i6.2 _ _ c5
        replace h6 := i6.2 _ _ h6
        replace v := i6.2 _ _ v
        replace w := i6.2 _ _ w
        replace d9 := i6.2 _ _ d9
        replace f6 := i6.2 _ _ f6
        replace d2 := i6.2 _ _ d2
        replace d4 := i6.2 _ _ d4
        replace a0 := i6.2 _ _ a0
        replace j7 := i6.2 _ _ j7
        have lt_at165 := GHeap.ltg w8
        replace hin := i.mono u
        replace hin1 := e.mono u
        clear n f3 f2 f0 f4 e7 e8 e9 f5 d6 f1 e6
        have n : Cat.At _ g2 0 c p := ⟨Mem.of_get c3, hin⟩
        obtain ⟨f3, f2, f0, f4, e7, e8, e9, f5, d6⟩ := n.get
        have f1 : MemN _ _ _ _ _ := ⟨rfl, n.1⟩
        have e6 := n.2
        clear o g5 g9 f8 f9 h0 g8 f7 g0 d8 g1 g6
        have o : Cat.At _ g3 0 d q := ⟨Mem.of_get c5, hin1⟩
        obtain ⟨g5, g9, f8, f9, h0, g8, f7, g0, d8⟩ := o.get
        have g1 : MemN _ _ _ _ _ := ⟨rfl, o.1⟩
        have g6 := o.2
        clear l
        have l : MemN _ _ _ _ _ := ⟨rfl, Mem.of_get b0⟩
        clear u1 u2
        have u1 := d6.2 a (by omega)
        have u2 := d8.2 b (by omega)
        refine .R rfl (.appendI rfl sl_24_A ze_2_N rfl by_2_N sl_24_A rfl rfl (by assumption) (by assumption) (by first | omega | (simp <;> omega)) (by omega) (by omega)) ?_
        rintro _ H166 ⟨g166, rfl, i7, ge166, z2⟩
        have nx_H166 := i7.nx
        replace u := u.st i7 (fun k hk => ⟨by omega, trivial⟩)
        replace d0 := d0.sQ i7
        replace d1 := d1.sQ i7
        replace rk := rk.sQ i7
        replace h8 := h8.sQ i7
        replace h7 := h7.sQ i7
        have i3 : NE g2 t := ⟨m.ne l3.ne (by omega)⟩
        replace c3 := i7.s c3 i3.ne
        have i5 : NE g3 t := ⟨m.ne l4.ne (by omega)⟩
        replace c5 := i7.s c5 i5.ne
        have i4 : NE g4 t := ⟨m.ne l1.ne (by omega)⟩
        replace h6 := i7.s h6 i4.ne
        have h4 : NE gLI t := ⟨m.ne k6.ne (by omega)⟩
        replace v := i7.s v h4.ne
        have e3 : NE l7 t := ⟨m.ne e4.ne (by omega)⟩
        replace w := i7.s w e3.ne
        have h5 : NE y9 t := ⟨m.ne k5.ne (by omega)⟩
        replace d9 := i7.s d9 h5.ne
        have h1 : NE x6 t := ⟨m.ne k8.ne (by omega)⟩
        replace f6 := i7.s f6 h1.ne
        have e0 : NE v7 t := ⟨m.ne j6.ne (by omega)⟩
        replace d2 := i7.s d2 e0.ne
        have e2 : NE t9 t := ⟨m.ne j5.ne (by omega)⟩
        replace d4 := i7.s d4 e2.ne
        have h9 : NE g7 t := ⟨m.ne i9.ne (by omega)⟩
        replace a0 := i7.s a0 h9.ne
        replace w8 := i7.s w8
        have lt_at166 := GHeap.ltg z2
        replace hin := i.mono u
        replace hin1 := e.mono u
        clear n f3 f2 f0 f4 e7 e8 e9 f5 d6 f1 e6
        have n : Cat.At _ g2 0 c p := ⟨Mem.of_get c3, hin⟩
        obtain ⟨f3, f2, f0, f4, e7, e8, e9, f5, d6⟩ := n.get
        have f1 : MemN _ _ _ _ _ := ⟨rfl, n.1⟩
        have e6 := n.2
        clear o g5 g9 f8 f9 h0 g8 f7 g0 d8 g1 g6
        have o : Cat.At _ g3 0 d q := ⟨Mem.of_get c5, hin1⟩
        obtain ⟨g5, g9, f8, f9, h0, g8, f7, g0, d8⟩ := o.get
        have g1 : MemN _ _ _ _ _ := ⟨rfl, o.1⟩
        have g6 := o.2
        clear l
        have l : MemN _ _ _ _ _ := ⟨rfl, Mem.of_get b0⟩
        clear u1 u2
        have u1 := d6.2 a (by omega)
        have u2 := d8.2 b (by omega)
        refine .mv rfl (.nil (y5 _ _ (.region (.mv rfl ?_))))
        refine .q rfl (.add rfl rfl rfl (by omega) (by omega)) ?_
        refine .mv rfl (.nil ?_)
        refine y8 ((g + 1, w2 ++ [h3], _, _)) _ _ ?_ ?_ ⟨rfl, rfl, rfl, rfl, rfl, rfl, rfl, rfl, rfl, rfl, rfl, trivial⟩
        ·
         refine ⟨h7, by first | assumption | (rw [w7]; assumption), by first | assumption | exact ⟨.inr (by omega)⟩ | exact ⟨.inl rfl⟩, by first | omega | (simp only [List.length_append, List.length_cons, List.length_nil] <;> omega) | (rw [w7] <;> (first | omega | (simp only [List.length_append, List.length_cons, List.length_nil] <;> omega))), ?_⟩
         exact ⟨⟨by omega, by simp; omega⟩, hWA.snoc (by omega) hrl z8, hW.snoc (by omega) (by omega)⟩
        (dsimp only; omega)
       simp only [sps] at y3
       obtain ⟨h3, w7, n3⟩ : ∃ h3 : Int, h3 = -1 ∧ -1 ≤ h3 ∧ h3 ≤ 33000 := ⟨_, rfl, by omega, by omega⟩
       have z8 : h3 = prC c d a b f g := by rw [w7]; exact (if_neg fun hh => by omega).symm
       refine .skip ?_
       refine y1 _ _ (.region (.mv rfl (.mv rfl ?_)))
       refine .R rfl (.litA rfl sl_24_A ze_2_N rfl rfl rfl rfl) ?_
       rintro _ H165x2 ⟨g165x2, rfl, c8, ge165x2, u3⟩
       have nx_H165x2 := c8.1
       replace u := u.trans c8
       replace d0 := d0.le c8
       replace d1 := d1.le c8
       replace rk := rk.le c8
       replace h8 := h8.le c8
       replace h7 := h7.le c8
       replace c3 := c8.2 _ _ c3
       replace c5 := c8.2 _ _ c5
       replace h6 := c8.2 _ _ h6
       replace v := c8.2 _ _ v
       replace w := c8.2 _ _ w
       replace d9 := c8.2 _ _ d9
       replace f6 := c8.2 _ _ f6
       replace d2 := c8.2 _ _ d2
       replace d4 := c8.2 _ _ d4
       replace a0 := c8.2 _ _ a0
       replace j7 := c8.2 _ _ j7
       have lt_at165x2 := GHeap.ltg u3
       replace hin := i.mono u
       replace hin1 := e.mono u
       clear n f3 f2 f0 f4 e7 e8 e9 f5 d6 f1 e6
       have n : Cat.At _ g2 0 c p := ⟨Mem.of_get c3, hin⟩
       obtain ⟨f3, f2, f0, f4, e7, e8, e9, f5, d6⟩ := n.get
       have f1 : MemN _ _ _ _ _ := ⟨rfl, n.1⟩
       have e6 := n.2
       clear o g5 g9 f8 f9 h0 g8 f7 g0 d8 g1 g6
       have o : Cat.At _ g3 0 d q := ⟨Mem.of_get c5, hin1⟩
       obtain ⟨g5, g9, f8, f9, h0, g8, f7, g0, d8⟩ := o.get
       have g1 : MemN _ _ _ _ _ := ⟨rfl, o.1⟩
       have g6 := o.2
       clear l
       have l : MemN _ _ _ _ _ := ⟨rfl, Mem.of_get b0⟩
       clear u1 u2
       have u1 := d6.2 a (by omega)
       have u2 := d8.2 b (by omega)
       refine .R rfl (.appendI rfl sl_24_A ze_2_N rfl by_2_N sl_24_A rfl rfl (by assumption) (by assumption) (by first | omega | (simp <;> omega)) (by omega) (by omega)) ?_
       rintro _ H166x2 ⟨g166x2, rfl, c9, ge166x2, x3⟩
       have nx_H166x2 := c9.nx
       replace u := u.st c9 (fun k hk => ⟨by omega, trivial⟩)
       replace d0 := d0.sQ c9
       replace d1 := d1.sQ c9
       replace rk := rk.sQ c9
       replace h8 := h8.sQ c9
       replace h7 := h7.sQ c9
       have i3 : NE g2 t := ⟨m.ne l3.ne (by omega)⟩
       replace c3 := c9.s c3 i3.ne
       have i5 : NE g3 t := ⟨m.ne l4.ne (by omega)⟩
       replace c5 := c9.s c5 i5.ne
       have i4 : NE g4 t := ⟨m.ne l1.ne (by omega)⟩
       replace h6 := c9.s h6 i4.ne
       have h4 : NE gLI t := ⟨m.ne k6.ne (by omega)⟩
       replace v := c9.s v h4.ne
       have e3 : NE l7 t := ⟨m.ne e4.ne (by omega)⟩
       replace w := c9.s w e3.ne
       have h5 : NE y9 t := ⟨m.ne k5.ne (by omega)⟩
       replace d9 := c9.s d9 h5.ne
       have h1 : NE x6 t := ⟨m.ne k8.ne (by omega)⟩
       replace f6 := c9.s f6 h1.ne
       have e0 : NE v7 t := ⟨m.ne j6.ne (by omega)⟩
       replace d2 := c9.s d2 e0.ne
       have e2 : NE t9 t := ⟨m.ne j5.ne (by omega)⟩
       replace d4 := c9.s d4 e2.ne
       have h9 : NE g7 t := ⟨m.ne i9.ne (by omega)⟩
       replace a0 := c9.s a0 h9.ne
       replace u3 := c9.s u3
       have lt_at166x2 := GHeap.ltg x3
       replace hin := i.mono u
       replace hin1 := e.mono u
       clear n f3 f2 f0 f4 e7 e8 e9 f5 d6 f1 e6
       have n : Cat.At _ g2 0 c p := ⟨Mem.of_get c3, hin⟩
       obtain ⟨f3, f2, f0, f4, e7, e8, e9, f5, d6⟩ := n.get
       have f1 : MemN _ _ _ _ _ := ⟨rfl, n.1⟩
       have e6 := n.2
       clear o g5 g9 f8 f9 h0 g8 f7 g0 d8 g1 g6
       have o : Cat.At _ g3 0 d q := ⟨Mem.of_get c5, hin1⟩
       obtain ⟨g5, g9, f8, f9, h0, g8, f7, g0, d8⟩ := o.get
       have g1 : MemN _ _ _ _ _ := ⟨rfl, o.1⟩
       have g6 := o.2
       clear l
       have l : MemN _ _ _ _ _ := ⟨rfl, Mem.of_get b0⟩
       clear u1 u2
       have u1 := d6.2 a (by omega)
       have u2 := d8.2 b (by omega)
       refine .mv rfl (.nil (y5 _ _ (.region (.mv rfl ?_))))
       refine .q rfl (.add rfl rfl rfl (by omega) (by omega)) ?_
       refine .mv rfl (.nil ?_)
       refine y8 ((g + 1, w2 ++ [h3], _, _)) _ _ ?_ ?_ ⟨rfl, rfl, rfl, rfl, rfl, rfl, rfl, rfl, rfl, rfl, rfl, trivial⟩
       ·
        refine ⟨h7, by first | assumption | (rw [w7]; assumption), by first | assumption | exact ⟨.inr (by omega)⟩ | exact ⟨.inl rfl⟩, by first | omega | (simp only [List.length_append, List.length_cons, List.length_nil] <;> omega) | (rw [w7] <;> (first | omega | (simp only [List.length_append, List.length_cons, List.length_nil] <;> omega))), ?_⟩
        exact ⟨⟨by omega, by simp; omega⟩, hWA.snoc (by omega) hrl z8, hW.snoc (by omega) (by omega)⟩
       (dsimp only; omega)
      simp only [sps] at y0
      obtain ⟨h3, w7, n3⟩ : ∃ h3 : Int, h3 = -1 ∧ -1 ≤ h3 ∧ h3 ≤ 33000 := ⟨_, rfl, by omega, by omega⟩
      have z8 : h3 = prC c d a b f g := by rw [w7]; exact (if_neg fun hh => by omega).symm
      refine .z rfl (.z rfl (.z rfl (.z rfl (.z rfl (.z rfl (.z rfl (.z rfl (.z rfl (.q rfl (.pickF rfl rfl) (.nil (z5 _ _ ?_)))))))))))
      refine .condF rfl ?_
      refine .skip ?_
      refine y1 _ _ (.region (.mv rfl (.mv rfl ?_)))
      refine .R rfl (.litA rfl sl_24_A ze_2_N rfl rfl rfl rfl) ?_
      rintro _ H165x3 ⟨g165x3, rfl, c7, ge165x3, u4⟩
      have nx_H165x3 := c7.1
      replace u := u.trans c7
      replace d0 := d0.le c7
      replace d1 := d1.le c7
      replace rk := rk.le c7
      replace h8 := h8.le c7
      replace h7 := h7.le c7
      replace c3 := c7.2 _ _ c3
      replace c5 := c7.2 _ _ c5
      replace h6 := c7.2 _ _ h6
      replace v := c7.2 _ _ v
      replace w := c7.2 _ _ w
      replace d9 := c7.2 _ _ d9
      replace f6 := c7.2 _ _ f6
      replace d2 := c7.2 _ _ d2
      replace d4 := c7.2 _ _ d4
      replace a0 := c7.2 _ _ a0
      replace j7 := c7.2 _ _ j7
      have lt_at165x3 := GHeap.ltg u4
      replace hin := i.mono u
      replace hin1 := e.mono u
      clear n f3 f2 f0 f4 e7 e8 e9 f5 d6 f1 e6
      have n : Cat.At _ g2 0 c p := ⟨Mem.of_get c3, hin⟩
      obtain ⟨f3, f2, f0, f4, e7, e8, e9, f5, d6⟩ := n.get
      have f1 : MemN _ _ _ _ _ := ⟨rfl, n.1⟩
      have e6 := n.2
      clear o g5 g9 f8 f9 h0 g8 f7 g0 d8 g1 g6
      have o : Cat.At _ g3 0 d q := ⟨Mem.of_get c5, hin1⟩
      obtain ⟨g5, g9, f8, f9, h0, g8, f7, g0, d8⟩ := o.get
      have g1 : MemN _ _ _ _ _ := ⟨rfl, o.1⟩
      have g6 := o.2
      clear l
      have l : MemN _ _ _ _ _ := ⟨rfl, Mem.of_get b0⟩
      clear u1 u2
      have u1 := d6.2 a (by omega)
      have u2 := d8.2 b (by omega)
      refine .R rfl (.appendI rfl sl_24_A ze_2_N rfl by_2_N sl_24_A rfl rfl (by assumption) (by assumption) (by first | omega | (simp <;> omega)) (by omega) (by omega)) ?_
      rintro _ H166x3 ⟨g166x3, rfl, c6, ge166x3, x4⟩
      have nx_H166x3 := c6.nx
      replace u := u.st c6 (fun k hk => ⟨by omega, trivial⟩)
      replace d0 := d0.sQ c6
      replace d1 := d1.sQ c6
      replace rk := rk.sQ c6
      replace h8 := h8.sQ c6
      replace h7 := h7.sQ c6
      have i3 : NE g2 t := ⟨m.ne l3.ne (by omega)⟩
      replace c3 := c6.s c3 i3.ne
      have i5 : NE g3 t := ⟨m.ne l4.ne (by omega)⟩
      replace c5 := c6.s c5 i5.ne
      have i4 : NE g4 t := ⟨m.ne l1.ne (by omega)⟩
      replace h6 := c6.s h6 i4.ne
      have h4 : NE gLI t := ⟨m.ne k6.ne (by omega)⟩
      replace v := c6.s v h4.ne
      have e3 : NE l7 t := ⟨m.ne e4.ne (by omega)⟩
      replace w := c6.s w e3.ne
      have h5 : NE y9 t := ⟨m.ne k5.ne (by omega)⟩
      replace d9 := c6.s d9 h5.ne
      have h1 : NE x6 t := ⟨m.ne k8.ne (by omega)⟩
      replace f6 := c6.s f6 h1.ne
      have e0 : NE v7 t := ⟨m.ne j6.ne (by omega)⟩
      replace d2 := c6.s d2 e0.ne
      have e2 : NE t9 t := ⟨m.ne j5.ne (by omega)⟩
      replace d4 := c6.s d4 e2.ne
      have h9 : NE g7 t := ⟨m.ne i9.ne (by omega)⟩
      replace a0 := c6.s a0 h9.ne
      replace u4 := c6.s u4
      have lt_at166x3 := GHeap.ltg x4
      replace hin := i.mono u
      replace hin1 := e.mono u
      clear n f3 f2 f0 f4 e7 e8 e9 f5 d6 f1 e6
      have n : Cat.At _ g2 0 c p := ⟨Mem.of_get c3, hin⟩
      obtain ⟨f3, f2, f0, f4, e7, e8, e9, f5, d6⟩ := n.get
      have f1 : MemN _ _ _ _ _ := ⟨rfl, n.1⟩
      have e6 := n.2
      clear o g5 g9 f8 f9 h0 g8 f7 g0 d8 g1 g6
      have o : Cat.At _ g3 0 d q := ⟨Mem.of_get c5, hin1⟩
      obtain ⟨g5, g9, f8, f9, h0, g8, f7, g0, d8⟩ := o.get
      have g1 : MemN _ _ _ _ _ := ⟨rfl, o.1⟩
      have g6 := o.2
      clear l
      have l : MemN _ _ _ _ _ := ⟨rfl, Mem.of_get b0⟩
      clear u1 u2
      have u1 := d6.2 a (by omega)
      have u2 := d8.2 b (by omega)
      refine .mv rfl (.nil (y5 _ _ (.region (.mv rfl ?_))))
      refine .q rfl (.add rfl rfl rfl (by omega) (by omega)) ?_
      refine .mv rfl (.nil ?_)
      refine y8 ((g + 1, w2 ++ [h3], _, _)) _ _ ?_ ?_ ⟨rfl, rfl, rfl, rfl, rfl, rfl, rfl, rfl, rfl, rfl, rfl, trivial⟩
      ·
       refine ⟨h7, by first | assumption | (rw [w7]; assumption), by first | assumption | exact ⟨.inr (by omega)⟩ | exact ⟨.inl rfl⟩, by first | omega | (simp only [List.length_append, List.length_cons, List.length_nil] <;> omega) | (rw [w7] <;> (first | omega | (simp only [List.length_append, List.length_cons, List.length_nil] <;> omega))), ?_⟩
       exact ⟨⟨by omega, by simp; omega⟩, hWA.snoc (by omega) hrl z8, hW.snoc (by omega) (by omega)⟩
      (dsimp only; omega)
     try simp only [sps] at x9
     refine .exit ?_
     refine aW _ _ (.region (.mv rfl ?_))
     refine .q rfl (.add rfl rfl rfl (by omega) (by omega)) ?_
     refine .mv rfl (.nil ?_)
     refine aQ ((f + 1, w2, _, _)) _ _ ?_ ?_ ⟨rfl, rfl, rfl, rfl, rfl, rfl, rfl, rfl, rfl, rfl, trivial⟩
     ·
      refine ⟨h8, by assumption, by first | assumption | exact m.trans d5 (by omega) | exact ⟨.inr (by omega)⟩ | exact ⟨.inl rfl⟩, by first | omega | (simp only [List.length_append, List.length_cons, List.length_nil] <;> omega), ?_⟩
      have e1 := sm f d.src.length
      exact ⟨⟨by omega, by omega⟩, hWA, hW⟩
     (dsimp only; omega)
    try simp only [sps] at y7
    refine .exit ?_
    refine bF _ _ (.region ?_)
    obtain rfl : f = c.src.length := by omega
    obtain rfl := y2
    refine .q rfl (.fieldAddr fo_27_4_B rfl) ?_
    refine .q rfl (.load on_25_B rfl (by first | assumption | exact Mem.of_get a0 4 _ rfl)) ?_
    refine .mv rfl ?_
    refine .R rfl (.litA rfl sl_25_B ze_24_Hj rfl rfl rfl rfl) ?_
    rintro _ H170 ⟨g170, rfl, j4, ge170, u9⟩
    have nx_H170 := j4.1
    replace u := u.trans j4
    replace d0 := d0.le j4
    replace d1 := d1.le j4
    replace rk := rk.le j4
    replace c3 := j4.2 _ _ c3
    replace c5 := j4.2 _ _ c5
    replace h6 := j4.2 _ _ h6
    replace v := j4.2 _ _ v
    replace w := j4.2 _ _ w
    replace d9 := j4.2 _ _ d9
    replace f6 := j4.2 _ _ f6
    replace d2 := j4.2 _ _ d2
    replace d4 := j4.2 _ _ d4
    replace a0 := j4.2 _ _ a0
    replace l2 := j4.2 _ _ l2
    have lt_at170 := GHeap.ltg u9
    replace hin := i.mono u
    replace hin1 := e.mono u
    clear n f3 f2 f0 f4 e7 e8 e9 f5 d6 f1 e6
    have n : Cat.At _ g2 0 c p := ⟨Mem.of_get c3, hin⟩
    obtain ⟨f3, f2, f0, f4, e7, e8, e9, f5, d6⟩ := n.get
    have f1 : MemN _ _ _ _ _ := ⟨rfl, n.1⟩
    have e6 := n.2
    clear o g5 g9 f8 f9 h0 g8 f7 g0 d8 g1 g6
    have o : Cat.At _ g3 0 d q := ⟨Mem.of_get c5, hin1⟩
    obtain ⟨g5, g9, f8, f9, h0, g8, f7, g0, d8⟩ := o.get
    have g1 : MemN _ _ _ _ _ := ⟨rfl, o.1⟩
    have g6 := o.2
    clear l
    have l : MemN _ _ _ _ _ := ⟨rfl, Mem.of_get b0⟩
    refine .R rfl (.appendV rfl sl_25_B ze_24_Hj rfl by_24_Hj sl_25_B rfl rfl (by assumption) (by assumption) (by first | omega | (simp <;> omega)) rfl rfl (by omega) (by omega)) ?_
    rintro _ H171 ⟨bM, rfl, j3, ge171, w5⟩
    have nx_H171 := j3.nx
    replace u := u.st j3 (fun k hk => ⟨by omega, trivial⟩)
    replace d0 := d0.sQ j3
    replace d1 := d1.sQ j3
    replace rk := rk.sQ j3
    replace c3 := j3.same _ _ ⟨(p4.ne t7.ne (by omega)), trivial⟩ c3
    replace c5 := j3.same _ _ ⟨(p4.ne s7.ne (by omega)), trivial⟩ c5
    replace h6 := j3.same _ _ ⟨(p4.ne m8.ne (by omega)), trivial⟩ h6
    replace v := j3.same _ _ ⟨(p4.ne r5.ne (by omega)), trivial⟩ v
    replace d9 := j3.s d9
    replace f6 := j3.s f6
    replace d2 := j3.s d2
    replace d4 := j3.s d4
    replace a0 := j3.same _ _ ⟨(Ne.symm w6), trivial⟩ a0
    have e4 : NE l7 i8 := ⟨d5.ne l0.ne (by omega)⟩
    replace l2 := j3.s l2 (Ne.symm e4.ne)
    replace u9 := j3.s u9
    have lt_at171 := GHeap.ltg w5
    replace hin := i.mono u
    replace hin1 := e.mono u
    clear n f3 f2 f0 f4 e7 e8 e9 f5 d6 f1 e6
    have n : Cat.At _ g2 0 c p := ⟨Mem.of_get c3, hin⟩
    obtain ⟨f3, f2, f0, f4, e7, e8, e9, f5, d6⟩ := n.get
    have f1 : MemN _ _ _ _ _ := ⟨rfl, n.1⟩
    have e6 := n.2
    clear o g5 g9 f8 f9 h0 g8 f7 g0 d8 g1 g6
    have o : Cat.At _ g3 0 d q := ⟨Mem.of_get c5, hin1⟩
    obtain ⟨g5, g9, f8, f9, h0, g8, f7, g0, d8⟩ := o.get
    have g1 : MemN _ _ _ _ _ := ⟨rfl, o.1⟩
    have g6 := o.2
    clear l
    have l : MemN _ _ _ _ _ := ⟨rfl, Mem.of_get b0⟩
    refine .q rfl (.fieldAddr fo_27_4_B rfl) ?_
    refine .r0 rfl rfl (.storeR rfl sz_25_Ch rfl rfl rfl (by assumption) (by first | exact Nat.le_of_ble_eq_true rfl | (simp; done) | (simp <;> omega))) ?_
    rintro _ H29006 ⟨rfl, d3, v6⟩
    have nx_H29006 := d3.nx
    replace u := u.st d3 (fun k hk => ⟨by omega, trivial⟩)
    replace d0 := d0.sA d3
    replace d1 := d1.sA d3
    replace rk := rk.sA d3
    replace c3 := d3.s c3 i0.ne
    replace c5 := d3.s c5 i1.ne
    replace h6 := d3.s h6 h2.ne
    replace v := d3.same _ _ ⟨u8, trivial⟩ v
    replace d9 := d3.s d9 o6.ne
    replace f6 := d3.s f6 p0.ne
    replace d2 := d3.s d2 r4.ne
    replace d4 := d3.s d4 q8.ne
    have i9 : NE g7 i8 := ⟨d5.ne n6.ne (by omega)⟩
    replace l2 := d3.s l2 (Ne.symm i9.ne)
    replace u9 := d3.s u9
    replace w5 := d3.s w5
    have lt_at29006 := GHeap.ltg v6
    replace hin := i.mono u
    replace hin1 := e.mono u
    clear n f3 f2 f0 f4 e7 e8 e9 f5 d6 f1 e6
    have n : Cat.At _ g2 0 c p := ⟨Mem.of_get c3, hin⟩
    obtain ⟨f3, f2, f0, f4, e7, e8, e9, f5, d6⟩ := n.get
    have f1 : MemN _ _ _ _ _ := ⟨rfl, n.1⟩
    have e6 := n.2
    clear o g5 g9 f8 f9 h0 g8 f7 g0 d8 g1 g6
    have o : Cat.At _ g3 0 d q := ⟨Mem.of_get c5, hin1⟩
    obtain ⟨g5, g9, f8, f9, h0, g8, f7, g0, d8⟩ := o.get
    have g1 : MemN _ _ _ _ _ := ⟨rfl, o.1⟩
    have g6 := o.2
    clear l
    have l : MemN _ _ _ _ _ := ⟨rfl, Mem.of_get b0⟩
    try simp only [Nat.zero_add, List.set_cons_succ, List.set_cons_zero] at v6
    refine .nil (aR _ _ (.region (.mv rfl ?_)))
    refine .q rfl (.add rfl rfl rfl (by omega) (by omega)) ?_
    refine .mv rfl (.nil ?_)
    refine aT ((b + 1, s2 ++ [c.src.getD a 0 * d.obj + d.src.getD b 0], t2 ++ [c.tgt.getD a 0 * d.obj + d.tgt.getD b 0], upd r2 c2.length (some ⟨i8, 0, none⟩), c2 ++ [row], x6, t9, bM)) _ _ ?_ ?_ ⟨rfl, rfl, rfl, rfl, rfl, rfl, rfl, rfl, trivial⟩
    ·
     refine ⟨d1, by first | assumption | (rw [slsL_snoc]; assumption) | (rw [List.length_append]; assumption), by first | assumption | exact ⟨.inr (by omega)⟩ | exact ⟨.inl rfl⟩, by first | assumption | (rw [slsL_snoc]; assumption) | (rw [List.length_append]; assumption), by first | assumption | exact ⟨.inr (by omega)⟩ | exact ⟨.inl rfl⟩, by first | assumption | (rw [slsL_snoc]; assumption) | (rw [List.length_append]; assumption), by first | assumption | exact ⟨.inr (by omega)⟩ | exact ⟨.inl rfl⟩, by first | assumption | (rw [slsL_snoc]; assumption) | (rw [List.length_append]; assumption), by first | assumption | omega, by first | assumption | omega, by first | assumption | omega, by first | assumption | omega, by first | assumption | omega, by first | assumption | omega, ?_⟩
     have hR' := hR.st rk (.cons aB (.cons aA (.cons (hR.neT hatC rfl) (.cons (hR.neT aH rfl) (.nil _ _)))))
     have cH := hR.ne (g := i8) (d5.ge (by omega) (by omega))
     have cM := hR.ne (g := x6) (by omega)
     have cA := hR.ne (g := t9) (by omega)
     have hx1 : i8 ≠ x6 := d5.ne' (by omega) (by omega)
     have hx2 : i8 ≠ t9 := d5.ne' (by omega) (by omega)
     have hx3 : i8 ≠ gLI := d5.ne' (by omega) (by omega)
     exact ⟨⟨by omega, by simp; omega, by simp; omega, by simp; omega⟩, hS.snoc (by omega) (by omega), hT.snoc (by omega) (by omega), hC.snoc (by omega) hW, ⟨bV.snoc (by omega) (by omega) rfl, bS.snoc (by omega) (by omega) rfl, bU.snoc (by omega) (by omega) hWA⟩, hR'.snoc2 (by assumption) cH (by omega), ne_snoc cM (by omega), ne_snoc cA (by omega), ne_snoc z9 (by omega)⟩
    (dsimp only; omega)
   try simp only [sps] at aU
   refine .exit ?_
   refine aM _ _ (.region (.mv rfl ?_))
   refine .q rfl (.add rfl rfl rfl (by omega) (by omega)) ?_
   refine .mv rfl (.nil ?_)
   refine bD ((a + 1, s2, t2, r2, c2, p6, o9, l7)) _ _ ?_ ?_ ⟨rfl, rfl, rfl, rfl, rfl, rfl, rfl, trivial⟩
   ·
    refine ⟨d0, by assumption, by first | assumption | exact p8.trans n7 (by omega) | exact ⟨.inr (by omega)⟩ | exact ⟨.inl rfl⟩, by assumption, by first | assumption | exact o5.trans n8 (by omega) | exact ⟨.inr (by omega)⟩ | exact ⟨.inl rfl⟩, by assumption, by first | assumption | exact p4.trans q4 (by omega) | exact ⟨.inr (by omega)⟩ | exact ⟨.inl rfl⟩, by assumption, by first | assumption | omega, by first | assumption | omega, by first | assumption | omega, by first | assumption | omega, by first | assumption | omega, by first | assumption | omega, ?_⟩
    have e1 := sm a d.src.length
    exact ⟨⟨by omega, by omega, by omega, by omega⟩, hS, hT, hC, ⟨bV, bS, bU⟩, hR, aB, aA, z9⟩
   (dsimp only; omega)
  try simp only [sps] at aX
  refine .exit ?_
  refine bK _ _ (.seq (fun K37 bR => .region ?_))
  refine .q rfl (.loadM ag_27_Hj rfl ⟨rfl, Mem.of_get c4⟩) ?_
  refine .r0 rfl rfl (.fillA rfl sz_27_D rfl rfl rfl rfl) ?_
  rintro _ H30001 ⟨rfl, j0, u0⟩
  have nx_H30001 := j0.nx
  replace u := u.st j0 (fun k hk => ⟨by omega, trivial⟩)
  replace c3 := j0.s c3
  replace c5 := j0.s c5
  have m5 : NE g4 gLI := ⟨j8.ne o4.ne (by omega)⟩
  replace v := j0.s v (Ne.symm m5.ne)
  have m7 : NE g4 gLF := ⟨n7.ne o3.ne (by omega)⟩
  replace s6 := j0.s s6 (Ne.symm m7.ne)
  have m6 : NE g4 gLT := ⟨n8.ne p7.ne (by omega)⟩
  replace s5 := j0.s s5 (Ne.symm m6.ne)
  have m8 : NE g4 gLC := ⟨q4.ne p3.ne (by omega)⟩
  replace t3 := j0.s t3 (Ne.symm m8.ne)
  replace c4 := j0.s c4 (Ne.symm h2.ne)
  have lt_at30001 := GHeap.ltg u0
  replace hin := i.mono u
  replace hin1 := e.mono u
  clear n f3 f2 f0 f4 e7 e8 e9 f5 d6 f1 e6
  have n : Cat.At _ g2 0 c p := ⟨Mem.of_get c3, hin⟩
  obtain ⟨f3, f2, f0, f4, e7, e8, e9, f5, d6⟩ := n.get
  have f1 : MemN _ _ _ _ _ := ⟨rfl, n.1⟩
  have e6 := n.2
  clear o g5 g9 f8 f9 h0 g8 f7 g0 d8 g1 g6
  have o : Cat.At _ g3 0 d q := ⟨Mem.of_get c5, hin1⟩
  obtain ⟨g5, g9, f8, f9, h0, g8, f7, g0, d8⟩ := o.get
  have g1 : MemN _ _ _ _ _ := ⟨rfl, o.1⟩
  have g6 := o.2
  clear l
  have l : MemN _ _ _ _ _ := ⟨rfl, Mem.of_get b0⟩
  have mm30001 : MemN _ _ _ _ _ := ⟨rfl, Mem.of_get u0⟩
  refine .nil (bR _ _ ?_)
  refine .ret ?_
  refine aJ _ _ ?_
  refine ⟨_, _, _, _, rfl, ag_27_Hj, (by rfl), (Mem.of_get u0), ?_⟩
  obtain rfl : a = c.src.length := by omega
  have m9 := mulN_bd a2 b2
  have hx4 : gLF ≠ gLI := n7.ne' (j8.ne' (by omega) (by omega)) (by omega)
  have hx5 : gLT ≠ gLI := n8.ne' (j8.ne' (by omega) (by omega)) (by omega)
  have bB := h6
  have hR' := hR.st j0 (.cons (hR.neT bB rfl) (.nil _ _))
  have hil : (is.length : Int) = c.obj * d.obj := by rw [hl]; congr 1; omega
  exact ⟨⟨c.obj * d.obj, ss, ts, is, cs⟩, ⟨⟨rect_mk (by omega) (by omega) hts (hS.mono (by omega) (by omega)) (hT.mono (by omega) (by omega)) hil (hB.mono (by omega) (by omega)) (by omega) (by rw [aZ]; exact hC.mono (by omega) (by omega)), pr_shp gc.s gd.s a1.1 b1.1 aZ hts hil (by omega) (fun f hf => by rw [(hC f hf).1, aZ]) aD.1 aD.2.1 hAI aD.2.2⟩, rfl⟩, u, gLF, gLT, gLI, gLC, rr, by simp [Cat.cells, ownP, hts, hcl], ⟨s6, s5, v, t3, by omega, by omega, by omega, by omega, by omega, by omega, by omega, hR', aB, aA, z9⟩⟩
end Go.Proofs.Ytfanjkbaemhbmaa
namespace Go.Proofs.Ytfanjkbaemhbmaa
open Go Go.GL Go.RowKit Go.Proofs
set_option maxHeartbeats 8000000 in
theorem l02SomeG_c {gS : Nat} {m n : Int} {H : GHeap} (hs : DSrc 86 H gS := by assumption) :
    GCalls Try.prog 70 [.pointer (some ⟨gS, 0, none⟩), .int .i64 m, .int .i64 n] H (DrawnG 86 33000 gS H) := by
  have hlS := hs.lt
  refine GCalls.body (N := 48) (rs := [.cell 6 27]) Try.func70 rfl rfl rfl rfl (fun Qx f7 hend => ?_)
  refine .fg [0, 1, 2] rfl ?_
  have u := St.refl [gS] H
  refine .seq (fun K1 k3 => .region ?_)
  refine .R rfl (.allocR rfl ze_27_Hj rfl) ?_
  rintro _ H6 ⟨g6, rfl, j0, ge6, b0⟩
  have nx_H6 := j0.1
  replace u := u.le j0
  have lt_at6 := GHeap.ltg b0
  refine .nil (k3 _ _ (.seq (fun K2 l5 => .seq (fun K3 k8 => .region ?_))))
  have hs := hs.le j0
  refine .mv rfl (.nil (k8 _ _ ?_))
  refine .block ?_
  refine .loopR (σ := Nat) [(0, some _), (1, some _), (2, some _), (6, some _)] (fun i => [(7, some (.int .i64 (i : Int)))]) (fun i H' => St [gS] H6 H' ∧ i ≤ 12 ∧ DSrc 86 H' gS) (fun i => 12 - i) (0) ⟨rfl, rfl, rfl, rfl, trivial⟩ ⟨rfl, trivial⟩ ?_ ?_
  ·
   refine ⟨.refl _ _, ?_⟩
   exact ⟨by omega, hs⟩
  rintro i HL1 ⟨f, hI⟩ KL1 c5
  refine .forget (fr' := [(7, some (.int .i64 (i : Int))), (0, some _), (1, some _), (2, some _), (6, some _)]) ⟨rfl, rfl, rfl, rfl, rfl, trivial⟩ ?_
  have nx_HL1 := f.nx
  replace u := u.sA f
  have a0 : NE g6 gS := .a
  replace b0 := f.s b0 a0.ne
  obtain ⟨hi, hs⟩ := hI
  refine .seq (fun K4 k9 => .seq (fun K5 l3 => .region (.mv rfl (.q rfl (.cmp rfl rfl rfl) (.nil (l3 _ _ ?_))))))
  refine .cond rfl (fun i9 => ?_) (fun i9 => ?_)
  ·
   simp only [sps] at i9
   refine .skip ?_
   refine k9 _ _ (.seq (fun K6 f5 => ?_))
   refine .block ?_
   refine .seq (fun K7 k6 => .region (.mv rfl ?_))
   refine .call rfl rfl rfl rfl @Try.call102 rfl (l02FamilyG_c) ?_
   rintro _ j8 ⟨h7, p14, rfl, b6, a6, g2, hs⟩
   have nx_H14 := g2.nx
   replace u := u.sA g2
   replace f := f.sA g2
   replace b0 := g2.s b0 a0.ne
   have t := a6
   have b : Keep HL1.next j8 j8 := fun _ _ _ h => h
   have a7 := a6.inn
   refine .R rfl (.allocR rfl ze_27_Hj rfl) ?_
   rintro _ H8 ⟨g8, rfl, h5, ge8, l2⟩
   have nx_H8 := h5.1
   replace u := u.le h5
   replace f := f.le h5
   replace hs := hs.le h5
   replace b0 := h5.2 _ _ b0
   replace b := Keep.le b h5
   replace a6 := t.keep b (Nat.le_refl _)
   have lt_at8 := GHeap.ltg l2
   clear a7
   have a7 := a6.inn
   refine .r0 rfl rfl (.fillA rfl sz_27_D rfl rfl rfl rfl) ?_
   rintro _ H4003 ⟨rfl, c3, d⟩
   have nx_H4003 := c3.nx
   replace u := u.sA c3
   replace f := f.sA c3
   replace hs := hs.sA c3
   have a2 : NE g6 g8 := .a
   replace b0 := c3.s b0 a2.ne
   replace b := Keep.st b c3 (fun k hb hk => ⟨(by omega), trivial⟩)
   replace a6 := t.keep b (Nat.le_refl _)
   have lt_at4003 := GHeap.ltg d
   clear a7
   have a7 := a6.inn
   have e : MemN _ _ _ _ _ := ⟨rfl, Mem.of_get d⟩
   refine .nil (k6 _ _ (.seq (fun K8 k1 => .seq (fun K9 l7 => .region (.mv rfl ?_)))))
   refine .call rfl rfl rfl rfl @Try.call30 rfl (l01Next_c) ?_
   rintro _ j2 ⟨k16, rfl, ka16, kb16, kc16, f1, hs⟩
   have nx_H16 := f1.nx
   replace u := u.sA f1
   replace f := f.sA f1
   replace b0 := f1.s b0 a0.ne
   have a9 : NE g8 gS := .a
   replace d := f1.s d a9.ne
   replace b := Keep.st b f1 (fun k hb hk => ⟨(by omega), trivial⟩)
   replace a6 := t.keep b (Nat.le_refl _)
   clear a7
   have a7 := a6.inn
   clear e
   have e : MemN _ _ _ _ _ := ⟨rfl, Mem.of_get d⟩
   refine .q rfl (.cmp rfl rfl rfl) (.nil (l7 _ _ ?_))
   refine .cond rfl (fun j6 => ?_) (fun j6 => ?_)
   ·
    try simp only [sps] at j6
    refine .regionDB mo_B (.q 0 (.q 1 (.c 2 1 (.c 3 0 (.c 4 0 (.done)))))) (by kernel_rfl) (GHeap.le_erase j2 gS) ?_
    have d6 := GHeap.le_erase j2 gS
    have h3 := GHeap.get_erase_of (g := gS) d (by omega)
    refine .qB rfl d6 (.loadM ag_27_Hj rfl ⟨rfl, Mem.of_get h3⟩) ?_
    refine .qB rfl d6 (.move rfl) ?_
    refine .call1 rfl rfl rfl rfl rfl @Try.call102 rfl (l02FamilyG_c) ?_
    rintro _ j5 ⟨c20, p20, rfl, e0, d3, e4, hs⟩
    replace d6 := d6.erase_st e4
    refine ⟨d6, ?_⟩
    have nx_H20 := e4.nx
    replace u := u.sA e4
    replace f := f.sA e4
    replace b0 := e4.s b0 a0.ne
    replace d := e4.s d a9.ne
    replace b := Keep.st b e4 (fun k hb hk => ⟨(by omega), trivial⟩)
    replace a6 := t.keep b (Nat.le_refl _)
    clear a7
    have a7 := a6.inn
    clear e
    have e : MemN _ _ _ _ _ := ⟨rfl, Mem.of_get d⟩
    have b4 := d3
    have j : Keep j2.next j5 j5 := fun _ _ _ h => h
    have e1 := d3.inn
    refine .call0 rfl rfl rfl rfl rfl @Try.call103 rfl (l03Sum_c (hin := a7) (hin1 := e1) (hc := b6.r) (hd := e0.r) (hN := by omega)) ?_
    rintro _ k2 ⟨d9, ga21, gb21, gc21, gd21, rr21, rfl, k5⟩
    have c8 := k5.catR
    have nx_H21 := d9.1
    replace u := u.le d9
    replace f := f.le d9
    replace hs := hs.le d9
    replace b0 := d9.2 _ _ b0
    replace d := d9.2 _ _ d
    replace b := Keep.le b d9
    replace a6 := t.keep b (Nat.le_refl _)
    replace j := Keep.le j d9
    replace d3 := b4.keep j (Nat.le_refl _)
    have b9 := c8
    have o : Keep j5.next k2 k2 := fun _ _ _ h => h
    clear a7
    have a7 := a6.inn
    clear e
    have e : MemN _ _ _ _ _ := ⟨rfl, Mem.of_get d⟩
    clear e1
    have e1 := d3.inn
    have c9 := c8.inn
    refine .r0 rfl rfl rfl (.fillA rfl sz_27_D rfl rfl rfl rfl) ?_
    rintro _ H6004 ⟨rfl, b3, l⟩
    have nx_H6004 := b3.nx
    replace u := u.sA b3
    replace f := f.sA b3
    replace hs := hs.sA b3
    replace b0 := b3.s b0 a2.ne
    replace b := Keep.st b b3 (fun k hb hk => ⟨(by omega), trivial⟩)
    replace a6 := t.keep b (Nat.le_refl _)
    replace j := Keep.st j b3 (fun k hb hk => ⟨(by omega), trivial⟩)
    replace d3 := b4.keep j (Nat.le_refl _)
    replace o := Keep.st o b3 (fun k hb hk => ⟨(by omega), trivial⟩)
    replace c8 := b9.keep o (Nat.le_refl _)
    have lt_at6004 := GHeap.ltg l
    clear a7
    have a7 := a6.inn
    clear e
    have e : MemN _ _ _ _ _ := ⟨rfl, Mem.of_get d⟩
    clear e1
    have e1 := d3.inn
    clear c9
    have c9 := c8.inn
    have a3 : MemN _ _ _ _ _ := ⟨rfl, Mem.of_get l⟩
    refine .done ?_
    refine k1 _ _ (.seq (fun K10 h9 => .seq (fun K11 j4 => .region (.mv rfl ?_))))
    refine .call rfl rfl rfl rfl @Try.call30 rfl (l01Next_c) ?_
    rintro _ i2 ⟨k23, rfl, ka23, kb23, kc23, d7, hs⟩
    have nx_H23 := d7.nx
    replace u := u.sA d7
    replace f := f.sA d7
    replace b0 := d7.s b0 a0.ne
    replace l := d7.s l a9.ne
    replace b := Keep.st b d7 (fun k hb hk => ⟨(by omega), trivial⟩)
    replace a6 := t.keep b (Nat.le_refl _)
    replace j := Keep.st j d7 (fun k hb hk => ⟨(by omega), trivial⟩)
    replace d3 := b4.keep j (Nat.le_refl _)
    replace o := Keep.st o d7 (fun k hb hk => ⟨(by omega), trivial⟩)
    replace c8 := b9.keep o (Nat.le_refl _)
    clear a7
    have a7 := a6.inn
    clear e
    have e : MemN _ _ _ _ _ := ⟨rfl, Mem.of_get d⟩
    clear e1
    have e1 := d3.inn
    clear c9
    have c9 := c8.inn
    clear a3
    have a3 : MemN _ _ _ _ _ := ⟨rfl, Mem.of_get l⟩
    refine .q rfl (.cmp rfl rfl rfl) (.nil (j4 _ _ ?_))
    refine .cond rfl (fun h4 => ?_) (fun h4 => ?_)
    ·
     try simp only [sps] at h4
     refine .regionDB mo_B (.q 0 (.q 1 (.c 2 1 (.c 3 0 (.c 4 0 (.done)))))) (by kernel_rfl) (GHeap.le_erase i2 gS) ?_
     have d6 := GHeap.le_erase i2 gS
     first
     | have h3 := GHeap.get_erase_of (g := gS) l (by omega)
     | have h3 := GHeap.get_erase_of (g := gS) d (by omega)
     refine .qB rfl d6 (.loadM ag_27_Hj rfl ⟨rfl, Mem.of_get h3⟩) ?_
     refine .qB rfl d6 (.move rfl) ?_
     refine .call1 rfl rfl rfl rfl rfl @Try.call102 rfl (l02FamilyG_c) ?_
     rintro _ i8 ⟨l1, k7, rfl, g7, d8, d0, hs⟩
     replace d6 := d6.erase_st d0
     refine ⟨d6, ?_⟩
     have nx_H27 := d0.nx
     replace u := u.sA d0
     replace f := f.sA d0
     replace b0 := d0.s b0 a0.ne
     replace l := d0.s l a9.ne
     replace b := Keep.st b d0 (fun k hb hk => ⟨(by omega), trivial⟩)
     replace a6 := t.keep b (Nat.le_refl _)
     replace j := Keep.st j d0 (fun k hb hk => ⟨(by omega), trivial⟩)
     replace d3 := b4.keep j (Nat.le_refl _)
     replace o := Keep.st o d0 (fun k hb hk => ⟨(by omega), trivial⟩)
     replace c8 := b9.keep o (Nat.le_refl _)
     clear a7
     have a7 := a6.inn
     clear e
     have e : MemN _ _ _ _ _ := ⟨rfl, Mem.of_get d⟩
     clear e1
     have e1 := d3.inn
     clear c9
     have c9 := c8.inn
     clear a3
     have a3 : MemN _ _ _ _ _ := ⟨rfl, Mem.of_get l⟩
     have b7 := d8
     have p : Keep i2.next i8 i8 := fun _ _ _ h => h
     have e7 := d8.inn
     refine .call0 rfl rfl rfl rfl rfl @Try.call104 rfl (l03ProductG_c (hin := by first | exact c9 | exact a7) (hin1 := e7) (gc := by first | exact (b6.sum e0).mono (by omega) | exact b6.mono (by omega)) (gd := g7)) ?_
     rintro _ k0 ⟨h6, ⟨f4, i3⟩, c7, ga28, gb28, gc28, gd28, rr28, rfl, l4⟩
     have d4 := l4.catR
     have nx_H28 := c7.1
     replace u := u.le c7
     replace f := f.le c7
     replace hs := hs.le c7
     replace b0 := c7.2 _ _ b0
     replace l := c7.2 _ _ l
     replace b := Keep.le b c7
     replace a6 := t.keep b (Nat.le_refl _)
     replace j := Keep.le j c7
     replace d3 := b4.keep j (Nat.le_refl _)
     replace o := Keep.le o c7
     replace c8 := b9.keep o (Nat.le_refl _)
     replace p := Keep.le p c7
     replace d8 := b7.keep p (Nat.le_refl _)
     have c6 := d4
     have x : Keep i8.next k0 k0 := fun _ _ _ h => h
     clear a7
     have a7 := a6.inn
     clear e
     have e : MemN _ _ _ _ _ := ⟨rfl, Mem.of_get d⟩
     clear e1
     have e1 := d3.inn
     clear c9
     have c9 := c8.inn
     clear a3
     have a3 : MemN _ _ _ _ _ := ⟨rfl, Mem.of_get l⟩
     clear e7
     have e7 := d8.inn
     have f0 := d4.inn
     refine .r0 rfl rfl rfl (.fillA rfl sz_27_D rfl rfl rfl rfl) ?_
     rintro _ H8004 ⟨rfl, a5, b1⟩
     have nx_H8004 := a5.nx
     replace u := u.sA a5
     replace f := f.sA a5
     replace hs := hs.sA a5
     replace b0 := a5.s b0 a2.ne
     replace b := Keep.st b a5 (fun k hb hk => ⟨(by omega), trivial⟩)
     replace a6 := t.keep b (Nat.le_refl _)
     replace j := Keep.st j a5 (fun k hb hk => ⟨(by omega), trivial⟩)
     replace d3 := b4.keep j (Nat.le_refl _)
     replace o := Keep.st o a5 (fun k hb hk => ⟨(by omega), trivial⟩)
     replace c8 := b9.keep o (Nat.le_refl _)
     replace p := Keep.st p a5 (fun k hb hk => ⟨(by omega), trivial⟩)
     replace d8 := b7.keep p (Nat.le_refl _)
     replace x := Keep.st x a5 (fun k hb hk => ⟨(by omega), trivial⟩)
     replace d4 := c6.keep x (Nat.le_refl _)
     have lt_at8004 := GHeap.ltg b1
     clear a7
     have a7 := a6.inn
     clear e
     have e : MemN _ _ _ _ _ := ⟨rfl, Mem.of_get d⟩
     clear e1
     have e1 := d3.inn
     clear c9
     have c9 := c8.inn
     clear a3
     have a3 : MemN _ _ _ _ _ := ⟨rfl, Mem.of_get l⟩
     clear e7
     have e7 := d8.inn
     clear f0
     have f0 := d4.inn
     have f8 : MemN _ _ _ _ _ := ⟨rfl, Mem.of_get b1⟩
     refine .done ?_
     refine h9 _ _ (.seq (fun K12 g9 => .region (.q rfl (.fieldAddr fo_27_0_B rfl) ?_)))
     refine .q rfl (.load on_2_A rfl (by first | assumption | exact Mem.of_get b1 0 _ rfl)) ?_
     refine .mv rfl (.q rfl (.cmp rfl rfl rfl) (.mv rfl ?_))
     refine .split (fun e8 => ?_) (fun e8 => ?_)
     ·
      try simp only [sps] at e8
      refine .qg rfl (.fieldAddr fo_27_1_B rfl) ?_
      refine .qg rfl (.load on_24_B rfl (by first | assumption | exact Mem.of_get b1 1 _ rfl)) ?_
      refine .qg rfl (.len sl_24_A rfl) (.qg rfl (.move rfl) (.qg rfl (.cmp rfl rfl rfl) (.q rfl (.pickT rfl rfl) (.mv rfl ?_))))
      refine .split (fun e3 => ?_) (fun e3 => ?_)
      ·
       try simp only [sps] at e3
       refine .qg rfl (.loadM ag_27_Hj rfl ⟨rfl, Mem.of_get b1⟩) ?_
       refine .callQg rfl rfl rfl rfl rfl rfl @Try.call105 rfl (l02Fits_c (hin := by first | exact f0 | exact c9 | exact a7)) ?_
       refine .q rfl (.pickT rfl rfl) (.nil (g9 _ _ ?_))
       refine .cond rfl (fun e5 => ?_) (fun e5 => ?_)
       ·
        try simp only [sps] at e5
        refine .seq (fun K13 j3 => .region ?_)
        refine .q rfl (.loadM ag_27_Hj rfl ⟨rfl, Mem.of_get b1⟩) ?_
        refine .r0 rfl rfl (.fillA rfl sz_27_D rfl rfl rfl rfl) ?_
        rintro _ H10001 ⟨rfl, a4, d2⟩
        have nx_H10001 := a4.nx
        replace u := u.sA a4
        replace hs := hs.sA a4
        replace b1 := a4.s b1 (Ne.symm a2.ne)
        replace b := Keep.st b a4 (fun k hb hk => ⟨(by omega), trivial⟩)
        replace a6 := t.keep b (Nat.le_refl _)
        replace j := Keep.st j a4 (fun k hb hk => ⟨(by omega), trivial⟩)
        replace d3 := b4.keep j (Nat.le_refl _)
        replace o := Keep.st o a4 (fun k hb hk => ⟨(by omega), trivial⟩)
        replace c8 := b9.keep o (Nat.le_refl _)
        replace p := Keep.st p a4 (fun k hb hk => ⟨(by omega), trivial⟩)
        replace d8 := b7.keep p (Nat.le_refl _)
        replace x := Keep.st x a4 (fun k hb hk => ⟨(by omega), trivial⟩)
        replace d4 := c6.keep x (Nat.le_refl _)
        have lt_at10001 := GHeap.ltg d2
        clear a7
        have a7 := a6.inn
        clear e
        have e : MemN _ _ _ _ _ := ⟨rfl, Mem.of_get d⟩
        clear e1
        have e1 := d3.inn
        clear c9
        have c9 := c8.inn
        clear a3
        have a3 : MemN _ _ _ _ _ := ⟨rfl, Mem.of_get l⟩
        clear e7
        have e7 := d8.inn
        clear f0
        have f0 := d4.inn
        clear f8
        have f8 : MemN _ _ _ _ _ := ⟨rfl, Mem.of_get b1⟩
        have mm10001 : MemN _ _ _ _ _ := ⟨rfl, Mem.of_get d2⟩
        refine .nil (j3 _ _ ?_)
        refine .ret ?_
        refine f7 _ _ ?_
        refine ⟨_, _, _, _, rfl, ag_27_Hj, (by rfl), (Mem.of_get d2), ?_⟩
        first
        | exact ⟨h6, _, rfl, f4, d4.keep (.of_le (.refl _)) (by omega), u, hs⟩
        | exact ⟨_, _, rfl, (b6.sum e0).mono (by omega), c8.keep (.of_le (.refl _)) (by omega), u, hs⟩
        | exact ⟨h7, _, rfl, b6.mono (by omega), a6.keep (.of_le (.refl _)) (by omega), u, hs⟩
        | exact ⟨i1, _, rfl, g1.mono (by decide), g3.keep (.of_le (.refl _)) (by omega), u, hs⟩
       try simp only [sps] at e5
       refine .skip ?_
       refine f5 _ _ (.region (.mv rfl ?_))
       refine .q rfl (.add rfl rfl rfl (by omega) (by omega)) ?_
       refine .mv rfl (.nil ?_)
       refine c5 (i + 1) _ _ ?_ ?_ ⟨rfl, rfl, rfl, rfl, rfl, trivial⟩
       ·
        refine ⟨f, ?_⟩
        exact ⟨by omega, hs⟩
       omega
      try simp only [sps] at e3
      refine .z rfl (.z rfl (.q rfl (.pickF rfl rfl) (.nil (g9 _ _ ?_))))
      refine .condF rfl ?_
      refine .skip ?_
      refine f5 _ _ (.region (.mv rfl ?_))
      refine .q rfl (.add rfl rfl rfl (by omega) (by omega)) ?_
      refine .mv rfl (.nil ?_)
      refine c5 (i + 1) _ _ ?_ ?_ ⟨rfl, rfl, rfl, rfl, rfl, trivial⟩
      ·
       refine ⟨f, ?_⟩
       exact ⟨by omega, hs⟩
      omega
     try simp only [sps] at e8
     refine .z rfl (.z rfl (.z rfl (.z rfl (.z rfl (.q rfl (.pickF rfl rfl) (.mv rfl (.z rfl (.z rfl (.q rfl (.pickF rfl rfl) (.nil (g9 _ _ ?_)))))))))))
     refine .condF rfl ?_
     refine .skip ?_
     refine f5 _ _ (.region (.mv rfl ?_))
     refine .q rfl (.add rfl rfl rfl (by omega) (by omega)) ?_
     refine .mv rfl (.nil ?_)
     refine c5 (i + 1) _ _ ?_ ?_ ⟨rfl, rfl, rfl, rfl, rfl, trivial⟩
     ·
      refine ⟨f, ?_⟩
      exact ⟨by omega, hs⟩
     omega
    try simp only [sps] at h4
    refine .skip ?_
    refine h9 _ _ (.seq (fun K14 h1 => .region (.q rfl (.fieldAddr fo_27_0_B rfl) ?_)))
    refine .q rfl (.load on_2_A rfl (by first | assumption | exact Mem.of_get l 0 _ rfl)) ?_
    refine .mv rfl (.q rfl (.cmp rfl rfl rfl) (.mv rfl ?_))
    refine .split (fun e8 => ?_) (fun e8 => ?_)
    ·
     try simp only [sps] at e8
     refine .qg rfl (.fieldAddr fo_27_1_B rfl) ?_
     refine .qg rfl (.load on_24_B rfl (by first | assumption | exact Mem.of_get l 1 _ rfl)) ?_
     refine .qg rfl (.len sl_24_A rfl) (.qg rfl (.move rfl) (.qg rfl (.cmp rfl rfl rfl) (.q rfl (.pickT rfl rfl) (.mv rfl ?_))))
     refine .split (fun e3 => ?_) (fun e3 => ?_)
     ·
      try simp only [sps] at e3
      refine .qg rfl (.loadM ag_27_Hj rfl ⟨rfl, Mem.of_get l⟩) ?_
      refine .callQg rfl rfl rfl rfl rfl rfl @Try.call105 rfl (l02Fits_c (hin := by first | exact f0 | exact c9 | exact a7)) ?_
      refine .q rfl (.pickT rfl rfl) (.nil (h1 _ _ ?_))
      refine .cond rfl (fun e5 => ?_) (fun e5 => ?_)
      ·
       try simp only [sps] at e5
       refine .seq (fun K15 i7 => .region ?_)
       refine .q rfl (.loadM ag_27_Hj rfl ⟨rfl, Mem.of_get l⟩) ?_
       refine .r0 rfl rfl (.fillA rfl sz_27_D rfl rfl rfl rfl) ?_
       rintro _ H10001x2 ⟨rfl, w, c1⟩
       have nx_H10001x2 := w.nx
       replace u := u.sA w
       replace hs := hs.sA w
       replace l := w.s l (Ne.symm a2.ne)
       replace b := Keep.st b w (fun k hb hk => ⟨(by omega), trivial⟩)
       replace a6 := t.keep b (Nat.le_refl _)
       replace j := Keep.st j w (fun k hb hk => ⟨(by omega), trivial⟩)
       replace d3 := b4.keep j (Nat.le_refl _)
       replace o := Keep.st o w (fun k hb hk => ⟨(by omega), trivial⟩)
       replace c8 := b9.keep o (Nat.le_refl _)
       have lt_at10001x2 := GHeap.ltg c1
       clear a7
       have a7 := a6.inn
       clear e
       have e : MemN _ _ _ _ _ := ⟨rfl, Mem.of_get d⟩
       clear e1
       have e1 := d3.inn
       clear c9
       have c9 := c8.inn
       clear a3
       have a3 : MemN _ _ _ _ _ := ⟨rfl, Mem.of_get l⟩
       have mm10001x2 : MemN _ _ _ _ _ := ⟨rfl, Mem.of_get c1⟩
       refine .nil (i7 _ _ ?_)
       refine .ret ?_
       refine f7 _ _ ?_
       refine ⟨_, _, _, _, rfl, ag_27_Hj, (by rfl), (Mem.of_get c1), ?_⟩
       first
       | exact ⟨h6, _, rfl, f4, d4.keep (.of_le (.refl _)) (by omega), u, hs⟩
       | exact ⟨_, _, rfl, (b6.sum e0).mono (by omega), c8.keep (.of_le (.refl _)) (by omega), u, hs⟩
       | exact ⟨h7, _, rfl, b6.mono (by omega), a6.keep (.of_le (.refl _)) (by omega), u, hs⟩
       | exact ⟨i1, _, rfl, g1.mono (by decide), g3.keep (.of_le (.refl _)) (by omega), u, hs⟩
      try simp only [sps] at e5
      refine .skip ?_
      refine f5 _ _ (.region (.mv rfl ?_))
      refine .q rfl (.add rfl rfl rfl (by omega) (by omega)) ?_
      refine .mv rfl (.nil ?_)
      refine c5 (i + 1) _ _ ?_ ?_ ⟨rfl, rfl, rfl, rfl, rfl, trivial⟩
      ·
       refine ⟨f, ?_⟩
       exact ⟨by omega, hs⟩
      omega
     try simp only [sps] at e3
     refine .z rfl (.z rfl (.q rfl (.pickF rfl rfl) (.nil (h1 _ _ ?_))))
     refine .condF rfl ?_
     refine .skip ?_
     refine f5 _ _ (.region (.mv rfl ?_))
     refine .q rfl (.add rfl rfl rfl (by omega) (by omega)) ?_
     refine .mv rfl (.nil ?_)
     refine c5 (i + 1) _ _ ?_ ?_ ⟨rfl, rfl, rfl, rfl, rfl, trivial⟩
     ·
      refine ⟨f, ?_⟩
      exact ⟨by omega, hs⟩
     omega
    try simp only [sps] at e8
    refine .z rfl (.z rfl (.z rfl (.z rfl (.z rfl (.q rfl (.pickF rfl rfl) (.mv rfl (.z rfl (.z rfl (.q rfl (.pickF rfl rfl) (.nil (h1 _ _ ?_)))))))))))
    refine .condF rfl ?_
    refine .skip ?_
    refine f5 _ _ (.region (.mv rfl ?_))
    refine .q rfl (.add rfl rfl rfl (by omega) (by omega)) ?_
    refine .mv rfl (.nil ?_)
    refine c5 (i + 1) _ _ ?_ ?_ ⟨rfl, rfl, rfl, rfl, rfl, trivial⟩
    ·
     refine ⟨f, ?_⟩
     exact ⟨by omega, hs⟩
    omega
   try simp only [sps] at j6
   refine .skip ?_
   refine k1 _ _ (.seq (fun K16 i0 => .seq (fun K17 i6 => .region (.mv rfl ?_))))
   refine .call rfl rfl rfl rfl @Try.call30 rfl (l01Next_c) ?_
   rintro _ g0 ⟨k23x2, rfl, ka23x2, kb23x2, kc23x2, c0, hs⟩
   have nx_H23x2 := c0.nx
   replace u := u.sA c0
   replace f := f.sA c0
   replace b0 := c0.s b0 a0.ne
   replace d := c0.s d a9.ne
   replace b := Keep.st b c0 (fun k hb hk => ⟨(by omega), trivial⟩)
   replace a6 := t.keep b (Nat.le_refl _)
   clear a7
   have a7 := a6.inn
   clear e
   have e : MemN _ _ _ _ _ := ⟨rfl, Mem.of_get d⟩
   refine .q rfl (.cmp rfl rfl rfl) (.nil (i6 _ _ ?_))
   refine .cond rfl (fun h4 => ?_) (fun h4 => ?_)
   ·
    try simp only [sps] at h4
    refine .regionDB mo_B (.q 0 (.q 1 (.c 2 1 (.c 3 0 (.c 4 0 (.done)))))) (by kernel_rfl) (GHeap.le_erase g0 gS) ?_
    have d6 := GHeap.le_erase g0 gS
    first
    | have h3 := GHeap.get_erase_of (g := gS) l (by omega)
    | have h3 := GHeap.get_erase_of (g := gS) d (by omega)
    refine .qB rfl d6 (.loadM ag_27_Hj rfl ⟨rfl, Mem.of_get h3⟩) ?_
    refine .qB rfl d6 (.move rfl) ?_
    refine .call1 rfl rfl rfl rfl rfl @Try.call102 rfl (l02FamilyG_c) ?_
    rintro _ f9 ⟨l1, k7, rfl, g7, d8, b8, hs⟩
    replace d6 := d6.erase_st b8
    refine ⟨d6, ?_⟩
    have nx_H27x2 := b8.nx
    replace u := u.sA b8
    replace f := f.sA b8
    replace b0 := b8.s b0 a0.ne
    replace d := b8.s d a9.ne
    replace b := Keep.st b b8 (fun k hb hk => ⟨(by omega), trivial⟩)
    replace a6 := t.keep b (Nat.le_refl _)
    clear a7
    have a7 := a6.inn
    clear e
    have e : MemN _ _ _ _ _ := ⟨rfl, Mem.of_get d⟩
    have b7 := d8
    have p : Keep g0.next f9 f9 := fun _ _ _ h => h
    have e7 := d8.inn
    refine .call0 rfl rfl rfl rfl rfl @Try.call104 rfl (l03ProductG_c (hin := by first | exact c9 | exact a7) (hin1 := e7) (gc := by first | exact (b6.sum e0).mono (by omega) | exact b6.mono (by omega)) (gd := g7)) ?_
    rintro _ g4 ⟨h6, ⟨f4, i3⟩, b2, ga28x2, gb28x2, gc28x2, gd28x2, rr28x2, rfl, h8⟩
    have d4 := h8.catR
    have nx_H28x2 := b2.1
    replace u := u.le b2
    replace f := f.le b2
    replace hs := hs.le b2
    replace b0 := b2.2 _ _ b0
    replace d := b2.2 _ _ d
    replace b := Keep.le b b2
    replace a6 := t.keep b (Nat.le_refl _)
    replace p := Keep.le p b2
    replace d8 := b7.keep p (Nat.le_refl _)
    have c6 := d4
    have x : Keep f9.next g4 g4 := fun _ _ _ h => h
    clear a7
    have a7 := a6.inn
    clear e
    have e : MemN _ _ _ _ _ := ⟨rfl, Mem.of_get d⟩
    clear e7
    have e7 := d8.inn
    have f0 := d4.inn
    refine .r0 rfl rfl rfl (.fillA rfl sz_27_D rfl rfl rfl rfl) ?_
    rintro _ H8004x2 ⟨rfl, a1, v⟩
    have nx_H8004x2 := a1.nx
    replace u := u.sA a1
    replace f := f.sA a1
    replace hs := hs.sA a1
    replace b0 := a1.s b0 a2.ne
    replace b := Keep.st b a1 (fun k hb hk => ⟨(by omega), trivial⟩)
    replace a6 := t.keep b (Nat.le_refl _)
    replace p := Keep.st p a1 (fun k hb hk => ⟨(by omega), trivial⟩)
    replace d8 := b7.keep p (Nat.le_refl _)
    replace x := Keep.st x a1 (fun k hb hk => ⟨(by omega), trivial⟩)
    replace d4 := c6.keep x (Nat.le_refl _)
    have lt_at8004x2 := GHeap.ltg v
    clear a7
    have a7 := a6.inn
    clear e
    have e : MemN _ _ _ _ _ := ⟨rfl, Mem.of_get d⟩
    clear e7
    have e7 := d8.inn
    clear f0
    have f0 := d4.inn
    have e2 : MemN _ _ _ _ _ := ⟨rfl, Mem.of_get v⟩
    refine .done ?_
    refine i0 _ _ (.seq (fun K18 h2 => .region (.q rfl (.fieldAddr fo_27_0_B rfl) ?_)))
    refine .q rfl (.load on_2_A rfl (by first | assumption | exact Mem.of_get v 0 _ rfl)) ?_
    refine .mv rfl (.q rfl (.cmp rfl rfl rfl) (.mv rfl ?_))
    refine .split (fun e8 => ?_) (fun e8 => ?_)
    ·
     try simp only [sps] at e8
     refine .qg rfl (.fieldAddr fo_27_1_B rfl) ?_
     refine .qg rfl (.load on_24_B rfl (by first | assumption | exact Mem.of_get v 1 _ rfl)) ?_
     refine .qg rfl (.len sl_24_A rfl) (.qg rfl (.move rfl) (.qg rfl (.cmp rfl rfl rfl) (.q rfl (.pickT rfl rfl) (.mv rfl ?_))))
     refine .split (fun e3 => ?_) (fun e3 => ?_)
     ·
      try simp only [sps] at e3
      refine .qg rfl (.loadM ag_27_Hj rfl ⟨rfl, Mem.of_get v⟩) ?_
      refine .callQg rfl rfl rfl rfl rfl rfl @Try.call105 rfl (l02Fits_c (hin := by first | exact f0 | exact c9 | exact a7)) ?_
      refine .q rfl (.pickT rfl rfl) (.nil (h2 _ _ ?_))
      refine .cond rfl (fun e5 => ?_) (fun e5 => ?_)
      ·
       try simp only [sps] at e5
       refine .seq (fun K19 i4 => .region ?_)
       refine .q rfl (.loadM ag_27_Hj rfl ⟨rfl, Mem.of_get v⟩) ?_
       refine .r0 rfl rfl (.fillA rfl sz_27_D rfl rfl rfl rfl) ?_
       rintro _ H10001x3 ⟨rfl, y, c2⟩
       have nx_H10001x3 := y.nx
       replace u := u.sA y
       replace hs := hs.sA y
       replace v := y.s v (Ne.symm a2.ne)
       replace b := Keep.st b y (fun k hb hk => ⟨(by omega), trivial⟩)
       replace a6 := t.keep b (Nat.le_refl _)
       replace p := Keep.st p y (fun k hb hk => ⟨(by omega), trivial⟩)
       replace d8 := b7.keep p (Nat.le_refl _)
       replace x := Keep.st x y (fun k hb hk => ⟨(by omega), trivial⟩)
       replace d4 := c6.keep x (Nat.le_refl _)
       have lt_at10001x3 := GHeap.ltg c2
       clear a7
       have a7 := a6.inn
       clear e
       have e : MemN _ _ _ _ _ := ⟨rfl, Mem.of_get d⟩
       clear e7
       have e7 := d8.inn
       clear f0
       have f0 := d4.inn
       clear e2
       have e2 : MemN _ _ _ _ _ := ⟨rfl, Mem.of_get v⟩
       have mm10001x3 : MemN _ _ _ _ _ := ⟨rfl, Mem.of_get c2⟩
       refine .nil (i4 _ _ ?_)
       refine .ret ?_
       refine f7 _ _ ?_
       refine ⟨_, _, _, _, rfl, ag_27_Hj, (by rfl), (Mem.of_get c2), ?_⟩
       first
       | exact ⟨h6, _, rfl, f4, d4.keep (.of_le (.refl _)) (by omega), u, hs⟩
       | exact ⟨_, _, rfl, (b6.sum e0).mono (by omega), c8.keep (.of_le (.refl _)) (by omega), u, hs⟩
       | exact ⟨h7, _, rfl, b6.mono (by omega), a6.keep (.of_le (.refl _)) (by omega), u, hs⟩
       | exact ⟨i1, _, rfl, g1.mono (by decide), g3.keep (.of_le (.refl _)) (by omega), u, hs⟩
      try simp only [sps] at e5
      refine .skip ?_
      refine f5 _ _ (.region (.mv rfl ?_))
      refine .q rfl (.add rfl rfl rfl (by omega) (by omega)) ?_
      refine .mv rfl (.nil ?_)
      refine c5 (i + 1) _ _ ?_ ?_ ⟨rfl, rfl, rfl, rfl, rfl, trivial⟩
      ·
       refine ⟨f, ?_⟩
       exact ⟨by omega, hs⟩
      omega
     try simp only [sps] at e3
     refine .z rfl (.z rfl (.q rfl (.pickF rfl rfl) (.nil (h2 _ _ ?_))))
     refine .condF rfl ?_
     refine .skip ?_
     refine f5 _ _ (.region (.mv rfl ?_))
     refine .q rfl (.add rfl rfl rfl (by omega) (by omega)) ?_
     refine .mv rfl (.nil ?_)
     refine c5 (i + 1) _ _ ?_ ?_ ⟨rfl, rfl, rfl, rfl, rfl, trivial⟩
     ·
      refine ⟨f, ?_⟩
      exact ⟨by omega, hs⟩
     omega
    try simp only [sps] at e8
    refine .z rfl (.z rfl (.z rfl (.z rfl (.z rfl (.q rfl (.pickF rfl rfl) (.mv rfl (.z rfl (.z rfl (.q rfl (.pickF rfl rfl) (.nil (h2 _ _ ?_)))))))))))
    refine .condF rfl ?_
    refine .skip ?_
    refine f5 _ _ (.region (.mv rfl ?_))
    refine .q rfl (.add rfl rfl rfl (by omega) (by omega)) ?_
    refine .mv rfl (.nil ?_)
    refine c5 (i + 1) _ _ ?_ ?_ ⟨rfl, rfl, rfl, rfl, rfl, trivial⟩
    ·
     refine ⟨f, ?_⟩
     exact ⟨by omega, hs⟩
    omega
   try simp only [sps] at h4
   refine .skip ?_
   refine i0 _ _ (.seq (fun K20 h0 => .region (.q rfl (.fieldAddr fo_27_0_B rfl) ?_)))
   refine .q rfl (.load on_2_A rfl (by first | assumption | exact Mem.of_get d 0 _ rfl)) ?_
   refine .mv rfl (.q rfl (.cmp rfl rfl rfl) (.mv rfl ?_))
   refine .split (fun e8 => ?_) (fun e8 => ?_)
   ·
    try simp only [sps] at e8
    refine .qg rfl (.fieldAddr fo_27_1_B rfl) ?_
    refine .qg rfl (.load on_24_B rfl (by first | assumption | exact Mem.of_get d 1 _ rfl)) ?_
    refine .qg rfl (.len sl_24_A rfl) (.qg rfl (.move rfl) (.qg rfl (.cmp rfl rfl rfl) (.q rfl (.pickT rfl rfl) (.mv rfl ?_))))
    refine .split (fun e3 => ?_) (fun e3 => ?_)
    ·
     try simp only [sps] at e3
     refine .qg rfl (.loadM ag_27_Hj rfl ⟨rfl, Mem.of_get d⟩) ?_
     refine .callQg rfl rfl rfl rfl rfl rfl @Try.call105 rfl (l02Fits_c (hin := by first | exact f0 | exact c9 | exact a7)) ?_
     refine .q rfl (.pickT rfl rfl) (.nil (h0 _ _ ?_))
     refine .cond rfl (fun e5 => ?_) (fun e5 => ?_)
     ·
      try simp only [sps] at e5
      refine .seq (fun K21 j1 => .region ?_)
      refine .q rfl (.loadM ag_27_Hj rfl ⟨rfl, Mem.of_get d⟩) ?_
      refine .r0 rfl rfl (.fillA rfl sz_27_D rfl rfl rfl rfl) ?_
      rintro _ H10001x4 ⟨rfl, a8, c4⟩
      have nx_H10001x4 := a8.nx
      replace u := u.sA a8
      replace hs := hs.sA a8
      replace d := a8.s d (Ne.symm a2.ne)
      replace b := Keep.st b a8 (fun k hb hk => ⟨(by omega), trivial⟩)
      replace a6 := t.keep b (Nat.le_refl _)
      have lt_at10001x4 := GHeap.ltg c4
      clear a7
      have a7 := a6.inn
      clear e
      have e : MemN _ _ _ _ _ := ⟨rfl, Mem.of_get d⟩
      have mm10001x4 : MemN _ _ _ _ _ := ⟨rfl, Mem.of_get c4⟩
      refine .nil (j1 _ _ ?_)
      refine .ret ?_
      refine f7 _ _ ?_
      refine ⟨_, _, _, _, rfl, ag_27_Hj, (by rfl), (Mem.of_get c4), ?_⟩
      first
      | exact ⟨h6, _, rfl, f4, d4.keep (.of_le (.refl _)) (by omega), u, hs⟩
      | exact ⟨_, _, rfl, (b6.sum e0).mono (by omega), c8.keep (.of_le (.refl _)) (by omega), u, hs⟩
      | exact ⟨h7, _, rfl, b6.mono (by omega), a6.keep (.of_le (.refl _)) (by omega), u, hs⟩
      | exact ⟨i1, _, rfl, g1.mono (by decide), g3.keep (.of_le (.refl _)) (by omega), u, hs⟩
     try simp only [sps] at e5
     refine .skip ?_
     refine f5 _ _ (.region (.mv rfl ?_))
     refine .q rfl (.add rfl rfl rfl (by omega) (by omega)) ?_
     refine .mv rfl (.nil ?_)
     refine c5 (i + 1) _ _ ?_ ?_ ⟨rfl, rfl, rfl, rfl, rfl, trivial⟩
     ·
      refine ⟨f, ?_⟩
      exact ⟨by omega, hs⟩
     omega
    try simp only [sps] at e3
    refine .z rfl (.z rfl (.q rfl (.pickF rfl rfl) (.nil (h0 _ _ ?_))))
    refine .condF rfl ?_
    refine .skip ?_
    refine f5 _ _ (.region (.mv rfl ?_))
    refine .q rfl (.add rfl rfl rfl (by omega) (by omega)) ?_
    refine .mv rfl (.nil ?_)
    refine c5 (i + 1) _ _ ?_ ?_ ⟨rfl, rfl, rfl, rfl, rfl, trivial⟩
    ·
     refine ⟨f, ?_⟩
     exact ⟨by omega, hs⟩
    omega
   try simp only [sps] at e8
   refine .z rfl (.z rfl (.z rfl (.z rfl (.z rfl (.q rfl (.pickF rfl rfl) (.mv rfl (.z rfl (.z rfl (.q rfl (.pickF rfl rfl) (.nil (h0 _ _ ?_)))))))))))
   refine .condF rfl ?_
   refine .skip ?_
   refine f5 _ _ (.region (.mv rfl ?_))
   refine .q rfl (.add rfl rfl rfl (by omega) (by omega)) ?_
   refine .mv rfl (.nil ?_)
   refine c5 (i + 1) _ _ ?_ ?_ ⟨rfl, rfl, rfl, rfl, rfl, trivial⟩
   ·
    refine ⟨f, ?_⟩
    exact ⟨by omega, hs⟩
   omega
  try simp only [sps] at i9
  refine .exit ?_
  refine l5 _ _ (.seq (fun K22 i5 => .region ?_))
  refine .R rfl (.litA rfl sl_24_A ze_2_N rfl rfl rfl rfl) ?_
  rintro _ H45 ⟨k4, rfl, f6, ge45, d5⟩
  have nx_H45 := f6.1
  replace u := u.le f6
  replace f := f.le f6
  replace hs := hs.le f6
  replace b0 := f6.2 _ _ b0
  have lt_at45 := GHeap.ltg d5
  refine .R rfl (.litA rfl sl_25_B ze_24_Hj rfl rfl rfl rfl) ?_
  rintro _ l6 ⟨g46, rfl, f3, ge46, f2⟩
  have nx_H46 := f3.1
  replace u := u.le f3
  replace f := f.le f3
  replace hs := hs.le f3
  replace b0 := f3.2 _ _ b0
  replace d5 := f3.2 _ _ d5
  have lt_at46 := GHeap.ltg f2
  refine .call rfl rfl rfl rfl @Try.call31 rfl ((by have hh := l03PosetG_c (rel := [[1]]) (hin := ((lit_own (gs := [k4]) (by simp only [LitAt]; exact ⟨⟨Nat.zero_le _, d5⟩, trivial⟩) (by simp <;> omega)).done (by exact f2) (Nat.zero_le _)).intss) (hn := by decide) (hr := by decide) (hRT := .dec (by decide) (by decide)); exact hh)) ?_
  rintro _ j7 ⟨i1, ⟨g1, oc47⟩, e9, ga47, gb47, gc47, gd47, rr47, rfl, l0⟩
  have g3 := l0.catR
  have nx_H47 := e9.1
  replace u := u.le e9
  replace f := f.le e9
  replace hs := hs.le e9
  replace b0 := e9.2 _ _ b0
  replace d5 := e9.2 _ _ d5
  replace f2 := e9.2 _ _ f2
  have g5 := g3
  have e6 : Keep l6.next j7 j7 := fun _ _ _ h => h
  have j9 := g3.inn
  refine .r0 rfl rfl (.fillA rfl sz_27_D rfl rfl rfl rfl) ?_
  rintro _ H11003 ⟨rfl, b5, d1⟩
  have nx_H11003 := b5.nx
  replace u := u.sA b5
  replace hs := hs.sA b5
  replace d5 := b5.s d5
  replace f2 := b5.s f2
  replace e6 := Keep.st e6 b5 (fun k hb hk => ⟨(by omega), trivial⟩)
  replace g3 := g5.keep e6 (Nat.le_refl _)
  have lt_at11003 := GHeap.ltg d1
  clear j9
  have j9 := g3.inn
  have mm11003 : MemN _ _ _ _ _ := ⟨rfl, Mem.of_get d1⟩
  refine .nil (i5 _ _ ?_)
  refine .ret ?_
  refine f7 _ _ ?_
  refine ⟨_, _, _, _, rfl, ag_27_Hj, (by rfl), (Mem.of_get d1), ?_⟩
  first
  | exact ⟨h6, _, rfl, f4, d4.keep (.of_le (.refl _)) (by omega), u, hs⟩
  | exact ⟨_, _, rfl, (b6.sum e0).mono (by omega), c8.keep (.of_le (.refl _)) (by omega), u, hs⟩
  | exact ⟨h7, _, rfl, b6.mono (by omega), a6.keep (.of_le (.refl _)) (by omega), u, hs⟩
  | exact ⟨i1, _, rfl, g1.mono (by decide), g3.keep (.of_le (.refl _)) (by omega), u, hs⟩
end Go.Proofs.Ytfanjkbaemhbmaa
namespace Go.Proofs.Ytfanjkbaemhbmaa
open Go Go.GL Go.RowKit Go.Proofs
end Go.Proofs.Ytfanjkbaemhbmaa
namespace Go.Proofs.Ytfanjkbaemhbmaa
open Go Go.GL Go.RowKit Go.Proofs
end Go.Proofs.Ytfanjkbaemhbmaa
namespace Go.Proofs.Ytfanjkbaemhbmaa
open Go Go.GL Go.RowKit Go.Proofs
end Go.Proofs.Ytfanjkbaemhbmaa
namespace Go.Proofs.Ytfanjkbaemhbmaa
open Go Go.GL Go.RowKit Go.Proofs
end Go.Proofs.Ytfanjkbaemhbmaa
namespace Go.Proofs.Ytfanjkbaemhbmaa
open Go Go.GL Go.RowKit Go.Proofs
end Go.Proofs.Ytfanjkbaemhbmaa
namespace Go.Proofs.Ytfanjkbaemhbmaa
open Go Go.GL Go.RowKit Go.Proofs
end Go.Proofs.Ytfanjkbaemhbmaa
namespace Go.Proofs.Ytfanjkbaemhbmaa
open Go Go.GL Go.RowKit Go.Proofs
end Go.Proofs.Ytfanjkbaemhbmaa
namespace Go.Proofs.Ytfanjkbaemhbmaa
open Go Go.GL Go.RowKit Go.Proofs
end Go.Proofs.Ytfanjkbaemhbmaa
namespace Go.Proofs.Ytfanjkbaemhbmaa
open Go Go.GL Go.RowKit Go.Proofs
end Go.Proofs.Ytfanjkbaemhbmaa
namespace Go.Proofs.Ytfanjkbaemhbmaa
open Go Go.GL Go.RowKit Go.Proofs
set_option maxHeartbeats 8000000 in
theorem l02Bend_c {gS : Nat} {c : Cat} {p : CatP} {H : GHeap} (hs : DSrc 86 H gS := by assumption) (hin : c.In H p := by assumption) (hr : c.Rect 33000) :
    GCalls Try.prog 71 [.pointer (some ⟨gS, 0, none⟩), .agg (c.cells p).toArray] H (DrawnK 86 gS H) := by
  have hlS := hs.lt
  obtain ⟨a1, a2, a3, -, -, a6, -, a8, a9, -⟩ := id hr
  have hsm := hr.small (by omega)
  obtain ⟨n1, n2, n3, n4, n5, n6⟩ := id hsm
  refine GCalls.body (N := 92) (rs := [.cell 4 27]) Try.func71 rfl rfl rfl rfl (fun Qx e7 hend => ?_)
  refine .fg [0, 1] rfl ?_
  have o := St.refl [gS] H
  refine .seq (fun K1 p7 => .region ?_)
  refine .R rfl (.boxR rfl sz_27_D rfl) ?_
  rintro _ H3 ⟨g3, rfl, p0, ge3, k4⟩
  replace o := o.le p0
  have lt_at3 := GHeap.ltg k4
  refine .R rfl (.allocR rfl ze_27_Hj rfl) ?_
  rintro _ H4 ⟨g4, rfl, k6, ge4, c9⟩
  replace o := o.le k6
  replace k4 := k6.2 _ _ k4
  have lt_at4 := GHeap.ltg c9
  refine .nil (p7 _ _ (.seq (fun K2 q7 => .region ?_)))
  have hs := (hs.le p0).le k6
  have p2 := (hin.mono p0).mono k6
  refine .q rfl (.loadM ag_27_Hj rfl ⟨rfl, Mem.of_get k4⟩) ?_
  refine .call rfl rfl rfl rfl @Try.call83 rfl (l02OwnO_c (hin := p2) (hs := hsm)) ?_
  rintro _ H8 ⟨k7, gF, gT, gI, gC, rr, rfl, v8⟩
  have aF := v8.a1
  have aT := v8.a2
  have aI := v8.a3
  have aC := v8.a4
  have bF := v8.b1
  have bT := v8.b2
  have bI := v8.b3
  have bC := v8.b4
  have n12 := v8.n12
  have n13 := v8.n13
  have n23 := v8.n23
  have nC1 := row_ne aC aF rfl
  have nC2 := row_ne aC aT rfl
  have nC3 := row_ne aC aI rfl
  have hRR := v8.rows
  have b8 := St.refl [g3, gS, gF, gT, gI, gC] H8
  replace o := o.le k7
  replace hs := hs.le k7
  replace k4 := k7.2 _ _ k4
  replace c9 := k7.2 _ _ c9
  have lt_aF := GHeap.ltg aF
  refine .r0 rfl rfl (.fillA rfl sz_27_D rfl rfl rfl rfl) ?_
  rintro _ k5 ⟨rfl, d7, b⟩
  have nx_H1002 := d7.nx
  replace o := o.sA d7
  replace hs := hs.sA d7
  replace b8 := b8.sA d7
  have f5 : NE g4 g3 := .a
  replace c9 := d7.s c9 f5.ne
  have f4 : NE gF g3 := .a
  replace aF := d7.s aF f4.ne
  have e9 : NE gT g3 := .a
  replace aT := d7.s aT e9.ne
  have e8 : NE gI g3 := .a
  replace aI := d7.s aI e8.ne
  have f0 : NE gC g3 := .a
  replace aC := d7.s aC f0.ne
  have lt_at1002 := GHeap.ltg b
  replace b : GHeap.get k5 g3 = some (.row [.int .i64 c.obj, .slice (some ⟨gF, 0, none⟩) c.src.length c.src.length, .slice (some ⟨gT, 0, none⟩) c.tgt.length c.tgt.length, .slice (some ⟨gI, 0, none⟩) c.idn.length c.idn.length, .slice (some ⟨gC, 0, none⟩) c.comp.length c.comp.length] 27 true) := b
  refine .nil (q7 _ _ (.seq (fun K3 q2 => .region ?_)))
  have offA : Off rr c.comp.length [g3, gS, gF, gT, gI, gC] := .cons (hRR.lowNe (by omega)) (.cons (hRR.lowNe (by omega)) (.cons v8.r1 (.cons v8.r2 (.cons v8.r3 (.cons (hRR.neT v8.a4 rfl) (.nil _ _))))))
  refine .q rfl (.fieldAddr fo_27_1_B rfl) ?_
  refine .q rfl (.load on_24_B rfl (by first | assumption | exact Mem.of_get b 1 _ rfl)) ?_
  refine .q rfl (.len sl_24_A rfl) (.mv rfl (.nil (q2 _ _ (.seq (fun K4 q3 => .region (.mv rfl (.mv rfl ?_)))))))
  refine .call rfl rfl rfl rfl @Try.call30 rfl (l01Next_c) ?_
  rintro _ H14 ⟨f2, rfl, ka14, kb14, kc14, g5, hs⟩
  have nx_H14 := g5.nx
  replace o := o.sA g5
  replace b8 := b8.sA g5
  have t : NE g4 gS := .a
  replace c9 := g5.s c9 t.ne
  have u : NE gF gS := .a
  replace aF := g5.s aF u.ne
  have z : NE gT gS := .a
  replace aT := g5.s aT z.ne
  have y : NE gI gS := .a
  replace aI := g5.s aI y.ne
  have v : NE gC gS := .a
  replace aC := g5.s aC v.ne
  have w : NE g3 gS := .a
  replace b := g5.s b w.ne
  refine .mv rfl (.nil (q3 _ _ (.seq (fun K5 i2 => .seq (fun K6 p8 => .region (.mv rfl ?_))))))
  refine .call rfl rfl rfl rfl @Try.call30 rfl (l01Next_c) ?_
  rintro _ j8 ⟨k16, rfl, ka16, kb16, kc16, g2, hs⟩
  have nx_H16 := g2.nx
  replace o := o.sA g2
  replace b8 := b8.sA g2
  replace c9 := g2.s c9 t.ne
  replace aF := g2.s aF u.ne
  replace aT := g2.s aT z.ne
  replace aI := g2.s aI y.ne
  replace aC := g2.s aC v.ne
  replace b := g2.s b w.ne
  refine .nil (p8 _ _ ?_)
  refine .block ?_
  refine .seq (fun K7 q0 => .region (.q rfl (.cmp rfl rfl rfl) (.mv rfl (.nil (q0 _ _ ?_)))))
  refine .cond rfl (fun k8 => ?_) (fun k8 => ?_)
  ·
   try simp only [sps] at k8
   refine .region (.mv rfl (.q rfl (.fieldAddr fo_27_0_B rfl) ?_))
   refine .q rfl (.load on_2_A rfl (by first | assumption | exact Mem.of_get b 0 _ rfl)) ?_
   refine .q rfl (.add rfl rfl rfl (by omega) (by omega)) ?_
   refine .R rfl (.litA rfl sl_24_A ze_2_N rfl rfl rfl rfl) ?_
   rintro _ H35 ⟨g35, rfl, g8, ge35, o7⟩
   replace o := o.le g8
   replace b8 := b8.le g8
   replace hs := hs.le g8
   replace c9 := g8.2 _ _ c9
   replace aF := g8.2 _ _ aF
   replace aT := g8.2 _ _ aT
   replace aI := g8.2 _ _ aI
   replace aC := g8.2 _ _ aC
   replace b := g8.2 _ _ b
   refine .call rfl rfl rfl rfl @Try.call106 rfl ((by have hh := l01Pick_c (xs := [c.obj + 1, -1, 9]) (hl := fun H' s => Ints.of_get (s.same _ _ ⟨by omega, trivial⟩ o7)) (h0 := by simp); exact hh)) ?_
   rintro _ H36 ⟨q1, m0, rfl, h4, hs⟩
   obtain ⟨p5, q5, p9⟩ : ∃ k : Int, ([c.obj + 1, -1, 9] : List Int).getD q1 0 = k ∧ -9223372036854775808 ≤ k ∧ k ≤ 9223372036854775807 := ⟨_, rfl, bd_iff.2 (by intro x hx; simp only [List.mem_cons, List.not_mem_nil, or_false] at hx; omega) _ m0⟩
   rw [q5]
   replace o := o.sA h4
   replace b8 := b8.sA h4
   replace c9 := h4.s c9 t.ne
   replace aF := h4.s aF u.ne
   replace aT := h4.s aT z.ne
   replace aI := h4.s aI y.ne
   replace aC := h4.s aC v.ne
   replace b := h4.s b w.ne
   refine .q rfl (.fieldAddr fo_27_0_B rfl) ?_
   refine .r0 rfl rfl (.storeR rfl sz_2_Ch rfl rfl rfl (by assumption) (by first | exact Nat.le_of_ble_eq_true rfl | (simp; done) | (simp <;> omega))) ?_
   rintro _ H8007 ⟨rfl, e0, j4⟩
   replace o := o.sA e0
   replace b8 := b8.sA e0
   replace hs := hs.sA e0
   replace c9 := e0.s c9 f5.ne
   replace aF := e0.s aF f4.ne
   replace aT := e0.s aT e9.ne
   replace aI := e0.s aI e8.ne
   replace aC := e0.s aC f0.ne
   try simp only [Nat.zero_add, List.set_cons_succ, List.set_cons_zero] at j4
   refine .nil (i2 _ _ (.seq (fun K8 q4 => .region ?_)))
   refine .q rfl (.loadM ag_27_Hj rfl ⟨rfl, Mem.of_get j4⟩) ?_
   refine .r0 rfl rfl (.fillA rfl sz_27_D rfl rfl rfl rfl) ?_
   rintro _ H22001 ⟨rfl, d8, k0⟩
   replace o := o.sA d8
   replace hs := hs.sA d8
   have f : NE gF g4 := .a
   replace aF := d8.s aF f.ne
   have m : NE gT g4 := .a
   replace aT := d8.s aT m.ne
   have d : NE gI g4 := .a
   replace aI := d8.s aI d.ne
   have n : NE gC g4 := .a
   replace aC := d8.s aC n.ne
   refine .nil (q4 _ _ ?_)
   refine .ret ?_
   refine e7 _ _ ?_
   refine ⟨_, _, _, _, rfl, ag_27_Hj, (by rfl), (Mem.of_get k0), ?_⟩
   have hR' := (hRR.st b8 offA).st d8 (.cons (hRR.lowNe (by omega)) (.nil _ _))
   exact ⟨⟨p5, c.src, c.tgt, c.idn, c.comp⟩, ownP gF gT gI gC rr, rfl, ⟨n1, n2, n3, n4, n5, p9⟩, (KIn.own (c := ⟨p5, c.src, c.tgt, c.idn, c.comp⟩) aF bF aT bT aI bI aC bC hR').keep (.of_le (.refl _)) (by omega), o, hs⟩
  try simp only [sps] at k8
  refine .seq (fun K9 q8 => .region (.q rfl (.cmp rfl rfl rfl) (.mv rfl (.nil (q8 _ _ ?_)))))
  refine .cond rfl (fun o0 => ?_) (fun o0 => ?_)
  ·
   try simp only [sps] at o0
   refine .region (.q rfl (.fieldAddr fo_27_1_B rfl) ?_)
   refine .q rfl (.load on_24_B rfl (by first | assumption | exact Mem.of_get b 1 _ rfl)) ?_
   refine .R rfl (.litA rfl sl_24_A ze_2_N rfl rfl rfl rfl) ?_
   rintro _ H42 ⟨g42, rfl, g1, ge42, o6⟩
   replace o := o.le g1
   replace b8 := b8.le g1
   replace hs := hs.le g1
   replace c9 := g1.2 _ _ c9
   replace aF := g1.2 _ _ aF
   replace aT := g1.2 _ _ aT
   replace aI := g1.2 _ _ aI
   replace aC := g1.2 _ _ aC
   replace b := g1.2 _ _ b
   have lt_at42 := GHeap.ltg o6
   refine .R rfl (.appendI rfl sl_24_A ze_2_N rfl by_2_N sl_24_A rfl rfl (by assumption) (by assumption) (by first | omega | (simp <;> omega)) (by omega) (by omega)) ?_
   rintro _ H43 ⟨q6, rfl, h1, ge43, j6⟩
   replace o := o.sA h1
   replace b8 := b8.sA h1
   replace hs := hs.sA h1
   replace c9 := h1.s c9
   replace aT := h1.s aT
   replace aI := h1.s aI
   replace aC := h1.s aC
   replace b := h1.s b (Ne.symm f4.ne)
   refine .q rfl (.fieldAddr fo_27_1_B rfl) ?_
   refine .r0 rfl rfl (.storeR rfl sz_24_Ch rfl rfl rfl (by assumption) (by first | exact Nat.le_of_ble_eq_true rfl | (simp; done) | (simp <;> omega))) ?_
   rintro _ H10005 ⟨rfl, d1, i1⟩
   replace o := o.sA d1
   replace b8 := b8.sA d1
   replace hs := hs.sA d1
   replace c9 := d1.s c9 f5.ne
   replace aT := d1.s aT e9.ne
   replace aI := d1.s aI e8.ne
   replace aC := d1.s aC f0.ne
   replace j6 := d1.s j6
   try simp only [Nat.zero_add, List.set_cons_succ, List.set_cons_zero] at i1
   refine .nil (i2 _ _ (.seq (fun K10 l7 => .region ?_)))
   refine .q rfl (.loadM ag_27_Hj rfl ⟨rfl, Mem.of_get i1⟩) ?_
   refine .r0 rfl rfl (.fillA rfl sz_27_D rfl rfl rfl rfl) ?_
   rintro _ H22001x2 ⟨rfl, c0, i8⟩
   replace o := o.sA c0
   replace hs := hs.sA c0
   have m : NE gT g4 := .a
   replace aT := c0.s aT m.ne
   have d : NE gI g4 := .a
   replace aI := c0.s aI d.ne
   have n : NE gC g4 := .a
   replace aC := c0.s aC n.ne
   replace j6 := c0.s j6
   refine .nil (l7 _ _ ?_)
   refine .ret ?_
   refine e7 _ _ ?_
   refine ⟨_, _, _, _, rfl, ag_27_Hj, (by rfl), (Mem.of_get i8), ?_⟩
   have hR' := (hRR.st b8 offA).st c0 (.cons (hRR.lowNe (by omega)) (.nil _ _))
   exact ⟨⟨c.obj, c.src ++ [0], c.tgt, c.idn, c.comp⟩, ownP q6 gT gI gC rr, by simp [Cat.cells, ownP], ⟨by simp; omega, n2, n3, n4, n5, n6⟩, (KIn.own (c := ⟨c.obj, c.src ++ [0], c.tgt, c.idn, c.comp⟩) j6 (by omega) aT bT aI bI aC bC hR').keep (.of_le (.refl _)) (by omega), o, hs⟩
  try simp only [sps] at o0
  refine .seq (fun K11 o5 => .region (.q rfl (.cmp rfl rfl rfl) (.mv rfl (.nil (o5 _ _ ?_)))))
  refine .cond rfl (fun l0 => ?_) (fun l0 => ?_)
  ·
   try simp only [sps] at l0
   refine .seq (fun K12 l5 => .region (.q rfl (.fieldAddr fo_27_3_B rfl) ?_))
   refine .q rfl (.load on_24_B rfl (by first | assumption | exact Mem.of_get b 3 _ rfl)) ?_
   refine .q rfl (.len sl_24_A rfl) (.q rfl (.cmp rfl rfl rfl) (.nil (l5 _ _ ?_)))
   refine .cond rfl (fun k9 => ?_) (fun k9 => ?_)
   ·
    try simp only [sps] at k9
    refine .regionDB mo_B (.q 0 (.q 1 (.q 2 (.q 3 (.q 4 (.c 5 1 (.q 6 (.c 7 0 (.done))))))))) (by kernel_rfl) (GHeap.le_erase j8 gS) ?_
    have r := GHeap.le_erase j8 gS
    have j7 := GHeap.get_erase_of (g := gS) b (by omega)
    have aIB := GHeap.get_erase_of (g := gS) aI (by omega)
    refine .qB rfl r (.fieldAddr fo_27_3_B rfl) (.qB rfl r (.load on_24_B rfl (Mem.of_get j7 3 _ rfl)) (.qB rfl r (.move rfl) (.qB rfl r (.move rfl) ?_)))
    refine .qB rfl r (.add rfl rfl rfl (by omega) (by omega)) ?_
    refine .call1 rfl rfl rfl rfl rfl @Try.call30 rfl (l01Next_c) ?_
    rintro _ H56 ⟨p6, rfl, ka56, kb56, kc56, g9, hs⟩
    replace r := r.erase_st g9
    refine ⟨r, ?_⟩
    replace o := o.sA g9
    replace b8 := b8.sA g9
    replace c9 := g9.s c9 t.ne
    replace aF := g9.s aF u.ne
    replace aT := g9.s aT z.ne
    replace aI := g9.s aI y.ne
    replace aC := g9.s aC v.ne
    replace b := g9.s b w.ne
    refine .qB rfl r (.idxN (j := 0) sl_24_A (SlA.of_row aIB (by first | rfl | (simp; done) | (simp <;> omega))) rfl rfl (by omega)) ?_
    refine .r0 rfl rfl rfl (.storeI rfl sz_2_Ch rfl rfl (by assumption) (by first | omega | (simp <;> omega))) ?_
    rintro _ H13007 ⟨rfl, d2, f3⟩
    replace o := o.sA d2
    replace b8 := b8.sA d2
    replace hs := hs.sA d2
    have h3 : NE g4 gI := .a
    replace c9 := d2.s c9 h3.ne
    replace aF := d2.s aF
    replace aT := d2.s aT
    replace aC := d2.s aC
    replace b := d2.s b (Ne.symm e8.ne)
    rw [Nat.zero_add] at f3
    refine .done ?_
    refine i2 _ _ (.seq (fun K13 o4 => .region ?_))
    refine .q rfl (.loadM ag_27_Hj rfl ⟨rfl, Mem.of_get b⟩) ?_
    refine .r0 rfl rfl (.fillA rfl sz_27_D rfl rfl rfl rfl) ?_
    rintro _ H22001x3 ⟨rfl, c4, i9⟩
    replace o := o.sA c4
    replace hs := hs.sA c4
    have f : NE gF g4 := .a
    replace aF := c4.s aF f.ne
    have m : NE gT g4 := .a
    replace aT := c4.s aT m.ne
    have n : NE gC g4 := .a
    replace aC := c4.s aC n.ne
    replace f3 := c4.s f3 (Ne.symm h3.ne)
    refine .nil (o4 _ _ ?_)
    refine .ret ?_
    refine e7 _ _ ?_
    refine ⟨_, _, _, _, rfl, ag_27_Hj, (by rfl), (Mem.of_get i9), ?_⟩
    have hR' := (hRR.st b8 offA).st c4 (.cons (hRR.lowNe (by omega)) (.nil _ _))
    exact ⟨⟨c.obj, c.src, c.tgt, c.idn.set 0 p6, c.comp⟩, ownP gF gT gI gC rr, by simp [Cat.cells, ownP], ⟨n1, n2, by rw [List.length_set]; exact n3, n4, n5, n6⟩, (KIn.own (c := ⟨c.obj, c.src, c.tgt, c.idn.set 0 p6, c.comp⟩) aF bF aT bT f3 bI aC bC hR').keep (.of_le (.refl _)) (by omega), o, hs⟩
   try simp only [sps] at k9
   refine .skip ?_
   refine i2 _ _ (.seq (fun K14 n0 => .region ?_))
   refine .q rfl (.loadM ag_27_Hj rfl ⟨rfl, Mem.of_get b⟩) ?_
   refine .r0 rfl rfl (.fillA rfl sz_27_D rfl rfl rfl rfl) ?_
   rintro _ H22001x4 ⟨rfl, c5, i4⟩
   replace o := o.sA c5
   replace hs := hs.sA c5
   have f : NE gF g4 := .a
   replace aF := c5.s aF f.ne
   have m : NE gT g4 := .a
   replace aT := c5.s aT m.ne
   have d : NE gI g4 := .a
   replace aI := c5.s aI d.ne
   have n : NE gC g4 := .a
   replace aC := c5.s aC n.ne
   refine .nil (n0 _ _ ?_)
   refine .ret ?_
   refine e7 _ _ ?_
   refine ⟨_, _, _, _, rfl, ag_27_Hj, (by rfl), (Mem.of_get i4), ?_⟩
   have hR' := (hRR.st b8 offA).st c5 (.cons (hRR.lowNe (by omega)) (.nil _ _))
   exact ⟨c, ownP gF gT gI gC rr, rfl, hsm, (KIn.own aF bF aT bT aI bI aC bC hR').keep (.of_le (.refl _)) (by omega), o, hs⟩
  try simp only [sps] at l0
  refine .seq (fun K15 k1 => .seq (fun K16 m7 => .region (.q rfl (.cmp rfl rfl rfl) (.mv rfl (.nil (m7 _ _ ?_))))))
  refine .cond rfl (fun g0 => ?_) (fun g0 => ?_)
  ·
   try simp only [sps] at g0
   refine .skip ?_
   refine k1 _ _ ?_
   refine .cond rfl (fun g0 => ?_) (fun g0 => ?_)
   ·
    try simp only [sps] at g0
    refine .seq (fun K17 l6 => .region (.mv rfl (.q rfl (.cmp rfl rfl rfl) (.nil (l6 _ _ ?_)))))
    refine .cond rfl (fun j3 => ?_) (fun j3 => ?_)
    ·
     try simp only [sps] at j3
     refine .regionDB mo_B (.q 0 (.q 1 (.q 2 (.q 3 (.q 4 (.q 5 (.q 6 (.q 8 (.q 9 (.q 10 (.c 7 1 (.c 11 1 (.q 12 (.q 13 (.c 14 0 (.done)))))))))))))))) (by kernel_rfl) (GHeap.le_erase j8 gS) ?_
     have r := GHeap.le_erase j8 gS
     have j7 := GHeap.get_erase_of (g := gS) b (by omega)
     have aCB := GHeap.get_erase_of (g := gS) aC (by omega)
     obtain ⟨gi, hgi, hbi, hati⟩ := (hRR.st b8 offA).row f2.toNat (by omega)
     have atiB := GHeap.get_erase_of (g := gS) hati (by omega)
     have cC := slsL_cell aCB (i := f2.toNat) (by omega)
     rw [hgi] at cC
     have m1 : gF ≠ gi := fun e => v8.r1 f2.toNat (by omega) (by rw [hgi, e])
     have m2 : gT ≠ gi := fun e => v8.r2 f2.toNat (by omega) (by rw [hgi, e])
     have m3 : gI ≠ gi := fun e => v8.r3 f2.toNat (by omega) (by rw [hgi, e])
     have m4 := row_ne aC hati rfl
     have m9 := a9 f2.toNat (by omega)
     refine .qB rfl r (.fieldAddr fo_27_4_B rfl) (.qB rfl r (.load on_25_B rfl (Mem.of_get j7 4 _ rfl)) (.qB rfl r (.move rfl) ?_))
     refine .qB rfl r (.idx1 sl_25_B (SlA.of_row aCB (by first | rfl | (simp; done) | (simp <;> omega))) rfl rfl (by omega) (by omega)) ?_
     refine .qB rfl r (.load on_24_B rfl cC) (.qB rfl r (.move rfl) (.qB rfl r (.move rfl) (.qB rfl r (.move rfl) (.qB rfl r (.move rfl) ?_))))
     refine .qB rfl r (.add rfl rfl rfl (by omega) (by omega)) ?_
     refine .call1 rfl rfl rfl rfl rfl @Try.call30 rfl (l01Next_c) ?_
     rintro _ H71 ⟨k71, rfl, ka71, kb71, kc71, f6, hs⟩
     replace r := r.erase_st f6
     refine ⟨r, ?_⟩
     replace o := o.sA f6
     replace b8 := b8.sA f6
     replace c9 := f6.s c9 t.ne
     replace aF := f6.s aF u.ne
     replace aT := f6.s aT z.ne
     replace aI := f6.s aI y.ne
     replace aC := f6.s aC v.ne
     replace b := f6.s b w.ne
     have c7 : NE gi gS := .a
     replace hati := f6.s hati c7.ne
     refine .call1 rfl rfl rfl rfl rfl @Try.call30 rfl (l01Next_c) ?_
     rintro _ H75 ⟨k75, rfl, ka75, kb75, kc75, f7, hs⟩
     replace r := r.erase_st f7
     refine ⟨r, ?_⟩
     replace o := o.sA f7
     replace b8 := b8.sA f7
     replace c9 := f7.s c9 t.ne
     replace aF := f7.s aF u.ne
     replace aT := f7.s aT z.ne
     replace aI := f7.s aI y.ne
     replace aC := f7.s aC v.ne
     replace b := f7.s b w.ne
     replace hati := f7.s hati c7.ne
     refine .qB rfl r (.sub rfl rfl rfl (by omega) (by omega)) ?_
     refine .qB rfl r (.idx1 sl_24_A (SlA.of_row atiB (by first | rfl | (simp; done) | (simp <;> omega))) rfl rfl (by omega) (by omega)) ?_
     refine .r0 rfl rfl rfl (.storeI rfl sz_2_Ch rfl rfl (by assumption) (by first | omega | (simp <;> omega))) ?_
     rintro _ H18014 ⟨rfl, c8, i3⟩
     replace o := o.sA c8
     replace hs := hs.sA c8
     have e1 : NE g4 gi := .a
     replace c9 := c8.s c9 e1.ne
     have e6 : NE gF gi := .a
     replace aF := c8.s aF e6.ne
     have e4 : NE gT gi := .a
     replace aT := c8.s aT e4.ne
     have e5 : NE gI gi := .a
     replace aI := c8.s aI e5.ne
     have d9 : NE gC gi := .a
     replace aC := c8.s aC d9.ne
     have e3 : NE g3 gi := .a
     replace b := c8.s b e3.ne
     rw [Nat.zero_add] at i3
     have j2 := bend_set (hRR.st b8 offA) c8 (by omega) hgi i3 (by rw [List.length_set])
     refine .done ?_
     refine i2 _ _ (.seq (fun K18 o2 => .region ?_))
     refine .q rfl (.loadM ag_27_Hj rfl ⟨rfl, Mem.of_get b⟩) ?_
     refine .r0 rfl rfl (.fillA rfl sz_27_D rfl rfl rfl rfl) ?_
     rintro _ H22001x5 ⟨rfl, c2, i6⟩
     replace o := o.sA c2
     replace hs := hs.sA c2
     have f : NE gF g4 := .a
     replace aF := c2.s aF f.ne
     have m : NE gT g4 := .a
     replace aT := c2.s aT m.ne
     have d : NE gI g4 := .a
     replace aI := c2.s aI d.ne
     have n : NE gC g4 := .a
     replace aC := c2.s aC n.ne
     refine .nil (o2 _ _ ?_)
     refine .ret ?_
     refine e7 _ _ ?_
     refine ⟨_, _, _, _, rfl, ag_27_Hj, (by rfl), (Mem.of_get i6), ?_⟩
     obtain ⟨T, k3, j5, k2, j9⟩ := j2
     have hR' := j9.st c2 (.cons (j9.lowNe (by omega)) (.nil _ _))
     rw [← k3] at aC
     exact ⟨⟨c.obj, c.src, c.tgt, c.idn, T⟩, ownP gF gT gI gC rr, by simp [Cat.cells, ownP, j5], ⟨n1, n2, n3, (by rw [j5]; exact n4), fun i => Nat.le_trans (Nat.le_of_eq (k2 i)) (n5 i), n6⟩, (KIn.own (c := ⟨c.obj, c.src, c.tgt, c.idn, T⟩) aF bF aT bT aI bI aC bC hR').keep (.of_le (.refl _)) (by omega), o, hs⟩
    try simp only [sps] at j3
    refine .skip ?_
    refine i2 _ _ (.seq (fun K19 l3 => .region ?_))
    refine .q rfl (.loadM ag_27_Hj rfl ⟨rfl, Mem.of_get b⟩) ?_
    refine .r0 rfl rfl (.fillA rfl sz_27_D rfl rfl rfl rfl) ?_
    rintro _ H22001x6 ⟨rfl, c3, j1⟩
    replace o := o.sA c3
    replace hs := hs.sA c3
    have f : NE gF g4 := .a
    replace aF := c3.s aF f.ne
    have m : NE gT g4 := .a
    replace aT := c3.s aT m.ne
    have d : NE gI g4 := .a
    replace aI := c3.s aI d.ne
    have n : NE gC g4 := .a
    replace aC := c3.s aC n.ne
    refine .nil (l3 _ _ ?_)
    refine .ret ?_
    refine e7 _ _ ?_
    refine ⟨_, _, _, _, rfl, ag_27_Hj, (by rfl), (Mem.of_get j1), ?_⟩
    have hR' := (hRR.st b8 offA).st c3 (.cons (hRR.lowNe (by omega)) (.nil _ _))
    exact ⟨c, ownP gF gT gI gC rr, rfl, hsm, (KIn.own aF bF aT bT aI bI aC bC hR').keep (.of_le (.refl _)) (by omega), o, hs⟩
   simp only [sps] at g0; omega
  try simp only [sps] at g0
  refine .seq (fun K20 l9 => .region (.q rfl (.cmp rfl rfl rfl) (.mv rfl (.nil (l9 _ _ ?_)))))
  refine .cond rfl (fun g0 => ?_) (fun g0 => ?_)
  ·
   try simp only [sps] at g0
   refine .skip ?_
   refine k1 _ _ ?_
   refine .cond rfl (fun g0 => ?_) (fun g0 => ?_)
   ·
    try simp only [sps] at g0
    refine .seq (fun K21 l8 => .region (.mv rfl (.q rfl (.cmp rfl rfl rfl) (.nil (l8 _ _ ?_)))))
    refine .cond rfl (fun j3 => ?_) (fun j3 => ?_)
    ·
     try simp only [sps] at j3
     refine .regionDB mo_B (.q 0 (.q 1 (.q 2 (.q 3 (.q 4 (.q 5 (.q 6 (.q 8 (.q 9 (.q 10 (.c 7 1 (.c 11 1 (.q 12 (.q 13 (.c 14 0 (.done)))))))))))))))) (by kernel_rfl) (GHeap.le_erase j8 gS) ?_
     have r := GHeap.le_erase j8 gS
     have j7 := GHeap.get_erase_of (g := gS) b (by omega)
     have aCB := GHeap.get_erase_of (g := gS) aC (by omega)
     obtain ⟨gi, hgi, hbi, hati⟩ := (hRR.st b8 offA).row f2.toNat (by omega)
     have atiB := GHeap.get_erase_of (g := gS) hati (by omega)
     have cC := slsL_cell aCB (i := f2.toNat) (by omega)
     rw [hgi] at cC
     have m1 : gF ≠ gi := fun e => v8.r1 f2.toNat (by omega) (by rw [hgi, e])
     have m2 : gT ≠ gi := fun e => v8.r2 f2.toNat (by omega) (by rw [hgi, e])
     have m3 : gI ≠ gi := fun e => v8.r3 f2.toNat (by omega) (by rw [hgi, e])
     have m4 := row_ne aC hati rfl
     have m9 := a9 f2.toNat (by omega)
     refine .qB rfl r (.fieldAddr fo_27_4_B rfl) (.qB rfl r (.load on_25_B rfl (Mem.of_get j7 4 _ rfl)) (.qB rfl r (.move rfl) ?_))
     refine .qB rfl r (.idx1 sl_25_B (SlA.of_row aCB (by first | rfl | (simp; done) | (simp <;> omega))) rfl rfl (by omega) (by omega)) ?_
     refine .qB rfl r (.load on_24_B rfl cC) (.qB rfl r (.move rfl) (.qB rfl r (.move rfl) (.qB rfl r (.move rfl) (.qB rfl r (.move rfl) ?_))))
     refine .qB rfl r (.add rfl rfl rfl (by omega) (by omega)) ?_
     refine .call1 rfl rfl rfl rfl rfl @Try.call30 rfl (l01Next_c) ?_
     rintro _ H71x2 ⟨k71x2, rfl, ka71x2, kb71x2, kc71x2, d6, hs⟩
     replace r := r.erase_st d6
     refine ⟨r, ?_⟩
     replace o := o.sA d6
     replace b8 := b8.sA d6
     replace c9 := d6.s c9 t.ne
     replace aF := d6.s aF u.ne
     replace aT := d6.s aT z.ne
     replace aI := d6.s aI y.ne
     replace aC := d6.s aC v.ne
     replace b := d6.s b w.ne
     have c7 : NE gi gS := .a
     replace hati := d6.s hati c7.ne
     refine .call1 rfl rfl rfl rfl rfl @Try.call30 rfl (l01Next_c) ?_
     rintro _ H75x2 ⟨k75x2, rfl, ka75x2, kb75x2, kc75x2, d5, hs⟩
     replace r := r.erase_st d5
     refine ⟨r, ?_⟩
     replace o := o.sA d5
     replace b8 := b8.sA d5
     replace c9 := d5.s c9 t.ne
     replace aF := d5.s aF u.ne
     replace aT := d5.s aT z.ne
     replace aI := d5.s aI y.ne
     replace aC := d5.s aC v.ne
     replace b := d5.s b w.ne
     replace hati := d5.s hati c7.ne
     refine .qB rfl r (.sub rfl rfl rfl (by omega) (by omega)) ?_
     refine .qB rfl r (.idx1 sl_24_A (SlA.of_row atiB (by first | rfl | (simp; done) | (simp <;> omega))) rfl rfl (by omega) (by omega)) ?_
     refine .r0 rfl rfl rfl (.storeI rfl sz_2_Ch rfl rfl (by assumption) (by first | omega | (simp <;> omega))) ?_
     rintro _ H18014x2 ⟨rfl, a5, f9⟩
     replace o := o.sA a5
     replace hs := hs.sA a5
     have e1 : NE g4 gi := .a
     replace c9 := a5.s c9 e1.ne
     have e6 : NE gF gi := .a
     replace aF := a5.s aF e6.ne
     have e4 : NE gT gi := .a
     replace aT := a5.s aT e4.ne
     have e5 : NE gI gi := .a
     replace aI := a5.s aI e5.ne
     have d9 : NE gC gi := .a
     replace aC := a5.s aC d9.ne
     have e3 : NE g3 gi := .a
     replace b := a5.s b e3.ne
     rw [Nat.zero_add] at f9
     have j2 := bend_set (hRR.st b8 offA) a5 (by omega) hgi f9 (by rw [List.length_set])
     refine .done ?_
     refine i2 _ _ (.seq (fun K22 l4 => .region ?_))
     refine .q rfl (.loadM ag_27_Hj rfl ⟨rfl, Mem.of_get b⟩) ?_
     refine .r0 rfl rfl (.fillA rfl sz_27_D rfl rfl rfl rfl) ?_
     rintro _ H22001x7 ⟨rfl, c6, j0⟩
     replace o := o.sA c6
     replace hs := hs.sA c6
     have f : NE gF g4 := .a
     replace aF := c6.s aF f.ne
     have m : NE gT g4 := .a
     replace aT := c6.s aT m.ne
     have d : NE gI g4 := .a
     replace aI := c6.s aI d.ne
     have n : NE gC g4 := .a
     replace aC := c6.s aC n.ne
     refine .nil (l4 _ _ ?_)
     refine .ret ?_
     refine e7 _ _ ?_
     refine ⟨_, _, _, _, rfl, ag_27_Hj, (by rfl), (Mem.of_get j0), ?_⟩
     obtain ⟨T, k3, j5, k2, j9⟩ := j2
     have hR' := j9.st c6 (.cons (j9.lowNe (by omega)) (.nil _ _))
     rw [← k3] at aC
     exact ⟨⟨c.obj, c.src, c.tgt, c.idn, T⟩, ownP gF gT gI gC rr, by simp [Cat.cells, ownP, j5], ⟨n1, n2, n3, (by rw [j5]; exact n4), fun i => Nat.le_trans (Nat.le_of_eq (k2 i)) (n5 i), n6⟩, (KIn.own (c := ⟨c.obj, c.src, c.tgt, c.idn, T⟩) aF bF aT bT aI bI aC bC hR').keep (.of_le (.refl _)) (by omega), o, hs⟩
    try simp only [sps] at j3
    refine .skip ?_
    refine i2 _ _ (.seq (fun K23 m5 => .region ?_))
    refine .q rfl (.loadM ag_27_Hj rfl ⟨rfl, Mem.of_get b⟩) ?_
    refine .r0 rfl rfl (.fillA rfl sz_27_D rfl rfl rfl rfl) ?_
    rintro _ H22001x8 ⟨rfl, c1, i5⟩
    replace o := o.sA c1
    replace hs := hs.sA c1
    have f : NE gF g4 := .a
    replace aF := c1.s aF f.ne
    have m : NE gT g4 := .a
    replace aT := c1.s aT m.ne
    have d : NE gI g4 := .a
    replace aI := c1.s aI d.ne
    have n : NE gC g4 := .a
    replace aC := c1.s aC n.ne
    refine .nil (m5 _ _ ?_)
    refine .ret ?_
    refine e7 _ _ ?_
    refine ⟨_, _, _, _, rfl, ag_27_Hj, (by rfl), (Mem.of_get i5), ?_⟩
    have hR' := (hRR.st b8 offA).st c1 (.cons (hRR.lowNe (by omega)) (.nil _ _))
    exact ⟨c, ownP gF gT gI gC rr, rfl, hsm, (KIn.own aF bF aT bT aI bI aC bC hR').keep (.of_le (.refl _)) (by omega), o, hs⟩
   simp only [sps] at g0; omega
  try simp only [sps] at g0
  refine .region (.q rfl (.cmp rfl rfl rfl) (.mv rfl (.nil (k1 _ _ ?_))))
  refine .cond rfl (fun g0 => ?_) (fun g0 => ?_)
  ·
   try simp only [sps] at g0
   refine .seq (fun K24 l1 => .region (.mv rfl (.q rfl (.cmp rfl rfl rfl) (.nil (l1 _ _ ?_)))))
   refine .cond rfl (fun j3 => ?_) (fun j3 => ?_)
   ·
    try simp only [sps] at j3
    refine .regionDB mo_B (.q 0 (.q 1 (.q 2 (.q 3 (.q 4 (.q 5 (.q 6 (.q 8 (.q 9 (.q 10 (.c 7 1 (.c 11 1 (.q 12 (.q 13 (.c 14 0 (.done)))))))))))))))) (by kernel_rfl) (GHeap.le_erase j8 gS) ?_
    have r := GHeap.le_erase j8 gS
    have j7 := GHeap.get_erase_of (g := gS) b (by omega)
    have aCB := GHeap.get_erase_of (g := gS) aC (by omega)
    obtain ⟨gi, hgi, hbi, hati⟩ := (hRR.st b8 offA).row f2.toNat (by omega)
    have atiB := GHeap.get_erase_of (g := gS) hati (by omega)
    have cC := slsL_cell aCB (i := f2.toNat) (by omega)
    rw [hgi] at cC
    have m1 : gF ≠ gi := fun e => v8.r1 f2.toNat (by omega) (by rw [hgi, e])
    have m2 : gT ≠ gi := fun e => v8.r2 f2.toNat (by omega) (by rw [hgi, e])
    have m3 : gI ≠ gi := fun e => v8.r3 f2.toNat (by omega) (by rw [hgi, e])
    have m4 := row_ne aC hati rfl
    have m9 := a9 f2.toNat (by omega)
    refine .qB rfl r (.fieldAddr fo_27_4_B rfl) (.qB rfl r (.load on_25_B rfl (Mem.of_get j7 4 _ rfl)) (.qB rfl r (.move rfl) ?_))
    refine .qB rfl r (.idx1 sl_25_B (SlA.of_row aCB (by first | rfl | (simp; done) | (simp <;> omega))) rfl rfl (by omega) (by omega)) ?_
    refine .qB rfl r (.load on_24_B rfl cC) (.qB rfl r (.move rfl) (.qB rfl r (.move rfl) (.qB rfl r (.move rfl) (.qB rfl r (.move rfl) ?_))))
    refine .qB rfl r (.add rfl rfl rfl (by omega) (by omega)) ?_
    refine .call1 rfl rfl rfl rfl rfl @Try.call30 rfl (l01Next_c) ?_
    rintro _ H71x3 ⟨k71x3, rfl, ka71x3, kb71x3, kc71x3, d4, hs⟩
    replace r := r.erase_st d4
    refine ⟨r, ?_⟩
    replace o := o.sA d4
    replace b8 := b8.sA d4
    replace c9 := d4.s c9 t.ne
    replace aF := d4.s aF u.ne
    replace aT := d4.s aT z.ne
    replace aI := d4.s aI y.ne
    replace aC := d4.s aC v.ne
    replace b := d4.s b w.ne
    have c7 : NE gi gS := .a
    replace hati := d4.s hati c7.ne
    refine .call1 rfl rfl rfl rfl rfl @Try.call30 rfl (l01Next_c) ?_
    rintro _ H75x3 ⟨k75x3, rfl, ka75x3, kb75x3, kc75x3, d3, hs⟩
    replace r := r.erase_st d3
    refine ⟨r, ?_⟩
    replace o := o.sA d3
    replace b8 := b8.sA d3
    replace c9 := d3.s c9 t.ne
    replace aF := d3.s aF u.ne
    replace aT := d3.s aT z.ne
    replace aI := d3.s aI y.ne
    replace aC := d3.s aC v.ne
    replace b := d3.s b w.ne
    replace hati := d3.s hati c7.ne
    refine .qB rfl r (.sub rfl rfl rfl (by omega) (by omega)) ?_
    refine .qB rfl r (.idx1 sl_24_A (SlA.of_row atiB (by first | rfl | (simp; done) | (simp <;> omega))) rfl rfl (by omega) (by omega)) ?_
    refine .r0 rfl rfl rfl (.storeI rfl sz_2_Ch rfl rfl (by assumption) (by first | omega | (simp <;> omega))) ?_
    rintro _ H18014x3 ⟨rfl, a0, f8⟩
    replace o := o.sA a0
    replace hs := hs.sA a0
    have e1 : NE g4 gi := .a
    replace c9 := a0.s c9 e1.ne
    have e6 : NE gF gi := .a
    replace aF := a0.s aF e6.ne
    have e4 : NE gT gi := .a
    replace aT := a0.s aT e4.ne
    have e5 : NE gI gi := .a
    replace aI := a0.s aI e5.ne
    have d9 : NE gC gi := .a
    replace aC := a0.s aC d9.ne
    have e3 : NE g3 gi := .a
    replace b := a0.s b e3.ne
    rw [Nat.zero_add] at f8
    have j2 := bend_set (hRR.st b8 offA) a0 (by omega) hgi f8 (by rw [List.length_set])
    refine .done ?_
    refine i2 _ _ (.seq (fun K25 o1 => .region ?_))
    refine .q rfl (.loadM ag_27_Hj rfl ⟨rfl, Mem.of_get b⟩) ?_
    refine .r0 rfl rfl (.fillA rfl sz_27_D rfl rfl rfl rfl) ?_
    rintro _ H22001x9 ⟨rfl, b9, i7⟩
    replace o := o.sA b9
    replace hs := hs.sA b9
    have f : NE gF g4 := .a
    replace aF := b9.s aF f.ne
    have m : NE gT g4 := .a
    replace aT := b9.s aT m.ne
    have d : NE gI g4 := .a
    replace aI := b9.s aI d.ne
    have n : NE gC g4 := .a
    replace aC := b9.s aC n.ne
    refine .nil (o1 _ _ ?_)
    refine .ret ?_
    refine e7 _ _ ?_
    refine ⟨_, _, _, _, rfl, ag_27_Hj, (by rfl), (Mem.of_get i7), ?_⟩
    obtain ⟨T, k3, j5, k2, j9⟩ := j2
    have hR' := j9.st b9 (.cons (j9.lowNe (by omega)) (.nil _ _))
    rw [← k3] at aC
    exact ⟨⟨c.obj, c.src, c.tgt, c.idn, T⟩, ownP gF gT gI gC rr, by simp [Cat.cells, ownP, j5], ⟨n1, n2, n3, (by rw [j5]; exact n4), fun i => Nat.le_trans (Nat.le_of_eq (k2 i)) (n5 i), n6⟩, (KIn.own (c := ⟨c.obj, c.src, c.tgt, c.idn, T⟩) aF bF aT bT aI bI aC bC hR').keep (.of_le (.refl _)) (by omega), o, hs⟩
   try simp only [sps] at j3
   refine .skip ?_
   refine i2 _ _ (.seq (fun K26 o8 => .region ?_))
   refine .q rfl (.loadM ag_27_Hj rfl ⟨rfl, Mem.of_get b⟩) ?_
   refine .r0 rfl rfl (.fillA rfl sz_27_D rfl rfl rfl rfl) ?_
   rintro _ H22001x10 ⟨rfl, b0, h7⟩
   replace o := o.sA b0
   replace hs := hs.sA b0
   have f : NE gF g4 := .a
   replace aF := b0.s aF f.ne
   have m : NE gT g4 := .a
   replace aT := b0.s aT m.ne
   have d : NE gI g4 := .a
   replace aI := b0.s aI d.ne
   have n : NE gC g4 := .a
   replace aC := b0.s aC n.ne
   refine .nil (o8 _ _ ?_)
   refine .ret ?_
   refine e7 _ _ ?_
   refine ⟨_, _, _, _, rfl, ag_27_Hj, (by rfl), (Mem.of_get h7), ?_⟩
   have hR' := (hRR.st b8 offA).st b0 (.cons (hRR.lowNe (by omega)) (.nil _ _))
   exact ⟨c, ownP gF gT gI gC rr, rfl, hsm, (KIn.own aF bF aT bT aI bI aC bC hR').keep (.of_le (.refl _)) (by omega), o, hs⟩
  try simp only [sps] at g0
  refine .seq (fun K27 o3 => .region (.q rfl (.cmp rfl rfl rfl) (.mv rfl (.nil (o3 _ _ ?_)))))
  refine .cond rfl (fun p3 => ?_) (fun p3 => ?_)
  ·
   try simp only [sps] at p3
   refine .seq (fun K28 p1 => .region (.mv rfl (.q rfl (.cmp rfl rfl rfl) (.nil (p1 _ _ ?_)))))
   refine .cond rfl (fun n7 => ?_) (fun n7 => ?_)
   ·
    try simp only [sps] at n7
    refine .regionDB mo_B (.q 0 (.q 1 (.q 2 (.q 3 (.q 4 (.q 5 (.q 6 (.c 7 1 (.q 8 (.c 9 0 (.done))))))))))) (by kernel_rfl) (GHeap.le_erase j8 gS) ?_
    have r := GHeap.le_erase j8 gS
    have j7 := GHeap.get_erase_of (g := gS) b (by omega)
    have aTB := GHeap.get_erase_of (g := gS) aT (by omega)
    refine .qB rfl r (.fieldAddr fo_27_2_B rfl) (.qB rfl r (.load on_24_B rfl (Mem.of_get j7 2 _ rfl)) (.qB rfl r (.move rfl) (.qB rfl r (.move rfl) (.qB rfl r (.fieldAddr fo_27_0_B rfl) (.qB rfl r (.load on_2_A rfl (Mem.of_get j7 0 _ rfl)) ?_)))))
    refine .qB rfl r (.add rfl rfl rfl (by omega) (by omega)) ?_
    refine .call1 rfl rfl rfl rfl rfl @Try.call30 rfl (l01Next_c) ?_
    rintro _ H89 ⟨p4, rfl, ka89, kb89, kc89, g6, hs⟩
    replace r := r.erase_st g6
    refine ⟨r, ?_⟩
    replace o := o.sA g6
    replace b8 := b8.sA g6
    replace c9 := g6.s c9 t.ne
    replace aF := g6.s aF u.ne
    replace aT := g6.s aT z.ne
    replace aI := g6.s aI y.ne
    replace aC := g6.s aC v.ne
    replace b := g6.s b w.ne
    refine .qB rfl r (.idx1 sl_24_A (SlA.of_row aTB (by first | rfl | (simp; done) | (simp <;> omega))) rfl rfl (by omega) (by omega)) ?_
    refine .r0 rfl rfl rfl (.storeI rfl sz_2_Ch rfl rfl (by assumption) (by first | omega | (simp <;> omega))) ?_
    rintro _ H21009 ⟨rfl, d0, f1⟩
    replace o := o.sA d0
    replace b8 := b8.sA d0
    replace hs := hs.sA d0
    have h5 : NE g4 gT := .a
    replace c9 := d0.s c9 h5.ne
    replace aF := d0.s aF
    replace aI := d0.s aI
    replace aC := d0.s aC
    replace b := d0.s b (Ne.symm e9.ne)
    rw [Nat.zero_add] at f1
    refine .done ?_
    refine i2 _ _ (.seq (fun K29 m6 => .region ?_))
    refine .q rfl (.loadM ag_27_Hj rfl ⟨rfl, Mem.of_get b⟩) ?_
    refine .r0 rfl rfl (.fillA rfl sz_27_D rfl rfl rfl rfl) ?_
    rintro _ H22001x11 ⟨rfl, b7, h6⟩
    replace o := o.sA b7
    replace hs := hs.sA b7
    have f : NE gF g4 := .a
    replace aF := b7.s aF f.ne
    have d : NE gI g4 := .a
    replace aI := b7.s aI d.ne
    have n : NE gC g4 := .a
    replace aC := b7.s aC n.ne
    replace f1 := b7.s f1 (Ne.symm h5.ne)
    refine .nil (m6 _ _ ?_)
    refine .ret ?_
    refine e7 _ _ ?_
    refine ⟨_, _, _, _, rfl, ag_27_Hj, (by rfl), (Mem.of_get h6), ?_⟩
    have hR' := (hRR.st b8 offA).st b7 (.cons (hRR.lowNe (by omega)) (.nil _ _))
    exact ⟨⟨c.obj, c.src, c.tgt.set f2.toNat p4, c.idn, c.comp⟩, ownP gF gT gI gC rr, by simp [Cat.cells, ownP], ⟨n1, by rw [List.length_set]; exact n2, n3, n4, n5, n6⟩, (KIn.own (c := ⟨c.obj, c.src, c.tgt.set f2.toNat p4, c.idn, c.comp⟩) aF bF f1 bT aI bI aC bC hR').keep (.of_le (.refl _)) (by omega), o, hs⟩
   try simp only [sps] at n7
   refine .skip ?_
   refine i2 _ _ (.seq (fun K30 n8 => .region ?_))
   refine .q rfl (.loadM ag_27_Hj rfl ⟨rfl, Mem.of_get b⟩) ?_
   refine .r0 rfl rfl (.fillA rfl sz_27_D rfl rfl rfl rfl) ?_
   rintro _ H22001x12 ⟨rfl, b5, i0⟩
   replace o := o.sA b5
   replace hs := hs.sA b5
   have f : NE gF g4 := .a
   replace aF := b5.s aF f.ne
   have m : NE gT g4 := .a
   replace aT := b5.s aT m.ne
   have d : NE gI g4 := .a
   replace aI := b5.s aI d.ne
   have n : NE gC g4 := .a
   replace aC := b5.s aC n.ne
   refine .nil (n8 _ _ ?_)
   refine .ret ?_
   refine e7 _ _ ?_
   refine ⟨_, _, _, _, rfl, ag_27_Hj, (by rfl), (Mem.of_get i0), ?_⟩
   have hR' := (hRR.st b8 offA).st b5 (.cons (hRR.lowNe (by omega)) (.nil _ _))
   exact ⟨c, ownP gF gT gI gC rr, rfl, hsm, (KIn.own aF bF aT bT aI bI aC bC hR').keep (.of_le (.refl _)) (by omega), o, hs⟩
  try simp only [sps] at p3
  refine .seq (fun K31 o9 => .region (.mv rfl (.q rfl (.cmp rfl rfl rfl) (.nil (o9 _ _ ?_)))))
  refine .cond rfl (fun n9 => ?_) (fun n9 => ?_)
  ·
   try simp only [sps] at n9
   refine .regionD mo_B (.q 0 (.q 1 (.q 2 (.q 3 (.q 4 (.q 5 (.q 6 (.q 7 (.q 8 (.q 9 (.c 10 0 (.done)))))))))))) (by kernel_rfl) ?_
   have m9 := a9 f2.toNat (by omega)
   obtain ⟨gi, hgi, -, hati⟩ := (hRR.st b8 offA).row f2.toNat (by omega)
   have cC := slsL_cell aC (i := f2.toNat) (by omega)
   rw [hgi] at cC
   refine .q rfl (.fieldAddr fo_27_4_B rfl) ?_
   refine .q rfl (.load on_25_B rfl (by first | assumption | exact Mem.of_get b 4 _ rfl)) ?_
   refine .mv rfl rfl (.q rfl (.fieldAddr fo_27_4_B rfl) ?_)
   refine .q rfl (.load on_25_B rfl (by first | assumption | exact Mem.of_get b 4 _ rfl)) ?_
   refine .mv rfl rfl ?_
   refine .q rfl (.idx1 sl_25_B (by first | exact (Intss.sl (by assumption)) | exact SlA.of_row aC (by first | rfl | (simp; done) | (simp <;> omega))) rfl rfl (by omega) (by omega)) ?_
   refine .q rfl (.load on_24_B rfl cC) ?_
   refine .q rfl (.slice (l := 1) (h := (c.comp.getD f2.toNat []).length) sl_24_A rfl hati ⟨_, rfl⟩ rfl (by omega) (by omega)) ?_
   refine .q rfl (.idx1 sl_25_B (by first | exact (Intss.sl (by assumption)) | exact SlA.of_row aC (by first | rfl | (simp; done) | (simp <;> omega))) rfl rfl (by omega) (by omega)) ?_
   refine .r0 rfl rfl rfl (.storeR rfl sz_24_Ch rfl rfl rfl (by assumption) (by first | exact Nat.le_of_ble_eq_true rfl | (simp; done) | (simp <;> omega))) ?_
   rintro _ H6010 ⟨rfl, e2, g7⟩
   replace o := o.sA e2
   replace b8 := b8.sA e2
   replace hs := hs.sA e2
   have h2 : NE g4 gC := .a
   replace c9 := e2.s c9 h2.ne
   replace aF := e2.s aF
   replace aT := e2.s aT
   replace aI := e2.s aI
   replace b := e2.s b (Ne.symm f0.ne)
   refine .done ?_
   refine i2 _ _ (.seq (fun K32 l2 => .region ?_))
   refine .q rfl (.loadM ag_27_Hj rfl ⟨rfl, Mem.of_get b⟩) ?_
   refine .r0 rfl rfl (.fillA rfl sz_27_D rfl rfl rfl rfl) ?_
   rintro _ H22001x13 ⟨rfl, a7, h9⟩
   replace o := o.sA a7
   replace hs := hs.sA a7
   have f : NE gF g4 := .a
   replace aF := a7.s aF f.ne
   have m : NE gT g4 := .a
   replace aT := a7.s aT m.ne
   have d : NE gI g4 := .a
   replace aI := a7.s aI d.ne
   replace g7 := a7.s g7 (Ne.symm h2.ne)
   refine .nil (l2 _ _ ?_)
   refine .ret ?_
   refine e7 _ _ ?_
   refine ⟨_, _, _, _, rfl, ag_27_Hj, (by rfl), (Mem.of_get h9), ?_⟩
   have hR' := (hRR.st b8 offA).st a7 (.cons (hRR.lowNe (by omega)) (.nil _ _))
   obtain ⟨rr', T, k3, j5, k2, j9⟩ := bend_cut hR' (by omega) hgi rfl
   rw [Nat.zero_add, k3] at g7
   exact ⟨⟨c.obj, c.src, c.tgt, c.idn, T⟩, ownP gF gT gI gC rr', by simp [Cat.cells, ownP, j5], ⟨n1, n2, n3, (by rw [j5]; exact n4), k2 _ n5, n6⟩, (KIn.parts (c := ⟨c.obj, c.src, c.tgt, c.idn, T⟩) aF bF aT bT aI bI g7 bC j9).keep (.of_le (.refl _)) (by omega), o, hs⟩
  try simp only [sps] at n9
  refine .skip ?_
  refine i2 _ _ (.seq (fun K33 m8 => .region ?_))
  refine .q rfl (.loadM ag_27_Hj rfl ⟨rfl, Mem.of_get b⟩) ?_
  refine .r0 rfl rfl (.fillA rfl sz_27_D rfl rfl rfl rfl) ?_
  rintro _ H22001x14 ⟨rfl, b6, h8⟩
  replace o := o.sA b6
  replace hs := hs.sA b6
  have f : NE gF g4 := .a
  replace aF := b6.s aF f.ne
  have m : NE gT g4 := .a
  replace aT := b6.s aT m.ne
  have d : NE gI g4 := .a
  replace aI := b6.s aI d.ne
  have n : NE gC g4 := .a
  replace aC := b6.s aC n.ne
  refine .nil (m8 _ _ ?_)
  refine .ret ?_
  refine e7 _ _ ?_
  refine ⟨_, _, _, _, rfl, ag_27_Hj, (by rfl), (Mem.of_get h8), ?_⟩
  have hR' := (hRR.st b8 offA).st b6 (.cons (hRR.lowNe (by omega)) (.nil _ _))
  exact ⟨c, ownP gF gT gI gC rr, rfl, hsm, (KIn.own aF bF aT bT aI bI aC bC hR').keep (.of_le (.refl _)) (by omega), o, hs⟩
end Go.Proofs.Ytfanjkbaemhbmaa
