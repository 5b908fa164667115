/- Products of drawn categories, with their form. No condition but those of each statement. -/
import Derived.Test.YtfanjkbaemhbmaaZ11
namespace Go.Proofs.Ytfanjkbaemhbmaa
open Go Go.GL Go.RowKit Go.Proofs
set_option maxHeartbeats 8000000 in
theorem l03ProductG_c {c d : Cat} {p q : CatP} {H : GHeap} (hin : c.In H p := by assumption) (hin1 : d.In H q := by assumption) (gc : c.Good 256) (gd : d.Good 128) :
    GCalls Try.prog 104 [.agg (c.cells p).toArray, .agg (d.cells q).toArray] H (NewGd 2 24 33000 (c.obj * d.obj) H) := by
  have hc := gc.r
  have hd := gd.r
  obtain ⟨a1, _, _, a4, a5, _, a7, _, a9, aO⟩ := id hc
  obtain ⟨b1, _, _, b4, b5, _, b7, _, b9, z8⟩ := id hd
  have _ := mul_bd a1 b1
  refine GCalls.body (N := 174) (rs := [.cell 4 27]) Try.func104 rfl rfl rfl rfl (fun Qx w5 hend => ?_)
  refine .fg [0, 1] rfl ?_
  have l := GHeap.Le.refl H
  have i := hin
  have e := hin1
  refine .seq (fun K1 z0 => .region ?_)
  refine .R rfl (.boxR rfl sz_27_D rfl) ?_
  rintro _ _ ⟨g2, rfl, z6, _, m⟩
  replace l := l.trans z6
  have _ := GHeap.ltg m
  replace hin := i.mono l
  have u : Cat.At _ g2 0 c p := ⟨Mem.of_get m, hin⟩
  refine .R rfl (.boxR rfl sz_27_D rfl) ?_
  rintro _ _ ⟨g3, rfl, y2, _, n⟩
  replace l := l.trans y2
  replace m := y2.2 _ _ m
  have _ := GHeap.ltg n
  replace hin := i.mono l
  replace hin1 := e.mono l
  clear u
  have u : Cat.At _ g2 0 c p := ⟨Mem.of_get m, hin⟩
  have v : Cat.At _ g3 0 d q := ⟨Mem.of_get n, hin1⟩
  refine .R rfl (.allocR rfl ze_27_I rfl) ?_
  rintro _ _ ⟨g4, rfl, t5, _, l6⟩
  replace l := l.trans t5
  replace m := t5.2 _ _ m
  replace n := t5.2 _ _ n
  have _ := GHeap.ltg l6
  replace hin := i.mono l
  replace hin1 := e.mono l
  clear u
  have u : Cat.At _ g2 0 c p := ⟨Mem.of_get m, hin⟩
  obtain ⟨u3, -, -, -, -, -, -, -, -⟩ := u.get
  clear v
  have v : Cat.At _ g3 0 d q := ⟨Mem.of_get n, hin1⟩
  obtain ⟨z7, s8, -, -, -, -, -, -, -⟩ := v.get
  refine .nil (z0 _ _ (.seq (fun K2 aI => ?_)))
  refine .regionD mo_B (.qs [0, 1, 2, 3, 4, 5, 6] (.done)) (by kernel_rfl) ?_
  refine .q rfl (.fieldAddr fo_27_0_B rfl) ?_
  refine .q rfl (.load on_2_A rfl (by first | assumption | exact Mem.of_get n 0 _ rfl)) ?_
  refine .q rfl (.fieldAddr fo_27_1_B rfl) ?_
  refine .q rfl (.load on_24_B rfl (by first | assumption | exact Mem.of_get n 1 _ rfl)) ?_
  refine .q rfl (.len sl_24_A rfl) (.mv rfl rfl (.mv rfl rfl (.done (aI _ _ (.seq (fun K3 aK => .region (.q rfl (.fieldAddr fo_27_0_B rfl) ?_)))))))
  refine .q rfl (.load on_2_A rfl (by first | assumption | exact Mem.of_get m 0 _ rfl)) ?_
  refine .mv rfl ?_
  refine .q rfl (.mul rfl rfl rfl (by omega) (by omega)) ?_
  refine .R rfl (.litA rfl sl_24_A ze_2_L rfl rfl rfl rfl) ?_
  rintro _ z1 ⟨n2, rfl, o4, _, e7⟩
  replace l := l.trans o4
  replace m := o4.2 _ _ m
  replace n := o4.2 _ _ n
  replace l6 := o4.2 _ _ l6
  have _ := GHeap.ltg e7
  replace hin := i.mono l
  replace hin1 := e.mono l
  clear u u3
  have u : Cat.At _ g2 0 c p := ⟨Mem.of_get m, hin⟩
  clear v z7 s8
  have v : Cat.At _ g3 0 d q := ⟨Mem.of_get n, hin1⟩
  replace e7 : GHeap.get z1 n2 = some (.row (ints []) 2 true) := e7
  refine .R rfl (.litA rfl sl_24_A ze_2_L rfl rfl rfl rfl) ?_
  rintro _ z2 ⟨n7, rfl, n0, _, f7⟩
  replace l := l.trans n0
  replace m := n0.2 _ _ m
  replace n := n0.2 _ _ n
  replace l6 := n0.2 _ _ l6
  replace e7 := n0.2 _ _ e7
  have _ := GHeap.ltg f7
  replace hin := i.mono l
  replace hin1 := e.mono l
  clear u
  have u : Cat.At _ g2 0 c p := ⟨Mem.of_get m, hin⟩
  clear v
  have v : Cat.At _ g3 0 d q := ⟨Mem.of_get n, hin1⟩
  replace f7 : GHeap.get z2 n7 = some (.row (ints []) 2 true) := f7
  refine .R rfl (.litA rfl sl_24_A ze_2_L rfl rfl rfl rfl) ?_
  rintro _ y9 ⟨o1, rfl, m8, _, l3⟩
  replace l := l.trans m8
  replace m := m8.2 _ _ m
  replace n := m8.2 _ _ n
  replace l6 := m8.2 _ _ l6
  replace e7 := m8.2 _ _ e7
  replace f7 := m8.2 _ _ f7
  have _ := GHeap.ltg l3
  replace hin := i.mono l
  replace hin1 := e.mono l
  clear u
  have u : Cat.At _ g2 0 c p := ⟨Mem.of_get m, hin⟩
  clear v
  have v : Cat.At _ g3 0 d q := ⟨Mem.of_get n, hin1⟩
  replace l3 : GHeap.get y9 o1 = some (.row (ints []) 2 true) := l3
  refine .R rfl (.litA rfl sl_25_B ze_24_Hj rfl rfl rfl rfl) ?_
  rintro _ _ ⟨o0, rfl, m2, _, l9⟩
  replace l := l.trans m2
  replace m := m2.2 _ _ m
  replace n := m2.2 _ _ n
  replace l6 := m2.2 _ _ l6
  replace e7 := m2.2 _ _ e7
  replace f7 := m2.2 _ _ f7
  replace l3 := m2.2 _ _ l3
  have _ := GHeap.ltg l9
  replace hin := i.mono l
  replace hin1 := e.mono l
  clear u
  have u : Cat.At _ g2 0 c p := ⟨Mem.of_get m, hin⟩
  clear v
  have v : Cat.At _ g3 0 d q := ⟨Mem.of_get n, hin1⟩
  refine .q rfl (.build bt_27_Hj rfl rfl rfl) ?_
  refine .R rfl (.allocR rfl ze_27_I rfl) ?_
  rintro _ _ ⟨g7, rfl, o5, _, _⟩
  have _ := o5.1
  replace l := l.trans o5
  replace m := o5.2 _ _ m
  replace n := o5.2 _ _ n
  replace l6 := o5.2 _ _ l6
  replace e7 := o5.2 _ _ e7
  replace f7 := o5.2 _ _ f7
  replace l3 := o5.2 _ _ l3
  replace l9 := o5.2 _ _ l9
  replace hin := i.mono l
  replace hin1 := e.mono l
  clear u
  have u : Cat.At _ g2 0 c p := ⟨Mem.of_get m, hin⟩
  clear v
  have v : Cat.At _ g3 0 d q := ⟨Mem.of_get n, hin1⟩
  refine .r0 rfl rfl (.fillA rfl sz_27_D rfl rfl rfl rfl) ?_
  rintro _ p4 ⟨rfl, d6, _⟩
  have _ := d6.nx
  replace l := l.st d6 (fun k hk => ⟨by omega, trivial⟩)
  have b0 : NE g2 g7 := .a
  replace m := d6.s m b0.ne
  have a0 : NE g3 g7 := .a
  replace n := d6.s n a0.ne
  have h6 : NE g4 g7 := .a
  replace l6 := d6.s l6 h6.ne
  have k7 : NE n2 g7 := .a
  replace e7 := d6.s e7 k7.ne
  have k4 : NE n7 g7 := .a
  replace f7 := d6.s f7 k4.ne
  replace l3 := d6.s l3
  have k1 : NE o0 g7 := .a
  replace l9 := d6.s l9 k1.ne
  replace hin := i.mono l
  replace hin1 := e.mono l
  clear u
  have u : Cat.At _ g2 0 c p := ⟨Mem.of_get m, hin⟩
  clear v
  have v : Cat.At _ g3 0 d q := ⟨Mem.of_get n, hin1⟩
  refine .nil (aK _ _ (.seq (fun K4 aG => .seq (fun K5 aU => .region (.mv rfl (.nil (aU _ _ (.block ?_))))))))
  refine .loopF (σ := Nat × List Int × Nat) [2, 3, 4, 5, 6, 7] (fun (x, is, gLI) => [(8, some (.int .i64 (x : Int)))]) (fun (x, is, gLI) H' => St [o1, g7] p4 H' ∧ H'.get gLI = some (.row (ints is) 2 true) ∧ PL gLI o1 p4.next ∧ H'.get g7 = some (.row ([.int .i64 (c.obj * d.obj), .slice (some ⟨n2, 0, none⟩) 0 0, .slice (some ⟨n7, 0, none⟩) 0 0, .slice (some ⟨gLI, 0, none⟩) is.length is.length, .slice (some ⟨o0, 0, none⟩) 0 0]) 27 true) ∧ gLI ≠ g7 ∧ ((x : Int) ≤ c.obj ∧ (is.length : Int) = (x : Int) * d.obj) ∧ AtP d.obj.toNat (prV d.src.length c.idn d.idn) is ∧ Bd 0 33000 is) (fun (x, is, gLI) => (c.obj - x : Int).toNat) ((0, [], o1)) rfl (.p rfl) ?_ ?_
  ·
   refine ⟨.refl _ _, by assumption, ⟨.inl rfl⟩, by assumption, by omega, ?_⟩
   exact ⟨⟨by omega, by simp⟩, .nil _ _, .nil _ _⟩
  rintro ⟨x, is, gLI⟩ HL1 ⟨h2, j8, e3, t, q8, hI⟩ _ w0
  dsimp only [cA, nA]
  have _ : H.next ≤ gLI := e3.ge (by omega) (by omega)
  have _ := h2.nx
  replace l := l.st h2 (fun k hk => ⟨by omega, by omega, trivial⟩)
  have j0 : NE g2 o1 := .a
  replace m := h2.same _ _ ⟨j0.ne, b0.ne, trivial⟩ m
  have i8 : NE g3 o1 := .a
  replace n := h2.same _ _ ⟨i8.ne, a0.ne, trivial⟩ n
  have j2 : NE g4 o1 := .a
  replace l6 := h2.same _ _ ⟨j2.ne, h6.ne, trivial⟩ l6
  have h1 : NE n2 o1 := .a
  replace e7 := h2.same _ _ ⟨h1.ne, k7.ne, trivial⟩ e7
  have h7 : NE n7 o1 := .a
  replace f7 := h2.same _ _ ⟨h7.ne, k4.ne, trivial⟩ f7
  have h0 : NE o0 o1 := .a
  replace l9 := h2.same _ _ ⟨h0.ne, k1.ne, trivial⟩ l9
  have _ := GHeap.ltg j8
  replace hin := i.mono l
  replace hin1 := e.mono l
  clear u
  have u : Cat.At _ g2 0 c p := ⟨Mem.of_get m, hin⟩
  obtain ⟨u3, -, -, -, -, -, -, -, -⟩ := u.get
  clear v
  have v : Cat.At _ g3 0 d q := ⟨Mem.of_get n, hin1⟩
  obtain ⟨⟨_, hl⟩, hAI, hB⟩ := hI
  have _ := mul_bd (a := (x : Int)) (by omega) b1
  refine .seq (fun K6 aF => .seq (fun K7 aN => .region (.mv rfl (.q rfl (.fieldAddr fo_27_0_B rfl) ?_))))
  refine .q rfl (.load on_2_A rfl (by first | assumption | exact Mem.of_get m 0 _ rfl)) ?_
  refine .q rfl (.cmp rfl rfl rfl) (.nil (aN _ _ ?_))
  refine .cond rfl ?_ ?_ <;> intro y3
  ·
   simp only [sps] at y3
   have _ := a7 x (by omega)
   refine .skip (aF _ _ (.seq (fun K8 z5 => .block (.seq (fun K9 aT => .region (.mv rfl (.nil (aT _ _ (.block ?_)))))))))
   refine .loopF (σ := Nat × List Int × Nat) [2, 3, 4, 5, 6, 7, 8] (fun (y, i2, l4) => [(9, some (.int .i64 (y : Int)))]) (fun (y, i2, l4) H' => St [gLI, g7] HL1 H' ∧ H'.get l4 = some (.row (ints i2) 2 true) ∧ PL l4 gLI HL1.next ∧ H'.get g7 = some (.row ([.int .i64 (c.obj * d.obj), .slice (some ⟨n2, 0, none⟩) 0 0, .slice (some ⟨n7, 0, none⟩) 0 0, .slice (some ⟨l4, 0, none⟩) i2.length i2.length, .slice (some ⟨o0, 0, none⟩) 0 0]) 27 true) ∧ l4 ≠ g7 ∧ ((y : Int) ≤ d.obj ∧ (i2.length : Int) = (x : Int) * d.obj + y) ∧ AtP d.obj.toNat (prV d.src.length c.idn d.idn) i2 ∧ Bd 0 33000 i2) (fun (y, i2, l4) => (d.obj - y : Int).toNat) ((0, is, gLI)) rfl (.p rfl) ?_ ?_
   ·
    refine ⟨.refl _ _, by assumption, ⟨.inl rfl⟩, by assumption, by omega, ?_⟩
    exact ⟨⟨by omega, by omega⟩, hAI, hB⟩
   rintro ⟨y, i2, l4⟩ _ ⟨g5, n5, k9, t, s7, hI⟩ _ x4
   dsimp only [cA, nA]
   have _ : H.next ≤ l4 := k9.ge (by omega) (by omega)
   have _ := g5.nx
   replace l := l.st g5 (fun k hk => ⟨by omega, by omega, trivial⟩)
   replace h2 := h2.st g5 (fun k hk ho => by simp only [out, and_true] at ho ⊢ <;> exact ⟨by first | exact ho | exact ho.1 | exact ho.2 | exact ho.2.1 | exact ho.2.2 | exact ho.2.2.1 | exact ho.2.2.2 | exact e3.ne (by first | exact ho | exact ho.1 | exact ho.2 | exact ho.2.1 | exact ho.2.2 | exact ho.2.2.1 | exact ho.2.2.2 | omega) (by omega) | omega, by first | exact ho | exact ho.1 | exact ho.2 | exact ho.2.1 | exact ho.2.2 | exact ho.2.2.1 | exact ho.2.2.2 | omega⟩)
   have j4 : NE g2 gLI := ⟨e3.ne j0.ne (by omega)⟩
   replace m := g5.same _ _ ⟨j4.ne, b0.ne, trivial⟩ m
   have k8 : NE g3 gLI := ⟨e3.ne i8.ne (by omega)⟩
   replace n := g5.same _ _ ⟨k8.ne, a0.ne, trivial⟩ n
   have m7 := GHeap.ltg t
   replace hin := i.mono l
   replace hin1 := e.mono l
   clear u u3
   have u : Cat.At _ g2 0 c p := ⟨Mem.of_get m, hin⟩
   obtain ⟨-, -, -, z3, -, -, -, aP, -⟩ := u.get
   clear v
   have v : Cat.At _ g3 0 d q := ⟨Mem.of_get n, hin1⟩
   obtain ⟨-, -, -, y8, -, -, -, z9, -⟩ := v.get
   obtain ⟨⟨_, hl⟩, hAI, hB⟩ := hI
   refine .seq (fun K10 t3 => .seq (fun K11 u5 => .region (.mv rfl (.mv rfl (.q rfl (.cmp rfl rfl rfl) (.nil (u5 _ _ ?_)))))))
   refine .cond rfl ?_ ?_ <;> intro y0
   ·
    simp only [sps] at y0
    have r2 := b7 y (by omega)
    have _ := mul_bd (a := c.idn.getD x 0) (b := (d.src.length : Int)) (by omega) (by omega)
    refine .skip (t3 _ _ (.seq (fun K12 v0 => .block ?_)))
    refine .regionD mo_B (.qs [0, 1, 2, 3, 4, 5, 6, 7, 8, 9, 10, 11, 12, 13, 14] (.c 15 1 (.c 16 0 (.q 17 (.c 18 0 (.done)))))) (by kernel_rfl) ?_
    refine .q rfl (.fieldAddr fo_27_3_B rfl) ?_
    refine .q rfl (.load on_24_B rfl (by first | assumption | exact Mem.of_get t 3 _ rfl)) ?_
    refine .q rfl (.fieldAddr fo_27_3_B rfl) ?_
    refine .q rfl (.load on_24_B rfl (by first | assumption | exact Mem.of_get m 3 _ rfl)) ?_
    refine .mv rfl rfl (.q rfl (.iN sl_24_A rfl rfl) (.q rfl (.lI on_2_A rfl) (.mv rfl rfl ?_)))
    refine .q rfl (.mul rfl rfl rfl (by omega) (by omega)) ?_
    refine .q rfl (.fieldAddr fo_27_3_B rfl) ?_
    refine .q rfl (.load on_24_B rfl (by first | assumption | exact Mem.of_get n 3 _ rfl)) ?_
    refine .mv rfl rfl (.q rfl (.iN sl_24_A rfl rfl) (.q rfl (.lI on_2_A rfl) (.q rfl (.aD rfl rfl rfl) ?_)))
    refine .c1 rfl rfl rfl rfl (.litA rfl sl_24_A ze_2_L rfl rfl rfl rfl) ?_
    rintro _ _ ⟨_, rfl, m3, _, t4⟩
    have r8 := m3
    refine ⟨r8, ?_⟩
    replace l := l.trans m3
    replace g5 := g5.le m3
    replace m := m3.2 _ _ m
    replace n := m3.2 _ _ n
    replace n5 := m3.2 _ _ n5
    replace t := m3.2 _ _ t
    have _ := GHeap.ltg t4
    replace hin := i.mono l
    replace hin1 := e.mono l
    clear u z3 aP
    have u : Cat.At _ g2 0 c p := ⟨Mem.of_get m, hin⟩
    clear v y8 z9
    have v : Cat.At _ g3 0 d q := ⟨Mem.of_get n, hin1⟩
    refine .c0 rfl rfl rfl rfl (.apI rfl sl_24_A ze_2_L rfl by_2_L sl_24_A rfl rfl) ?_
    rintro _ _ ⟨aL, rfl, m9, _, q6⟩
    replace l := l.st m9 (fun k hk => ⟨by omega, trivial⟩)
    replace g5 := g5.sQ m9
    replace m := m9.same _ _ ⟨(k9.ne j4.ne (by omega)), trivial⟩ m
    replace n := m9.same _ _ ⟨(k9.ne k8.ne (by omega)), trivial⟩ n
    replace t := m9.same _ _ ⟨(Ne.symm s7), trivial⟩ t
    replace hin := i.mono l
    replace hin1 := e.mono l
    clear u
    have u : Cat.At _ g2 0 c p := ⟨Mem.of_get m, hin⟩
    clear v
    have v : Cat.At _ g3 0 d q := ⟨Mem.of_get n, hin1⟩
    refine .q rfl (.fieldAddr fo_27_3_B rfl) ?_
    refine .r0 rfl rfl rfl (.storeR rfl sz_24_Ch rfl rfl rfl (by assumption) (by first | exact Nat.le_of_ble_eq_true rfl | (simp; done) | (simp <;> omega))) ?_
    rintro _ _ ⟨rfl, i0, p8⟩
    replace l := l.st i0 (fun k hk => ⟨by omega, trivial⟩)
    replace g5 := g5.sA i0
    replace m := i0.s m b0.ne
    replace n := i0.s n a0.ne
    replace q6 := i0.s q6
    replace hin := i.mono l
    replace hin1 := e.mono l
    clear u
    have u : Cat.At _ g2 0 c p := ⟨Mem.of_get m, hin⟩
    clear v
    have v : Cat.At _ g3 0 d q := ⟨Mem.of_get n, hin1⟩
    try simp only [Nat.zero_add, List.set_cons_succ, List.set_cons_zero] at p8
    refine .done (v0 _ _ (.region (.mv rfl (.q rfl (.aD rfl rfl rfl) (.mv rfl (.nil ?_))))))
    refine x4 ((y + 1, i2 ++ [c.idn.getD x 0 * (d.src.length : Int) + d.idn.getD y 0], aL)) _ _ ?_ ?_ (.p rfl)
    ·
     refine ⟨g5, by assumption, by exact ⟨.inr (by omega)⟩, by (rw [List.length_append]; assumption), by omega, ?_⟩
     exact ⟨⟨by omega, by simp; omega⟩, hAI.snoc (by omega) (lenI b1.1 hl) rfl, hB.snoc (by omega) (by omega)⟩
    (dsimp only; omega)
   try simp only [sps] at y0
   refine .exit (z5 _ _ (.region (.mv rfl (.q rfl (.aD rfl rfl rfl) (.mv rfl (.nil ?_))))))
   refine w0 ((x + 1, i2, l4)) _ _ ?_ ?_ (.p rfl)
   ·
    refine ⟨h2, by assumption, by exact k9.trans e3 (by omega), by assumption, by assumption, ?_⟩
    have e1 := smz x d.obj
    exact ⟨⟨by omega, by omega⟩, hAI, hB⟩
   (dsimp only; omega)
  try simp only [sps] at y3
  refine .exit (aG _ _ (.seq (fun K13 x7 => .seq (fun K14 w7 => .region ?_))))
  obtain rfl : x = c.obj.toNat := by omega
  refine .mv rfl (.nil (w7 _ _ (.block ?_)))
  refine .loopF (σ := Nat × List Int × List Int × (Nat → Option Addr) × List (List Int) × Nat × Nat × Nat) [2, 3, 4, 5, 6, 7] (fun (a, ss, ts, rr, cs, gLF, gLT, gLC) => [(10, some (.int .i64 (a : Int)))]) (fun (a, ss, ts, rr, cs, gLF, gLT, gLC) H' => St [n2, n7, o0, g7] HL1 H' ∧ H'.get gLF = some (.row (ints ss) 2 true) ∧ PL gLF n2 HL1.next ∧ H'.get gLT = some (.row (ints ts) 2 true) ∧ PL gLT n7 HL1.next ∧ H'.get gLC = some (.row ((slsL rr cs)) 24 true) ∧ PL gLC o0 HL1.next ∧ H'.get g7 = some (.row ([.int .i64 (c.obj * d.obj), .slice (some ⟨gLF, 0, none⟩) ss.length ss.length, .slice (some ⟨gLT, 0, none⟩) ss.length ss.length, .slice (some ⟨gLI, 0, none⟩) is.length is.length, .slice (some ⟨gLC, 0, none⟩) ss.length ss.length]) 27 true) ∧ gLF ≠ gLT ∧ gLF ≠ gLC ∧ gLF ≠ g7 ∧ gLT ≠ gLC ∧ gLT ≠ g7 ∧ gLC ≠ g7 ∧ (a ≤ c.src.length ∧ ss.length = a * d.src.length ∧ ts.length = ss.length ∧ cs.length = ss.length) ∧ Bd 0 33000 ss ∧ Bd 0 33000 ts ∧ Tb (-1) 33000 (c.src.length * d.src.length) cs ∧ (AtP d.src.length (prV d.obj c.src d.src) ss ∧ AtP d.src.length (prV d.obj c.tgt d.tgt) ts ∧ AtT d.src.length (fun a b row => AtP d.src.length (prC c d a b) row) cs) ∧ OwnL H.next H' 2 rr cs ∧ (∀ j, j < cs.length → rr j ≠ some ⟨gLF, 0, none⟩) ∧ (∀ j, j < cs.length → rr j ≠ some ⟨gLT, 0, none⟩) ∧ ∀ j, j < cs.length → rr j ≠ some ⟨gLI, 0, none⟩) (fun (a, ss, ts, rr, cs, gLF, gLT, gLC) => c.src.length - a) ((0, [], [], fun _ => none, [], n2, n7, o0)) rfl (.p rfl) ?_ ?_
  ·
   refine ⟨.refl _ _, by assumption, ⟨.inl rfl⟩, by assumption, ⟨.inl rfl⟩, by assumption, ⟨.inl rfl⟩, by assumption, by omega, by omega, by omega, by omega, by omega, by omega, ?_⟩
   exact ⟨⟨by omega, by simp, rfl, rfl⟩, .nil _ _, .nil _ _, .nil _ _ _, ⟨.nil _ _, .nil _ _, .nil _ _⟩, .nil _ _ _ _, fun _ h => by simp at h, fun _ h => by simp at h, fun _ h => by simp at h⟩
  rintro ⟨a, ss, ts, rr, cs, gLF, gLT, gLC⟩ HL3 ⟨l5, m4, h8, n9, h4, n4, j3, t, _, _, _, _, _, _, hI⟩ _ w8
  dsimp only [cA, nA]
  have _ : H.next ≤ gLF := h8.ge (by omega) (by omega)
  have _ : H.next ≤ gLT := h4.ge (by omega) (by omega)
  have _ : H.next ≤ gLC := j3.ge (by omega) (by omega)
  have _ := l5.nx
  replace l := l.st l5 (fun k hk => ⟨by omega, by omega, by omega, by omega, trivial⟩)
  have i4 : NE g2 n2 := .a
  have j9 : NE g2 n7 := .a
  have k2 : NE g2 o0 := .a
  replace m := l5.same _ _ ⟨i4.ne, j9.ne, k2.ne, b0.ne, trivial⟩ m
  have k5 : NE g3 n2 := .a
  have j7 : NE g3 n7 := .a
  have i9 : NE g3 o0 := .a
  replace n := l5.same _ _ ⟨k5.ne, j7.ne, i9.ne, a0.ne, trivial⟩ n
  have j6 : NE g4 n2 := .a
  have k0 : NE g4 n7 := .a
  have k6 : NE g4 o0 := .a
  replace l6 := l5.same _ _ ⟨j6.ne, k0.ne, k6.ne, h6.ne, trivial⟩ l6
  replace j8 := l5.same _ _ ⟨(Ne.symm (e3.ne h1.ne (by omega))), (Ne.symm (e3.ne h7.ne (by omega))), (Ne.symm (e3.ne h0.ne (by omega))), q8, trivial⟩ j8
  have _ := GHeap.ltg m4
  replace hin := i.mono l
  replace hin1 := e.mono l
  have u : Cat.At _ g2 0 c p := ⟨Mem.of_get m, hin⟩
  obtain ⟨-, q4, -, -, -, -, -, -, -⟩ := u.get
  have v : Cat.At _ g3 0 d q := ⟨Mem.of_get n, hin1⟩
  obtain ⟨⟨_, v3, hts, hcl⟩, hS, hT, hC, t0, hR, s4, s3, s6⟩ := hI
  have _ := mulN_bd (a := a) (b := d.src.length) (by omega) (by omega)
  refine .seq (fun K15 x3 => .seq (fun K16 t7 => .region (.mv rfl (.q rfl (.fieldAddr fo_27_1_B rfl) ?_))))
  refine .q rfl (.load on_24_B rfl (by first | assumption | exact Mem.of_get m 1 _ rfl)) ?_
  refine .q rfl (.len sl_24_A rfl) (.q rfl (.cmp rfl rfl rfl) (.nil (t7 _ _ ?_)))
  refine .cond rfl ?_ ?_ <;> intro y7
  ·
   simp only [sps] at y7
   have _ := a4 a (by omega)
   have _ := a5 a (by omega)
   refine .skip (x3 _ _ (.seq (fun K17 u4 => .block (.seq (fun K18 u8 => .region (.mv rfl (.nil (u8 _ _ (.block ?_)))))))))
   refine .loopF (σ := Nat × List Int × List Int × (Nat → Option Addr) × List (List Int) × Nat × Nat × Nat) [2, 3, 4, 5, 6, 7, 10] (fun (b, s2, t2, r2, c2, f8, f6, f4) => [(11, some (.int .i64 (b : Int)))]) (fun (b, s2, t2, r2, c2, f8, f6, f4) H' => St [gLF, gLT, gLC, g7] HL3 H' ∧ H'.get f8 = some (.row (ints s2) 2 true) ∧ PL f8 gLF HL3.next ∧ H'.get f6 = some (.row (ints t2) 2 true) ∧ PL f6 gLT HL3.next ∧ H'.get f4 = some (.row ((slsL r2 c2)) 24 true) ∧ PL f4 gLC HL3.next ∧ H'.get g7 = some (.row ([.int .i64 (c.obj * d.obj), .slice (some ⟨f8, 0, none⟩) s2.length s2.length, .slice (some ⟨f6, 0, none⟩) s2.length s2.length, .slice (some ⟨gLI, 0, none⟩) is.length is.length, .slice (some ⟨f4, 0, none⟩) s2.length s2.length]) 27 true) ∧ f8 ≠ f6 ∧ f8 ≠ f4 ∧ f8 ≠ g7 ∧ f6 ≠ f4 ∧ f6 ≠ g7 ∧ f4 ≠ g7 ∧ (b ≤ d.src.length ∧ s2.length = a * d.src.length + b ∧ t2.length = s2.length ∧ c2.length = s2.length) ∧ Bd 0 33000 s2 ∧ Bd 0 33000 t2 ∧ Tb (-1) 33000 (c.src.length * d.src.length) c2 ∧ (AtP d.src.length (prV d.obj c.src d.src) s2 ∧ AtP d.src.length (prV d.obj c.tgt d.tgt) t2 ∧ AtT d.src.length (fun a b row => AtP d.src.length (prC c d a b) row) c2) ∧ OwnL H.next H' 2 r2 c2 ∧ (∀ j, j < c2.length → r2 j ≠ some ⟨f8, 0, none⟩) ∧ (∀ j, j < c2.length → r2 j ≠ some ⟨f6, 0, none⟩) ∧ ∀ j, j < c2.length → r2 j ≠ some ⟨gLI, 0, none⟩) (fun (b, s2, t2, r2, c2, f8, f6, f4) => d.src.length - b) ((0, ss, ts, rr, cs, gLF, gLT, gLC)) rfl (.p rfl) ?_ ?_
   ·
    refine ⟨.refl _ _, by assumption, ⟨.inl rfl⟩, by assumption, ⟨.inl rfl⟩, by assumption, ⟨.inl rfl⟩, by assumption, by omega, by omega, by omega, by omega, by omega, by omega, ?_⟩
    exact ⟨⟨by omega, by omega, by omega, by omega⟩, hS, hT, hC, t0, hR, s4, s3, s6⟩
   rintro ⟨b, s2, t2, r2, c2, f8, f6, f4⟩ HL4 ⟨c5, n6, l0, d8, l2, o, l1, t, r7, s1, s5, r6, p3, n8, hI⟩ _ v4
   dsimp only [cA, nA]
   have _ : H.next ≤ f8 := l0.ge (by omega) (by omega)
   have _ : H.next ≤ f6 := l2.ge (by omega) (by omega)
   have _ : H.next ≤ f4 := l1.ge (by omega) (by omega)
   have _ := c5.nx
   replace l := l.st c5 (fun k hk => ⟨by omega, by omega, by omega, by omega, trivial⟩)
   replace l5 := l5.st c5 (fun k hk ho => by simp only [out, and_true] at ho ⊢ <;> exact ⟨by first | exact ho | exact ho.1 | exact ho.2 | exact ho.2.1 | exact ho.2.2 | exact ho.2.2.1 | exact ho.2.2.2 | exact h8.ne (by first | exact ho | exact ho.1 | exact ho.2 | exact ho.2.1 | exact ho.2.2 | exact ho.2.2.1 | exact ho.2.2.2 | omega) (by omega) | omega, by first | exact ho | exact ho.1 | exact ho.2 | exact ho.2.1 | exact ho.2.2 | exact ho.2.2.1 | exact ho.2.2.2 | exact h4.ne (by first | exact ho | exact ho.1 | exact ho.2 | exact ho.2.1 | exact ho.2.2 | exact ho.2.2.1 | exact ho.2.2.2 | omega) (by omega) | omega, by first | exact ho | exact ho.1 | exact ho.2 | exact ho.2.1 | exact ho.2.2 | exact ho.2.2.1 | exact ho.2.2.2 | exact j3.ne (by first | exact ho | exact ho.1 | exact ho.2 | exact ho.2.1 | exact ho.2.2 | exact ho.2.2.1 | exact ho.2.2.2 | omega) (by omega) | omega, by first | exact ho | exact ho.1 | exact ho.2 | exact ho.2.1 | exact ho.2.2 | exact ho.2.2.1 | exact ho.2.2.2 | omega⟩)
   have k3 : NE g2 gLF := ⟨h8.ne i4.ne (by omega)⟩
   have j5 : NE g2 gLT := ⟨h4.ne j9.ne (by omega)⟩
   have i7 : NE g2 gLC := ⟨j3.ne k2.ne (by omega)⟩
   replace m := c5.same _ _ ⟨k3.ne, j5.ne, i7.ne, b0.ne, trivial⟩ m
   have i6 : NE g3 gLF := ⟨h8.ne k5.ne (by omega)⟩
   have i5 : NE g3 gLT := ⟨h4.ne j7.ne (by omega)⟩
   have j1 : NE g3 gLC := ⟨j3.ne i9.ne (by omega)⟩
   replace n := c5.same _ _ ⟨i6.ne, i5.ne, j1.ne, a0.ne, trivial⟩ n
   have _ := GHeap.ltg d8
   have _ := GHeap.ltg o
   have m7 := GHeap.ltg t
   replace hin := i.mono l
   replace hin1 := e.mono l
   clear u q4
   have u : Cat.At _ g2 0 c p := ⟨Mem.of_get m, hin⟩
   obtain ⟨-, q4, -, -, -, aM, -, -, -⟩ := u.get
   clear v
   have v : Cat.At _ g3 0 d q := ⟨Mem.of_get n, hin1⟩
   obtain ⟨-, s8, -, -, -, aB, -, -, -⟩ := v.get
   have rk := St.refl [f8, f6, f4, g7] HL4
   obtain ⟨⟨_, _, hts, hcl⟩, hS, hT, hC, ⟨y1, x9, y4⟩, hR, s4, s3, s6⟩ := hI
   have hatC := o
   have v9 := t
   have _ : (slsL r2 c2).length = c2.length := length_slsL _ _
   refine .seq (fun K19 x1 => .seq (fun K20 v7 => .region (.mv rfl (.q rfl (.fieldAddr fo_27_1_B rfl) ?_))))
   refine .q rfl (.load on_24_B rfl (by first | assumption | exact Mem.of_get n 1 _ rfl)) ?_
   refine .q rfl (.len sl_24_A rfl) (.q rfl (.cmp rfl rfl rfl) (.nil (v7 _ _ ?_)))
   refine .cond rfl ?_ ?_ <;> intro y5
   ·
    simp only [sps] at y5
    have _ := b4 b (by omega)
    have _ := b5 b (by omega)
    have _ := mul_bd (a := c.src.getD a 0) (by omega) b1
    have _ := mul_bd (a := c.tgt.getD a 0) (by omega) b1
    refine .skip (x1 _ _ (.seq (fun K21 x6 => .block (.seq (fun K22 w9 => ?_)))))
    refine .regionD mo_B (.qs [0, 1, 2, 3, 4, 5, 6, 7, 8, 9, 10, 11, 12, 13, 14] (.c 15 1 (.c 16 0 (.q 17 (.c 18 0 (.done)))))) (by kernel_rfl) ?_
    refine .q rfl (.fieldAddr fo_27_1_B rfl) ?_
    refine .q rfl (.load on_24_B rfl (by first | assumption | exact Mem.of_get t 1 _ rfl)) ?_
    refine .q rfl (.fieldAddr fo_27_1_B rfl) ?_
    refine .q rfl (.load on_24_B rfl (by first | assumption | exact Mem.of_get m 1 _ rfl)) ?_
    refine .mv rfl rfl (.q rfl (.iN sl_24_A rfl rfl) (.q rfl (.lI on_2_A rfl) (.mv rfl rfl ?_)))
    refine .q rfl (.mul rfl rfl rfl (by omega) (by omega)) ?_
    refine .q rfl (.fieldAddr fo_27_1_B rfl) ?_
    refine .q rfl (.load on_24_B rfl (by first | assumption | exact Mem.of_get n 1 _ rfl)) ?_
    refine .mv rfl rfl (.q rfl (.iN sl_24_A rfl rfl) (.q rfl (.lI on_2_A rfl) (.q rfl (.aD rfl rfl rfl) ?_)))
    refine .c1 rfl rfl rfl rfl (.litA rfl sl_24_A ze_2_L rfl rfl rfl rfl) ?_
    rintro _ _ ⟨_, rfl, i3, _, v6⟩
    have r8 := i3
    refine ⟨r8, ?_⟩
    replace l := l.trans i3
    replace c5 := c5.le i3
    replace rk := rk.le i3
    replace m := i3.2 _ _ m
    replace n := i3.2 _ _ n
    replace n6 := i3.2 _ _ n6
    replace d8 := i3.2 _ _ d8
    replace o := i3.2 _ _ o
    replace t := i3.2 _ _ t
    have _ := GHeap.ltg v6
    replace hin := i.mono l
    replace hin1 := e.mono l
    clear u q4 aM
    have u : Cat.At _ g2 0 c p := ⟨Mem.of_get m, hin⟩
    clear v s8 aB
    have v : Cat.At _ g3 0 d q := ⟨Mem.of_get n, hin1⟩
    refine .c0 rfl rfl rfl rfl (.apI rfl sl_24_A ze_2_L rfl by_2_L sl_24_A rfl rfl) ?_
    rintro _ _ ⟨s9, rfl, l7, _, e0⟩
    replace l := l.st l7 (fun k hk => ⟨by omega, trivial⟩)
    replace c5 := c5.sQ l7
    replace rk := rk.sQ l7
    replace m := l7.same _ _ ⟨(l0.ne k3.ne (by omega)), trivial⟩ m
    replace n := l7.same _ _ ⟨(l0.ne i6.ne (by omega)), trivial⟩ n
    replace d8 := l7.same _ _ ⟨(Ne.symm r7), trivial⟩ d8
    replace o := l7.same _ _ ⟨(Ne.symm s1), trivial⟩ o
    replace t := l7.same _ _ ⟨(Ne.symm s5), trivial⟩ t
    have _ := GHeap.ltg e0
    replace hin := i.mono l
    replace hin1 := e.mono l
    clear u
    have u : Cat.At _ g2 0 c p := ⟨Mem.of_get m, hin⟩
    clear v
    have v : Cat.At _ g3 0 d q := ⟨Mem.of_get n, hin1⟩
    refine .q rfl (.fieldAddr fo_27_1_B rfl) ?_
    refine .r0 rfl rfl rfl (.storeR rfl sz_24_Ch rfl rfl rfl (by assumption) (by first | exact Nat.le_of_ble_eq_true rfl | (simp; done) | (simp <;> omega))) ?_
    rintro _ _ ⟨rfl, c8, d9⟩
    have _ := c8.nx
    replace l := l.st c8 (fun k hk => ⟨by omega, trivial⟩)
    replace c5 := c5.sA c8
    replace rk := rk.sA c8
    replace m := c8.s m b0.ne
    replace n := c8.s n a0.ne
    replace d8 := c8.same _ _ ⟨p3, trivial⟩ d8
    replace o := c8.same _ _ ⟨n8, trivial⟩ o
    have f9 : NE s9 g7 := .a
    replace e0 := c8.s e0 f9.ne
    have _ := GHeap.ltg d9
    replace hin := i.mono l
    replace hin1 := e.mono l
    clear u
    have u : Cat.At _ g2 0 c p := ⟨Mem.of_get m, hin⟩
    obtain ⟨-, -, aS, -, -, -, aJ, -, -⟩ := u.get
    clear v
    have v : Cat.At _ g3 0 d q := ⟨Mem.of_get n, hin1⟩
    obtain ⟨-, -, aR, -, -, -, z4, -, -⟩ := v.get
    try simp only [Nat.zero_add, List.set_cons_succ, List.set_cons_zero] at d9
    refine .done (w9 _ _ (.seq (fun K23 w4 => ?_)))
    refine .regionD mo_B (.qs [0, 1, 2, 3, 4, 5, 6, 7, 8, 9, 10, 11, 12, 13, 14] (.c 15 1 (.c 16 0 (.q 17 (.c 18 0 (.done)))))) (by kernel_rfl) ?_
    refine .q rfl (.fieldAddr fo_27_2_B rfl) ?_
    refine .q rfl (.load on_24_B rfl (by first | assumption | exact Mem.of_get d9 2 _ rfl)) ?_
    refine .q rfl (.fieldAddr fo_27_2_B rfl) ?_
    refine .q rfl (.load on_24_B rfl (by first | assumption | exact Mem.of_get m 2 _ rfl)) ?_
    refine .mv rfl rfl (.q rfl (.iN sl_24_A rfl rfl) (.q rfl (.lI on_2_A rfl) (.mv rfl rfl ?_)))
    refine .q rfl (.mul rfl rfl rfl (by omega) (by omega)) ?_
    refine .q rfl (.fieldAddr fo_27_2_B rfl) ?_
    refine .q rfl (.load on_24_B rfl (by first | assumption | exact Mem.of_get n 2 _ rfl)) ?_
    refine .mv rfl rfl (.q rfl (.iN sl_24_A rfl rfl) (.q rfl (.lI on_2_A rfl) (.q rfl (.aD rfl rfl rfl) ?_)))
    refine .c1 rfl rfl rfl rfl (.litA rfl sl_24_A ze_2_L rfl rfl rfl rfl) ?_
    rintro _ _ ⟨_, rfl, e5, _, q9⟩
    have r8 := e5
    refine ⟨r8, ?_⟩
    replace l := l.trans e5
    replace c5 := c5.le e5
    replace rk := rk.le e5
    replace m := e5.2 _ _ m
    replace n := e5.2 _ _ n
    replace d8 := e5.2 _ _ d8
    replace o := e5.2 _ _ o
    replace e0 := e5.2 _ _ e0
    replace d9 := e5.2 _ _ d9
    have _ := GHeap.ltg q9
    replace hin := i.mono l
    replace hin1 := e.mono l
    clear u aS aJ
    have u : Cat.At _ g2 0 c p := ⟨Mem.of_get m, hin⟩
    clear v aR z4
    have v : Cat.At _ g3 0 d q := ⟨Mem.of_get n, hin1⟩
    refine .c0 rfl rfl rfl rfl (.apI rfl sl_24_A ze_2_L rfl by_2_L sl_24_A rfl rfl) ?_
    rintro _ _ ⟨o3, rfl, g1, _, d5⟩
    replace l := l.st g1 (fun k hk => ⟨by omega, trivial⟩)
    replace c5 := c5.sQ g1
    replace rk := rk.sQ g1
    replace m := g1.same _ _ ⟨(l2.ne j5.ne (by omega)), trivial⟩ m
    replace n := g1.same _ _ ⟨(l2.ne i5.ne (by omega)), trivial⟩ n
    replace o := g1.same _ _ ⟨(Ne.symm r6), trivial⟩ o
    replace e0 := g1.s e0
    replace d9 := g1.same _ _ ⟨(Ne.symm p3), trivial⟩ d9
    have _ := GHeap.ltg d5
    replace hin := i.mono l
    replace hin1 := e.mono l
    clear u
    have u : Cat.At _ g2 0 c p := ⟨Mem.of_get m, hin⟩
    clear v
    have v : Cat.At _ g3 0 d q := ⟨Mem.of_get n, hin1⟩
    refine .q rfl (.fieldAddr fo_27_2_B rfl) ?_
    refine .r0 rfl rfl rfl (.storeR rfl sz_24_Ch rfl rfl rfl (by assumption) (by first | exact Nat.le_of_ble_eq_true rfl | (simp; done) | (simp <;> omega))) ?_
    rintro _ _ ⟨rfl, d0, w⟩
    have _ := d0.nx
    replace l := l.st d0 (fun k hk => ⟨by omega, trivial⟩)
    replace c5 := c5.sA d0
    replace rk := rk.sA d0
    replace m := d0.s m b0.ne
    replace n := d0.s n a0.ne
    replace o := d0.same _ _ ⟨n8, trivial⟩ o
    replace e0 := d0.s e0 f9.ne
    have h9 : NE o3 g7 := .a
    replace d5 := d0.s d5 h9.ne
    have _ := GHeap.ltg w
    replace hin := i.mono l
    replace hin1 := e.mono l
    clear u
    have u : Cat.At _ g2 0 c p := ⟨Mem.of_get m, hin⟩
    clear v
    have v : Cat.At _ g3 0 d q := ⟨Mem.of_get n, hin1⟩
    try simp only [Nat.zero_add, List.set_cons_succ, List.set_cons_zero] at w
    refine .done (w4 _ _ (.seq (fun K24 u9 => .region ?_)))
    refine .R rfl (.litA rfl sl_24_A ze_2_L rfl rfl rfl rfl) ?_
    rintro _ q0 ⟨m1, rfl, f3, _, n1⟩
    replace l := l.trans f3
    replace c5 := c5.le f3
    replace rk := rk.le f3
    replace m := f3.2 _ _ m
    replace n := f3.2 _ _ n
    replace o := f3.2 _ _ o
    replace e0 := f3.2 _ _ e0
    replace d5 := f3.2 _ _ d5
    replace w := f3.2 _ _ w
    have _ := GHeap.ltg n1
    replace hin := i.mono l
    replace hin1 := e.mono l
    clear u
    have u : Cat.At _ g2 0 c p := ⟨Mem.of_get m, hin⟩
    clear v
    have v : Cat.At _ g3 0 d q := ⟨Mem.of_get n, hin1⟩
    replace n1 : GHeap.get q0 m1 = some (.row (ints []) 2 true) := n1
    refine .mv rfl (.nil (u9 _ _ (.seq (fun K25 u7 => .seq (fun K26 v5 => .region (.mv rfl (.nil (v5 _ _ (.block ?_)))))))))
    refine .loopF (σ := Nat × List Int × Nat × Nat) [2, 3, 4, 5, 6, 7, 10, 11] (fun (f, row, e4, m6) => [(13, some (.int .i64 (f : Int))), (12, some (.slice (some ⟨e4, 0, none⟩) m6 m6))]) (fun (f, row, e4, m6) H' => St [m1] q0 H' ∧ H'.get e4 = some (.row (ints row) 2 true) ∧ PL e4 m1 q0.next ∧ m6 = row.length ∧ (f ≤ c.src.length ∧ row.length = f * d.src.length) ∧ AtP d.src.length (prC c d a b) row ∧ Bd (-1) 33000 row) (fun (f, row, e4, m6) => c.src.length - f) ((0, [], _, _)) rfl (.p rfl) ?_ ?_
    ·
     refine ⟨.refl _ _, by assumption, ⟨.inl rfl⟩, by rfl, ?_⟩
     exact ⟨⟨by omega, by simp⟩, .nil _ _, .nil _ _⟩
    rintro ⟨f, row, e4, m6⟩ HL5 ⟨g0, e8, d2, p5, hI⟩ _ v8
    dsimp only [cA, nA]
    have _ : H.next ≤ e4 := d2.ge (by omega) (by omega)
    have _ := g0.nx
    replace l := l.st g0 (fun k hk => ⟨by omega, trivial⟩)
    replace c5 := c5.sA g0
    replace rk := rk.sA g0
    have i1 : NE g2 m1 := .a
    replace m := g0.s m i1.ne
    have g9 : NE g3 m1 := .a
    replace n := g0.s n g9.ne
    have f0 : NE f4 m1 := .a
    replace o := g0.s o f0.ne
    replace e0 := g0.s e0
    replace d5 := g0.s d5
    have h5 : NE g7 m1 := .a
    replace w := g0.s w h5.ne
    have _ := GHeap.ltg e8
    replace hin := i.mono l
    replace hin1 := e.mono l
    clear u
    have u : Cat.At _ g2 0 c p := ⟨Mem.of_get m, hin⟩
    obtain ⟨-, q4, -, -, -, -, -, -, -⟩ := u.get
    clear v
    have v : Cat.At _ g3 0 d q := ⟨Mem.of_get n, hin1⟩
    obtain ⟨⟨hf, hrl⟩, hWA, hW⟩ := hI
    have _ := mulN_bd (a := f) (b := d.src.length) (by omega) (by omega)
    refine .seq (fun K27 t8 => .seq (fun K28 u0 => .region (.mv rfl (.q rfl (.fieldAddr fo_27_1_B rfl) ?_))))
    refine .q rfl (.load on_24_B rfl (by first | assumption | exact Mem.of_get m 1 _ rfl)) ?_
    refine .q rfl (.len sl_24_A rfl) (.q rfl (.cmp rfl rfl rfl) (.nil (u0 _ _ ?_)))
    refine .cond rfl ?_ ?_ <;> intro r3
    ·
     simp only [sps] at r3
     refine .skip (t8 _ _ (.seq (fun K29 u6 => .block (.seq (fun K30 t6 => .region (.mv rfl (.nil (t6 _ _ (.block ?_)))))))))
     refine .loopF (σ := Nat × List Int × Nat × Nat) [2, 3, 4, 5, 6, 7, 10, 11, 13] (fun (g, w2, c6, f5) => [(14, some (.int .i64 (g : Int))), (12, some (.slice (some ⟨c6, 0, none⟩) f5 f5))]) (fun (g, w2, c6, f5) H' => St [e4] HL5 H' ∧ H'.get c6 = some (.row (ints w2) 2 true) ∧ PL c6 e4 HL5.next ∧ f5 = w2.length ∧ (g ≤ d.src.length ∧ w2.length = f * d.src.length + g) ∧ AtP d.src.length (prC c d a b) w2 ∧ Bd (-1) 33000 w2) (fun (g, w2, c6, f5) => d.src.length - g) ((0, row, _, _)) rfl (.p rfl) ?_ ?_
     ·
      refine ⟨.refl _ _, by assumption, ⟨.inl rfl⟩, by assumption, ?_⟩
      exact ⟨⟨by omega, by omega⟩, hWA, hW⟩
     rintro ⟨g, w2, c6, f5⟩ _ ⟨d4, d3, c7, _, hI⟩ _ q3
     dsimp only [cA, nA]
     have _ : H.next ≤ c6 := c7.ge (by omega) (by omega)
     have _ := d4.nx
     replace l := l.st d4 (fun k hk => ⟨by omega, trivial⟩)
     replace g0 := g0.sP d4
     have e2 : NE g2 e4 := ⟨d2.ne i1.ne (by omega)⟩
     replace m := d4.s m e2.ne
     have d7 : NE g3 e4 := ⟨d2.ne g9.ne (by omega)⟩
     replace n := d4.s n d7.ne
     replace hin := i.mono l
     replace hin1 := e.mono l
     clear u q4
     have u : Cat.At _ g2 0 c p := ⟨Mem.of_get m, hin⟩
     obtain ⟨-, -, -, -, aA, -, -, -, x8⟩ := u.get
     clear v
     have v : Cat.At _ g3 0 d q := ⟨Mem.of_get n, hin1⟩
     obtain ⟨-, s8, -, -, aH, -, -, -, y6⟩ := v.get
     obtain ⟨⟨_, hrl⟩, hWA, hW⟩ := hI
     refine .seq (fun K31 x0 => .seq (fun K32 t9 => .region (.mv rfl (.q rfl (.fieldAddr fo_27_1_B rfl) ?_))))
     refine .q rfl (.load on_24_B rfl (by first | assumption | exact Mem.of_get n 1 _ rfl)) ?_
     refine .q rfl (.len sl_24_A rfl) (.q rfl (.cmp rfl rfl rfl) (.nil (t9 _ _ ?_)))
     refine .cond rfl ?_ ?_ <;> intro q7
     ·
      simp only [sps] at q7
      have _ := aO a (by omega) f (by omega)
      have _ := z8 b (by omega) g (by omega)
      have _ := a9 a (by omega)
      have _ := b9 b (by omega)
      have u1 := x8.2 a (by omega)
      have u2 := y6.2 b (by omega)
      refine .skip (x0 _ _ (.seq (fun K33 p7 => .block (.seq (fun K34 w6 => .region (.mv rfl (.nil (w6 _ _ (.seq (fun K35 p6 => .seq (fun K36 r9 => .region (.q rfl (.fieldAddr fo_27_4_B rfl) ?_))))))))))))
      refine .q rfl (.load on_25_B rfl (by first | assumption | exact Mem.of_get m 4 _ rfl)) ?_
      refine .mv rfl ?_
      refine .q rfl (.idxN sl_25_B (Intss.sl (by assumption)) rfl rfl (by omega)) ?_
      refine .q rfl (.loadR on_24_B (by assumption) rfl (by omega)) ?_
      refine .mv rfl (.q rfl (.iN sl_24_A rfl rfl) (.q rfl (.lI on_2_A rfl) (.q rfl (.cmp rfl rfl rfl) (.mv rfl ?_))))
      refine .split (fun p9 => ?_) (fun p9 => ?_)
      ·
       simp only [sps] at p9
       refine .qg rfl (.fieldAddr fo_27_4_B rfl) ?_
       refine .qg rfl (.load on_25_B rfl (by first | assumption | exact Mem.of_get n 4 _ rfl)) ?_
       refine .qg rfl (.move rfl) ?_
       refine .qg rfl (.idxN sl_25_B (Intss.sl (by assumption)) rfl rfl (by omega)) ?_
       refine .qg rfl (.loadR on_24_B (by assumption) rfl (by omega)) ?_
       refine .qg rfl (.move rfl) (.qg rfl (.iN sl_24_A rfl rfl) (.qg rfl (.lI on_2_A rfl) (.qg rfl (.cmp rfl rfl rfl) (.q rfl (.pickT rfl rfl) (.nil (r9 _ _ ?_))))))
       refine .cond rfl ?_ ?_ <;> intro r4
       ·
        simp only [sps] at r4
        have _ := mul_bd (a := (c.comp.getD a []).getD f 0) (b := (d.src.length : Int)) (by omega) (by omega)
        obtain ⟨h3, o9, n3⟩ : ∃ h3, h3 = (c.comp.getD a []).getD f 0 * (d.src.length : Int) + (d.comp.getD b []).getD g 0 ∧ -1 ≤ h3 ∧ h3 ≤ 33000 := ⟨_, rfl, by omega, by omega⟩
        have s0 : h3 = prC c d a b f g := by rw [o9]; exact (if_pos ⟨by omega, by omega⟩).symm
        refine .regionD mo_B (.qs [0, 1, 2, 3, 4, 5, 6, 7, 8, 9, 10, 11, 12, 13, 14, 15, 16, 17, 18, 19] (.done)) (by kernel_rfl) ?_
        refine .q rfl (.fieldAddr fo_27_4_B rfl) ?_
        refine .q rfl (.load on_25_B rfl (by first | assumption | exact Mem.of_get m 4 _ rfl)) ?_
        refine .mv rfl rfl ?_
        refine .q rfl (.idxN sl_25_B (Intss.sl (by assumption)) rfl rfl (by omega)) ?_
        refine .q rfl (.loadR on_24_B (by assumption) rfl (by omega)) ?_
        refine .mv rfl rfl (.q rfl (.iN sl_24_A rfl rfl) (.q rfl (.lI on_2_A rfl) (.mv rfl rfl ?_)))
        refine .q rfl (.mul rfl rfl rfl (by omega) (by omega)) ?_
        refine .q rfl (.fieldAddr fo_27_4_B rfl) ?_
        refine .q rfl (.load on_25_B rfl (by first | assumption | exact Mem.of_get n 4 _ rfl)) ?_
        refine .mv rfl rfl ?_
        refine .q rfl (.idxN sl_25_B (Intss.sl (by assumption)) rfl rfl (by omega)) ?_
        refine .q rfl (.loadR on_24_B (by assumption) rfl (by omega)) ?_
        refine .mv rfl rfl (.q rfl (.iN sl_24_A rfl rfl) (.q rfl (.lI on_2_A rfl) (.q rfl (.aD rfl rfl rfl) (.mv rfl rfl (.done (p6 _ _ (.region (.mv rfl (.mv rfl ?_)))))))))
        refine .R rfl (.litA rfl sl_24_A ze_2_L rfl rfl rfl rfl) ?_
        rintro _ _ ⟨_, rfl, l8, _, q5⟩
        replace l := l.trans l8
        replace d4 := d4.le l8
        replace m := l8.2 _ _ m
        replace n := l8.2 _ _ n
        replace d3 := l8.2 _ _ d3
        have _ := GHeap.ltg q5
        replace hin := i.mono l
        replace hin1 := e.mono l
        clear u aA x8
        have u : Cat.At _ g2 0 c p := ⟨Mem.of_get m, hin⟩
        clear v s8 aH y6
        have v : Cat.At _ g3 0 d q := ⟨Mem.of_get n, hin1⟩
        clear u1 u2
        refine .R rfl (.apI rfl sl_24_A ze_2_L rfl by_2_L sl_24_A rfl rfl) ?_
        rintro _ _ ⟨_, rfl, m5, _, _⟩
        replace l := l.st m5 (fun k hk => ⟨by omega, trivial⟩)
        replace d4 := d4.sQ m5
        have c4 : NE g2 c6 := ⟨c7.ne e2.ne (by omega)⟩
        replace m := m5.s m c4.ne
        have c3 : NE g3 c6 := ⟨c7.ne d7.ne (by omega)⟩
        replace n := m5.s n c3.ne
        replace hin := i.mono l
        replace hin1 := e.mono l
        clear u
        have u : Cat.At _ g2 0 c p := ⟨Mem.of_get m, hin⟩
        clear v
        have v : Cat.At _ g3 0 d q := ⟨Mem.of_get n, hin1⟩
        refine .mv rfl (.nil (p7 _ _ (.region (.mv rfl (.q rfl (.aD rfl rfl rfl) (.mv rfl (.nil ?_)))))))
        refine q3 ((g + 1, w2 ++ [h3], _, _)) _ _ ?_ ?_ (.p rfl)
        ·
         refine ⟨d4, by (rw [o9]; assumption), by exact ⟨.inr (by omega)⟩, by (simp only [List.length_append, List.length_cons, List.length_nil] <;> omega), ?_⟩
         exact ⟨⟨by omega, by simp; omega⟩, hWA.snoc (by omega) hrl s0, hW.snoc (by omega) (by omega)⟩
        (dsimp only; omega)
       simp only [sps] at r4
       obtain ⟨h3, o9, n3⟩ : ∃ h3 : Int, h3 = -1 ∧ -1 ≤ h3 ∧ h3 ≤ 33000 := ⟨_, rfl, by omega, by omega⟩
       have s0 : h3 = prC c d a b f g := by rw [o9]; exact (if_neg fun hh => by omega).symm
       refine .skip (p6 _ _ (.region (.mv rfl (.mv rfl ?_))))
       refine .R rfl (.litA rfl sl_24_A ze_2_L rfl rfl rfl rfl) ?_
       rintro _ _ ⟨_, rfl, e9, _, o2⟩
       replace l := l.trans e9
       replace d4 := d4.le e9
       replace m := e9.2 _ _ m
       replace n := e9.2 _ _ n
       replace d3 := e9.2 _ _ d3
       have _ := GHeap.ltg o2
       replace hin := i.mono l
       replace hin1 := e.mono l
       have u : Cat.At _ g2 0 c p := ⟨Mem.of_get m, hin⟩
       have v : Cat.At _ g3 0 d q := ⟨Mem.of_get n, hin1⟩
       refine .R rfl (.apI rfl sl_24_A ze_2_L rfl by_2_L sl_24_A rfl rfl) ?_
       rintro _ _ ⟨_, rfl, g6, _, _⟩
       replace l := l.st g6 (fun k hk => ⟨by omega, trivial⟩)
       replace d4 := d4.sQ g6
       have c4 : NE g2 c6 := ⟨c7.ne e2.ne (by omega)⟩
       replace m := g6.s m c4.ne
       have c3 : NE g3 c6 := ⟨c7.ne d7.ne (by omega)⟩
       replace n := g6.s n c3.ne
       replace hin := i.mono l
       replace hin1 := e.mono l
       clear u
       have u : Cat.At _ g2 0 c p := ⟨Mem.of_get m, hin⟩
       clear v
       have v : Cat.At _ g3 0 d q := ⟨Mem.of_get n, hin1⟩
       refine .mv rfl (.nil (p7 _ _ (.region (.mv rfl (.q rfl (.aD rfl rfl rfl) (.mv rfl (.nil ?_)))))))
       refine q3 ((g + 1, w2 ++ [h3], _, _)) _ _ ?_ ?_ (.p rfl)
       ·
        refine ⟨d4, by (rw [o9]; assumption), by exact ⟨.inr (by omega)⟩, by (simp only [List.length_append, List.length_cons, List.length_nil] <;> omega), ?_⟩
        exact ⟨⟨by omega, by simp; omega⟩, hWA.snoc (by omega) hrl s0, hW.snoc (by omega) (by omega)⟩
       (dsimp only; omega)
      simp only [sps] at p9
      obtain ⟨h3, o9, n3⟩ : ∃ h3 : Int, h3 = -1 ∧ -1 ≤ h3 ∧ h3 ≤ 33000 := ⟨_, rfl, by omega, by omega⟩
      have s0 : h3 = prC c d a b f g := by rw [o9]; exact (if_neg fun hh => by omega).symm
      refine .z rfl (.z rfl (.z rfl (.z rfl (.z rfl (.z rfl (.z rfl (.z rfl (.z rfl (.q rfl (.pickF rfl rfl) (.nil (r9 _ _ ?_)))))))))))
      refine .condF rfl ?_
      refine .skip (p6 _ _ (.region (.mv rfl (.mv rfl ?_))))
      refine .R rfl (.litA rfl sl_24_A ze_2_L rfl rfl rfl rfl) ?_
      rintro _ _ ⟨_, rfl, f1, _, o7⟩
      replace l := l.trans f1
      replace d4 := d4.le f1
      replace m := f1.2 _ _ m
      replace n := f1.2 _ _ n
      replace d3 := f1.2 _ _ d3
      have _ := GHeap.ltg o7
      replace hin := i.mono l
      replace hin1 := e.mono l
      have u : Cat.At _ g2 0 c p := ⟨Mem.of_get m, hin⟩
      have v : Cat.At _ g3 0 d q := ⟨Mem.of_get n, hin1⟩
      refine .R rfl (.apI rfl sl_24_A ze_2_L rfl by_2_L sl_24_A rfl rfl) ?_
      rintro _ _ ⟨_, rfl, g8, _, _⟩
      replace l := l.st g8 (fun k hk => ⟨by omega, trivial⟩)
      replace d4 := d4.sQ g8
      have c4 : NE g2 c6 := ⟨c7.ne e2.ne (by omega)⟩
      replace m := g8.s m c4.ne
      have c3 : NE g3 c6 := ⟨c7.ne d7.ne (by omega)⟩
      replace n := g8.s n c3.ne
      replace hin := i.mono l
      replace hin1 := e.mono l
      clear u
      have u : Cat.At _ g2 0 c p := ⟨Mem.of_get m, hin⟩
      clear v
      have v : Cat.At _ g3 0 d q := ⟨Mem.of_get n, hin1⟩
      refine .mv rfl (.nil (p7 _ _ (.region (.mv rfl (.q rfl (.aD rfl rfl rfl) (.mv rfl (.nil ?_)))))))
      refine q3 ((g + 1, w2 ++ [h3], _, _)) _ _ ?_ ?_ (.p rfl)
      ·
       refine ⟨d4, by (rw [o9]; assumption), by exact ⟨.inr (by omega)⟩, by (simp only [List.length_append, List.length_cons, List.length_nil] <;> omega), ?_⟩
       exact ⟨⟨by omega, by simp; omega⟩, hWA.snoc (by omega) hrl s0, hW.snoc (by omega) (by omega)⟩
      (dsimp only; omega)
     try simp only [sps] at q7
     refine .exit (u6 _ _ (.region (.mv rfl (.q rfl (.aD rfl rfl rfl) (.mv rfl (.nil ?_))))))
     refine v8 ((f + 1, w2, _, _)) _ _ ?_ ?_ (.p rfl)
     ·
      refine ⟨g0, by assumption, by exact c7.trans d2 (by omega), by omega, ?_⟩
      have e1 := sm f d.src.length
      exact ⟨⟨by omega, by omega⟩, hWA, hW⟩
     (dsimp only; omega)
    try simp only [sps] at r3
    refine .exit (u7 _ _ (.region ?_))
    obtain rfl : f = c.src.length := by omega
    obtain rfl := p5
    refine .q rfl (.fieldAddr fo_27_4_B rfl) ?_
    refine .q rfl (.load on_25_B rfl (by first | assumption | exact Mem.of_get w 4 _ rfl)) ?_
    refine .mv rfl ?_
    refine .R rfl (.litA rfl sl_25_B ze_24_Hj rfl rfl rfl rfl) ?_
    rintro _ _ ⟨_, rfl, e6, _, r5⟩
    replace l := l.trans e6
    replace c5 := c5.le e6
    replace rk := rk.le e6
    replace m := e6.2 _ _ m
    replace n := e6.2 _ _ n
    replace o := e6.2 _ _ o
    replace e0 := e6.2 _ _ e0
    replace d5 := e6.2 _ _ d5
    replace w := e6.2 _ _ w
    replace e8 := e6.2 _ _ e8
    have _ := GHeap.ltg r5
    replace hin := i.mono l
    replace hin1 := e.mono l
    have u : Cat.At _ g2 0 c p := ⟨Mem.of_get m, hin⟩
    have v : Cat.At _ g3 0 d q := ⟨Mem.of_get n, hin1⟩
    refine .R rfl (.appendV rfl sl_25_B ze_24_Hj rfl by_24_Hj sl_25_B rfl rfl (by assumption) (by assumption) (by first | omega | (simp <;> omega)) rfl rfl (by omega) (by omega)) ?_
    rintro _ _ ⟨x5, rfl, f2, _, p0⟩
    replace l := l.st f2 (fun k hk => ⟨by omega, trivial⟩)
    replace c5 := c5.sQ f2
    replace rk := rk.sQ f2
    replace m := f2.same _ _ ⟨(l1.ne i7.ne (by omega)), trivial⟩ m
    replace n := f2.same _ _ ⟨(l1.ne j1.ne (by omega)), trivial⟩ n
    replace e0 := f2.s e0
    replace d5 := f2.s d5
    replace w := f2.same _ _ ⟨(Ne.symm n8), trivial⟩ w
    replace e8 := f2.same _ _ ⟨(Ne.symm (d2.ne f0.ne (by omega))), trivial⟩ e8
    replace hin := i.mono l
    replace hin1 := e.mono l
    clear u
    have u : Cat.At _ g2 0 c p := ⟨Mem.of_get m, hin⟩
    clear v
    have v : Cat.At _ g3 0 d q := ⟨Mem.of_get n, hin1⟩
    refine .q rfl (.fieldAddr fo_27_4_B rfl) ?_
    refine .r0 rfl rfl (.storeR rfl sz_25_Ch rfl rfl rfl (by assumption) (by first | exact Nat.le_of_ble_eq_true rfl | (simp; done) | (simp <;> omega))) ?_
    rintro _ _ ⟨rfl, c9, o6⟩
    replace l := l.st c9 (fun k hk => ⟨by omega, trivial⟩)
    replace c5 := c5.sA c9
    replace rk := rk.sA c9
    replace m := c9.s m b0.ne
    replace n := c9.s n a0.ne
    replace e0 := c9.s e0 f9.ne
    replace d5 := c9.s d5 h9.ne
    replace e8 := c9.same _ _ ⟨(Ne.symm (d2.ne h5.ne (by omega))), trivial⟩ e8
    replace p0 := c9.s p0
    replace hin := i.mono l
    replace hin1 := e.mono l
    clear u
    have u : Cat.At _ g2 0 c p := ⟨Mem.of_get m, hin⟩
    clear v
    have v : Cat.At _ g3 0 d q := ⟨Mem.of_get n, hin1⟩
    try simp only [Nat.zero_add, List.set_cons_succ, List.set_cons_zero] at o6
    refine .nil (x6 _ _ (.region (.mv rfl (.q rfl (.aD rfl rfl rfl) (.mv rfl (.nil ?_))))))
    refine v4 ((b + 1, s2 ++ [c.src.getD a 0 * d.obj + d.src.getD b 0], t2 ++ [c.tgt.getD a 0 * d.obj + d.tgt.getD b 0], upd r2 c2.length (some ⟨e4, 0, none⟩), c2 ++ [row], s9, o3, x5)) _ _ ?_ ?_ (.p rfl)
    ·
     refine ⟨c5, by assumption, by exact ⟨.inr (by omega)⟩, by assumption, by exact ⟨.inr (by omega)⟩, by (rw [slsL_snoc]; assumption), by exact ⟨.inr (by omega)⟩, by (rw [List.length_append]; assumption), by omega, by omega, by omega, by omega, by omega, by omega, ?_⟩
     have hR' := hR.st rk (.cons s4 (.cons s3 (.cons (hR.neT hatC rfl) (.cons (hR.neT v9 rfl) (.nil _ _)))))
     have aC := hR.ne (g := e4) (d2.ge (by omega) (by omega))
     have aQ := hR.ne (g := s9) (by omega)
     have aE := hR.ne (g := o3) (by omega)
     have _ : e4 ≠ s9 := d2.ne' (by omega) (by omega)
     have _ : e4 ≠ o3 := d2.ne' (by omega) (by omega)
     have _ : e4 ≠ gLI := d2.ne' (by omega) (by omega)
     exact ⟨⟨by omega, by simp; omega, by simp; omega, by simp; omega⟩, hS.snoc (by omega) (by omega), hT.snoc (by omega) (by omega), hC.snoc (by omega) hW, ⟨y1.snoc (by omega) (by omega) rfl, x9.snoc (by omega) (by omega) rfl, y4.snoc (by omega) (by omega) hWA⟩, hR'.snoc2 (by assumption) aC (by omega), ne_snoc aQ (by omega), ne_snoc aE (by omega), ne_snoc s6 (by omega)⟩
    (dsimp only; omega)
   try simp only [sps] at y5
   refine .exit (u4 _ _ (.region (.mv rfl (.q rfl (.aD rfl rfl rfl) (.mv rfl (.nil ?_))))))
   refine w8 ((a + 1, s2, t2, r2, c2, f8, f6, f4)) _ _ ?_ ?_ (.p rfl)
   ·
    refine ⟨l5, by assumption, by exact l0.trans h8 (by omega), by assumption, by exact l2.trans h4 (by omega), by assumption, by exact l1.trans j3 (by omega), by assumption, by assumption, by assumption, by assumption, by assumption, by assumption, by assumption, ?_⟩
    have e1 := sm a d.src.length
    exact ⟨⟨by omega, by omega, by omega, by omega⟩, hS, hT, hC, ⟨y1, x9, y4⟩, hR, s4, s3, s6⟩
   (dsimp only; omega)
  try simp only [sps] at y7
  refine .exit (x7 _ _ (.seq (fun K37 x2 => .region ?_)))
  refine .q rfl (.loadM ag_27_D rfl ⟨rfl, Mem.of_get t⟩) ?_
  refine .r0 rfl rfl (.fillA rfl sz_27_D rfl rfl rfl rfl) ?_
  rintro _ _ ⟨rfl, d1, o8⟩
  replace l := l.st d1 (fun k hk => ⟨by omega, trivial⟩)
  replace m := d1.s m
  replace n := d1.s n
  replace j8 := d1.same _ _ ⟨(Ne.symm (e3.ne j2.ne (by omega))), trivial⟩ j8
  replace m4 := d1.same _ _ ⟨(Ne.symm (h8.ne j6.ne (by omega))), trivial⟩ m4
  replace n9 := d1.same _ _ ⟨(Ne.symm (h4.ne k0.ne (by omega))), trivial⟩ n9
  replace n4 := d1.same _ _ ⟨(Ne.symm (j3.ne k6.ne (by omega))), trivial⟩ n4
  replace hin := i.mono l
  replace hin1 := e.mono l
  have u : Cat.At _ g2 0 c p := ⟨Mem.of_get m, hin⟩
  have v : Cat.At _ g3 0 d q := ⟨Mem.of_get n, hin1⟩
  refine .nil (x2 _ _ (.ret (w5 _ _ (⟨_, _, _, _, rfl, ag_27_D, (by rfl), (Mem.of_get o8), ?_⟩))))
  obtain rfl : a = c.src.length := by omega
  have _ : gLF ≠ gLI := h8.ne' (e3.ne' (by omega) (by omega)) (by omega)
  have _ : gLT ≠ gLI := h4.ne' (e3.ne' (by omega) (by omega)) (by omega)
  have t1 := l6
  have hR' := hR.st d1 (.cons (hR.neT t1 rfl) (.nil _ _))
  have hil : (is.length : Int) = c.obj * d.obj := by rw [hl]; congr 1; omega
  exact ⟨⟨c.obj * d.obj, ss, ts, is, cs⟩, ⟨⟨rect_mk (by omega) (by omega) hts (hS.mono (by omega) (by omega)) (hT.mono (by omega) (by omega)) hil (hB.mono (by omega) (by omega)) (by omega) (by rw [v3]; exact hC.mono (by omega) (by omega)), pr_shp gc.s gd.s a1.1 b1.1 v3 hts hil (by omega) (fun f hf => by rw [(hC f hf).1, v3]) t0.1 t0.2.1 hAI t0.2.2⟩, rfl⟩, l, gLF, gLT, gLI, gLC, rr, by simp [Cat.cells, ownP, hts, hcl], ⟨m4, n9, j8, n4, by omega, by omega, by omega, by omega, by omega, by omega, by omega, hR', s4, s3, s6⟩⟩
end Go.Proofs.Ytfanjkbaemhbmaa
namespace Go.Proofs.Ytfanjkbaemhbmaa
open Go Go.GL Go.RowKit Go.Proofs
set_option maxHeartbeats 8000000 in
theorem l02SomeG_c {gS : Nat} {m n : Int} {H : GHeap} (hs : DSrc 86 H gS := by assumption) :
    GCalls Try.prog 70 [.pointer (some ⟨gS, 0, none⟩), .int .i64 m, .int .i64 n] H (DrawnG 86 33000 gS H) := by
  have _ := hs.lt
  refine GCalls.body (N := 48) (rs := [.cell 6 27]) Try.func70 rfl rfl rfl rfl (fun Qx d6 hend => ?_)
  refine .fg [0, 1, 2] rfl ?_
  have f := St.refl [gS] H
  refine .seq (fun K1 j1 => .region ?_)
  refine .R rfl (.allocR rfl ze_27_I rfl) ?_
  rintro _ H6 ⟨g6, rfl, i2, _, v⟩
  replace f := f.le i2
  have _ := GHeap.ltg v
  refine .nil (j1 _ _ (.seq (fun K2 k0 => .seq (fun K3 k1 => .region ?_))))
  have hs := hs.le i2
  refine .mv rfl (.nil (k1 _ _ (.block ?_)))
  refine .loopF (σ := Nat) [0, 1, 2, 6] (fun i => [(7, some (.int .i64 (i : Int)))]) (fun i H' => St [gS] H6 H' ∧ i ≤ 12 ∧ DSrc 86 H' gS) (fun i => 12 - i) (0) rfl (.p rfl) ?_ ?_
  ·
   refine ⟨.refl _ _, ?_⟩
   exact ⟨by omega, hs⟩
  rintro i HL1 ⟨b, hI⟩ _ a6
  dsimp only [cA, nA]
  have _ := b.nx
  replace f := f.sA b
  have o : NE g6 gS := .a
  replace v := b.s v o.ne
  obtain ⟨_, hs⟩ := hI
  refine .seq (fun K4 j7 => .seq (fun K5 k7 => .region (.mv rfl (.q rfl (.cmp rfl rfl rfl) (.nil (k7 _ _ ?_))))))
  refine .cond rfl ?_ ?_ <;> intro j6
  ·
   simp only [sps] at j6
   refine .skip (j7 _ _ (.seq (fun K6 d0 => .block (.seq (fun K7 k2 => .region (.mv rfl ?_))))))
   refine .call rfl rfl rfl rfl @Try.call102 rfl (l02FamilyG_c) ?_
   rintro _ i7 ⟨g3, _, rfl, x, c4, d7, hs⟩
   have _ := d7.nx
   replace f := f.sA d7
   replace b := b.sA d7
   replace v := d7.s v o.ne
   have b5 := c4
   have e : Keep HL1.next i7 i7 := fun _ _ _ h => h
   refine .R rfl (.allocR rfl ze_27_I rfl) ?_
   rintro _ _ ⟨g8, rfl, g0, _, _⟩
   replace f := f.le g0
   replace b := b.le g0
   replace hs := hs.le g0
   replace v := g0.2 _ _ v
   replace e := Keep.le e g0
   refine .r0 rfl rfl (.fillA rfl sz_27_D rfl rfl rfl rfl) ?_
   rintro _ _ ⟨rfl, b0, d⟩
   replace f := f.sA b0
   replace b := b.sA b0
   replace hs := hs.sA b0
   have a1 : NE g6 g8 := .a
   replace v := b0.s v a1.ne
   replace e := Keep.st e b0 (fun k hb hk => ⟨(by omega), trivial⟩)
   have _ := GHeap.ltg d
   refine .nil (k2 _ _ (.seq (fun K8 i0 => .seq (fun K9 k6 => .region (.mv rfl ?_)))))
   refine .call rfl rfl rfl rfl @Try.call30 rfl (l01Next_c) ?_
   rintro _ i8 ⟨_, rfl, _, _, _, c3, hs⟩
   have _ := c3.nx
   replace f := f.sA c3
   replace b := b.sA c3
   replace v := c3.s v o.ne
   have u : NE g8 gS := .a
   replace d := c3.s d u.ne
   replace e := Keep.st e c3 (fun k hb hk => ⟨(by omega), trivial⟩)
   refine .q rfl (.cmp rfl rfl rfl) (.nil (k6 _ _ ?_))
   refine .cond rfl ?_ ?_ <;> intro h17
   ·
    refine .regionDB mo_B (.q 0 (.q 1 (.c 2 1 (.c 3 0 (.c 4 0 (.done)))))) (by kernel_rfl) (GHeap.le_erase i8 gS) ?_
    have b7 := GHeap.le_erase i8 gS
    have e8 := GHeap.get_erase_of (g := gS) d (by omega)
    refine .qB rfl b7 (.loadM ag_27_D rfl ⟨rfl, Mem.of_get e8⟩) ?_
    refine .qB rfl b7 (.move rfl) ?_
    refine .call1 rfl rfl rfl rfl rfl @Try.call102 rfl (l02FamilyG_c) ?_
    rintro _ k3 ⟨_, _, rfl, b6, j2, c1, hs⟩
    replace b7 := b7.erase_st c1
    refine ⟨b7, ?_⟩
    have _ := c1.nx
    replace f := f.sA c1
    replace b := b.sA c1
    replace v := c1.s v o.ne
    replace d := c1.s d u.ne
    replace e := Keep.st e c1 (fun k hb hk => ⟨(by omega), trivial⟩)
    replace c4 := b5.keep e (Nat.le_refl _)
    have d1 := c4.inn
    have i1 := j2.inn
    refine .call0 rfl rfl rfl rfl rfl @Try.call103 rfl (l03Sum_c (hin := d1) (hin1 := i1) (hc := x.r) (hd := b6.r) (hN := by omega)) ?_
    rintro _ i5 ⟨d5, _, _, _, _, _, rfl, j3⟩
    have d2 := j3.catR
    replace f := f.le d5
    replace b := b.le d5
    replace hs := hs.le d5
    replace v := d5.2 _ _ v
    replace d := d5.2 _ _ d
    have b9 := d2
    have t : Keep k3.next i5 i5 := fun _ _ _ h => h
    clear d1
    clear i1
    refine .r0 rfl rfl rfl (.fillA rfl sz_27_D rfl rfl rfl rfl) ?_
    rintro _ _ ⟨rfl, a8, j⟩
    replace f := f.sA a8
    replace b := b.sA a8
    replace hs := hs.sA a8
    replace v := a8.s v a1.ne
    replace t := Keep.st t a8 (fun k hb hk => ⟨(by omega), trivial⟩)
    have _ := GHeap.ltg j
    refine .done (i0 _ _ (.seq (fun K10 f9 => .seq (fun K11 h2 => .region (.mv rfl ?_)))))
    refine .call rfl rfl rfl rfl @Try.call30 rfl (l01Next_c) ?_
    rintro _ i6 ⟨_, rfl, _, _, _, c6, hs⟩
    have _ := c6.nx
    replace f := f.sA c6
    replace b := b.sA c6
    replace v := c6.s v o.ne
    replace j := c6.s j u.ne
    replace t := Keep.st t c6 (fun k hb hk => ⟨(by omega), trivial⟩)
    replace d2 := b9.keep t (Nat.le_refl _)
    have d9 := d2.inn
    refine .q rfl (.cmp rfl rfl rfl) (.nil (h2 _ _ ?_))
    refine .cond rfl ?_ ?_ <;> intro k4
    ·
     refine .regionDB mo_B (.q 0 (.q 1 (.c 2 1 (.c 3 0 (.c 4 0 (.done)))))) (by kernel_rfl) (GHeap.le_erase i6 gS) ?_
     have b7 := GHeap.le_erase i6 gS
     first
     | have e8 := GHeap.get_erase_of (g := gS) j (by omega)
     | have e8 := GHeap.get_erase_of (g := gS) d (by omega)
     refine .qB rfl b7 (.loadM ag_27_D rfl ⟨rfl, Mem.of_get e8⟩) ?_
     refine .qB rfl b7 (.move rfl) ?_
     refine .call1 rfl rfl rfl rfl rfl @Try.call102 rfl (l02FamilyG_c) ?_
     rintro _ i9 ⟨k5, j9, rfl, e5, h4, c0, hs⟩
     replace b7 := b7.erase_st c0
     refine ⟨b7, ?_⟩
     have _ := c0.nx
     replace f := f.sA c0
     replace b := b.sA c0
     replace v := c0.s v o.ne
     replace j := c0.s j u.ne
     replace t := Keep.st t c0 (fun k hb hk => ⟨(by omega), trivial⟩)
     replace d2 := b9.keep t (Nat.le_refl _)
     clear d9
     have d9 := d2.inn
     have g4 := h4.inn
     refine .call0 rfl rfl rfl rfl rfl @Try.call104 rfl (l03ProductG_c (hin := by first | exact d9 | exact d1) (hin1 := g4) (gc := by first | exact (x.sum b6).mono (by omega) | exact x.mono (by omega)) (gd := e5)) ?_
     rintro _ i4 ⟨f8, ⟨c8, h3⟩, d3, _, _, _, _, _, rfl, j4⟩
     have c2 := j4.catR
     replace f := f.le d3
     replace b := b.le d3
     replace hs := hs.le d3
     replace v := d3.2 _ _ v
     replace j := d3.2 _ _ j
     have a7 := c2
     have l : Keep i9.next i4 i4 := fun _ _ _ h => h
     clear d9
     clear g4
     refine .r0 rfl rfl rfl (.fillA rfl sz_27_D rfl rfl rfl rfl) ?_
     rintro _ _ ⟨rfl, b1, b4⟩
     replace f := f.sA b1
     replace b := b.sA b1
     replace hs := hs.sA b1
     replace v := b1.s v a1.ne
     replace l := Keep.st l b1 (fun k hb hk => ⟨(by omega), trivial⟩)
     replace c2 := a7.keep l (Nat.le_refl _)
     have f7 := c2.inn
     refine .done (f9 _ _ (.seq (fun K12 f1 => .region (.q rfl (.fieldAddr fo_27_0_B rfl) ?_))))
     refine .q rfl (.load on_2_A rfl (by first | assumption | exact Mem.of_get b4 0 _ rfl)) ?_
     refine .mv rfl (.q rfl (.cmp rfl rfl rfl) (.mv rfl ?_))
     refine .split (fun e6 => ?_) (fun e6 => ?_)
     ·
      refine .qg rfl (.fieldAddr fo_27_1_B rfl) ?_
      refine .qg rfl (.load on_24_B rfl (by first | assumption | exact Mem.of_get b4 1 _ rfl)) ?_
      refine .qg rfl (.len sl_24_A rfl) (.qg rfl (.move rfl) (.qg rfl (.cmp rfl rfl rfl) (.q rfl (.pickT rfl rfl) (.mv rfl ?_))))
      refine .split (fun e9 => ?_) (fun e9 => ?_)
      ·
       refine .qg rfl (.loadM ag_27_D rfl ⟨rfl, Mem.of_get b4⟩) ?_
       refine .callQg rfl rfl rfl rfl rfl rfl @Try.call105 rfl (l02Fits_c (hin := by first | exact f7 | exact d9 | exact d1)) ?_
       refine .q rfl (.pickT rfl rfl) (.nil (f1 _ _ ?_))
       refine .cond rfl ?_ ?_ <;> intro h0
       ·
        refine .seq (fun K13 h9 => .region ?_)
        refine .q rfl (.loadM ag_27_D rfl ⟨rfl, Mem.of_get b4⟩) ?_
        refine .r0 rfl rfl (.fillA rfl sz_27_D rfl rfl rfl rfl) ?_
        rintro _ _ ⟨rfl, b3, e1⟩
        replace f := f.sA b3
        replace hs := hs.sA b3
        replace l := Keep.st l b3 (fun k hb hk => ⟨(by omega), trivial⟩)
        replace c2 := a7.keep l (Nat.le_refl _)
        clear f7
        refine .nil (h9 _ _ (.ret (d6 _ _ (⟨_, _, _, _, rfl, ag_27_D, (by rfl), (Mem.of_get e1), ?_⟩))))
        first
        | exact ⟨f8, _, rfl, c8, c2.keep (.of_le (.refl _)) (by omega), f, hs⟩
        | exact ⟨_, _, rfl, (x.sum b6).mono (by omega), d2.keep (.of_le (.refl _)) (by omega), f, hs⟩
        | exact ⟨g3, _, rfl, x.mono (by omega), c4.keep (.of_le (.refl _)) (by omega), f, hs⟩
        | exact ⟨g5, _, rfl, d4.mono (by decide), f3.keep (.of_le (.refl _)) (by omega), f, hs⟩
       refine .skip (d0 _ _ (.region (.mv rfl (.q rfl (.aD rfl rfl rfl) (.mv rfl (.nil ?_))))))
       refine a6 (i + 1) _ _ ?_ ?_ (.p rfl)
       ·
        refine ⟨b, ?_⟩
        exact ⟨by omega, hs⟩
       omega
      refine .z rfl (.z rfl (.q rfl (.pickF rfl rfl) (.nil (f1 _ _ ?_))))
      refine .condF rfl ?_
      refine .skip (d0 _ _ (.region (.mv rfl (.q rfl (.aD rfl rfl rfl) (.mv rfl (.nil ?_))))))
      refine a6 (i + 1) _ _ ?_ ?_ (.p rfl)
      ·
       refine ⟨b, ?_⟩
       exact ⟨by omega, hs⟩
      omega
     refine .z rfl (.z rfl (.z rfl (.z rfl (.z rfl (.q rfl (.pickF rfl rfl) (.mv rfl (.z rfl (.z rfl (.q rfl (.pickF rfl rfl) (.nil (f1 _ _ ?_)))))))))))
     refine .condF rfl ?_
     refine .skip (d0 _ _ (.region (.mv rfl (.q rfl (.aD rfl rfl rfl) (.mv rfl (.nil ?_))))))
     refine a6 (i + 1) _ _ ?_ ?_ (.p rfl)
     ·
      refine ⟨b, ?_⟩
      exact ⟨by omega, hs⟩
     omega
    refine .skip (f9 _ _ (.seq (fun K14 f6 => .region (.q rfl (.fieldAddr fo_27_0_B rfl) ?_))))
    refine .q rfl (.load on_2_A rfl (by first | assumption | exact Mem.of_get j 0 _ rfl)) ?_
    refine .mv rfl (.q rfl (.cmp rfl rfl rfl) (.mv rfl ?_))
    refine .split (fun e6 => ?_) (fun e6 => ?_)
    ·
     refine .qg rfl (.fieldAddr fo_27_1_B rfl) ?_
     refine .qg rfl (.load on_24_B rfl (by first | assumption | exact Mem.of_get j 1 _ rfl)) ?_
     refine .qg rfl (.len sl_24_A rfl) (.qg rfl (.move rfl) (.qg rfl (.cmp rfl rfl rfl) (.q rfl (.pickT rfl rfl) (.mv rfl ?_))))
     refine .split (fun e9 => ?_) (fun e9 => ?_)
     ·
      refine .qg rfl (.loadM ag_27_D rfl ⟨rfl, Mem.of_get j⟩) ?_
      refine .callQg rfl rfl rfl rfl rfl rfl @Try.call105 rfl (l02Fits_c (hin := by first | exact f7 | exact d9 | exact d1)) ?_
      refine .q rfl (.pickT rfl rfl) (.nil (f6 _ _ ?_))
      refine .cond rfl ?_ ?_ <;> intro h0
      ·
       refine .seq (fun K15 h7 => .region ?_)
       refine .q rfl (.loadM ag_27_D rfl ⟨rfl, Mem.of_get j⟩) ?_
       refine .r0 rfl rfl (.fillA rfl sz_27_D rfl rfl rfl rfl) ?_
       rintro _ _ ⟨rfl, a5, c5⟩
       replace f := f.sA a5
       replace hs := hs.sA a5
       replace t := Keep.st t a5 (fun k hb hk => ⟨(by omega), trivial⟩)
       replace d2 := b9.keep t (Nat.le_refl _)
       refine .nil (h7 _ _ (.ret (d6 _ _ (⟨_, _, _, _, rfl, ag_27_D, (by rfl), (Mem.of_get c5), ?_⟩))))
       first
       | exact ⟨f8, _, rfl, c8, c2.keep (.of_le (.refl _)) (by omega), f, hs⟩
       | exact ⟨_, _, rfl, (x.sum b6).mono (by omega), d2.keep (.of_le (.refl _)) (by omega), f, hs⟩
       | exact ⟨g3, _, rfl, x.mono (by omega), c4.keep (.of_le (.refl _)) (by omega), f, hs⟩
       | exact ⟨g5, _, rfl, d4.mono (by decide), f3.keep (.of_le (.refl _)) (by omega), f, hs⟩
      refine .skip (d0 _ _ (.region (.mv rfl (.q rfl (.aD rfl rfl rfl) (.mv rfl (.nil ?_))))))
      refine a6 (i + 1) _ _ ?_ ?_ (.p rfl)
      ·
       refine ⟨b, ?_⟩
       exact ⟨by omega, hs⟩
      omega
     refine .z rfl (.z rfl (.q rfl (.pickF rfl rfl) (.nil (f6 _ _ ?_))))
     refine .condF rfl ?_
     refine .skip (d0 _ _ (.region (.mv rfl (.q rfl (.aD rfl rfl rfl) (.mv rfl (.nil ?_))))))
     refine a6 (i + 1) _ _ ?_ ?_ (.p rfl)
     ·
      refine ⟨b, ?_⟩
      exact ⟨by omega, hs⟩
     omega
    refine .z rfl (.z rfl (.z rfl (.z rfl (.z rfl (.q rfl (.pickF rfl rfl) (.mv rfl (.z rfl (.z rfl (.q rfl (.pickF rfl rfl) (.nil (f6 _ _ ?_)))))))))))
    refine .condF rfl ?_
    refine .skip (d0 _ _ (.region (.mv rfl (.q rfl (.aD rfl rfl rfl) (.mv rfl (.nil ?_))))))
    refine a6 (i + 1) _ _ ?_ ?_ (.p rfl)
    ·
     refine ⟨b, ?_⟩
     exact ⟨by omega, hs⟩
    omega
   refine .skip (i0 _ _ (.seq (fun K16 g1 => .seq (fun K17 h1 => .region (.mv rfl ?_)))))
   refine .call rfl rfl rfl rfl @Try.call30 rfl (l01Next_c) ?_
   rintro _ e3 ⟨_, rfl, _, _, _, a3, hs⟩
   have _ := a3.nx
   replace f := f.sA a3
   replace b := b.sA a3
   replace v := a3.s v o.ne
   replace d := a3.s d u.ne
   replace e := Keep.st e a3 (fun k hb hk => ⟨(by omega), trivial⟩)
   replace c4 := b5.keep e (Nat.le_refl _)
   have d1 := c4.inn
   refine .q rfl (.cmp rfl rfl rfl) (.nil (h1 _ _ ?_))
   refine .cond rfl ?_ ?_ <;> intro k4
   ·
    refine .regionDB mo_B (.q 0 (.q 1 (.c 2 1 (.c 3 0 (.c 4 0 (.done)))))) (by kernel_rfl) (GHeap.le_erase e3 gS) ?_
    have b7 := GHeap.le_erase e3 gS
    first
    | have e8 := GHeap.get_erase_of (g := gS) j (by omega)
    | have e8 := GHeap.get_erase_of (g := gS) d (by omega)
    refine .qB rfl b7 (.loadM ag_27_D rfl ⟨rfl, Mem.of_get e8⟩) ?_
    refine .qB rfl b7 (.move rfl) ?_
    refine .call1 rfl rfl rfl rfl rfl @Try.call102 rfl (l02FamilyG_c) ?_
    rintro _ g2 ⟨k5, j9, rfl, e5, h4, y, hs⟩
    replace b7 := b7.erase_st y
    refine ⟨b7, ?_⟩
    have _ := y.nx
    replace f := f.sA y
    replace b := b.sA y
    replace v := y.s v o.ne
    replace d := y.s d u.ne
    replace e := Keep.st e y (fun k hb hk => ⟨(by omega), trivial⟩)
    replace c4 := b5.keep e (Nat.le_refl _)
    clear d1
    have d1 := c4.inn
    have g4 := h4.inn
    refine .call0 rfl rfl rfl rfl rfl @Try.call104 rfl (l03ProductG_c (hin := by first | exact d9 | exact d1) (hin1 := g4) (gc := by first | exact (x.sum b6).mono (by omega) | exact x.mono (by omega)) (gd := e5)) ?_
    rintro _ e4 ⟨f8, ⟨c8, h3⟩, a9, _, _, _, _, _, rfl, g7⟩
    have c2 := g7.catR
    replace f := f.le a9
    replace b := b.le a9
    replace hs := hs.le a9
    replace v := a9.2 _ _ v
    replace d := a9.2 _ _ d
    have a7 := c2
    have l : Keep g2.next e4 e4 := fun _ _ _ h => h
    clear d1
    clear g4
    refine .r0 rfl rfl rfl (.fillA rfl sz_27_D rfl rfl rfl rfl) ?_
    rintro _ _ ⟨rfl, w, a0⟩
    replace f := f.sA w
    replace b := b.sA w
    replace hs := hs.sA w
    replace v := w.s v a1.ne
    replace l := Keep.st l w (fun k hb hk => ⟨(by omega), trivial⟩)
    replace c2 := a7.keep l (Nat.le_refl _)
    have f7 := c2.inn
    refine .done (g1 _ _ (.seq (fun K18 f0 => .region (.q rfl (.fieldAddr fo_27_0_B rfl) ?_))))
    refine .q rfl (.load on_2_A rfl (by first | assumption | exact Mem.of_get a0 0 _ rfl)) ?_
    refine .mv rfl (.q rfl (.cmp rfl rfl rfl) (.mv rfl ?_))
    refine .split (fun e6 => ?_) (fun e6 => ?_)
    ·
     refine .qg rfl (.fieldAddr fo_27_1_B rfl) ?_
     refine .qg rfl (.load on_24_B rfl (by first | assumption | exact Mem.of_get a0 1 _ rfl)) ?_
     refine .qg rfl (.len sl_24_A rfl) (.qg rfl (.move rfl) (.qg rfl (.cmp rfl rfl rfl) (.q rfl (.pickT rfl rfl) (.mv rfl ?_))))
     refine .split (fun e9 => ?_) (fun e9 => ?_)
     ·
      refine .qg rfl (.loadM ag_27_D rfl ⟨rfl, Mem.of_get a0⟩) ?_
      refine .callQg rfl rfl rfl rfl rfl rfl @Try.call105 rfl (l02Fits_c (hin := by first | exact f7 | exact d9 | exact d1)) ?_
      refine .q rfl (.pickT rfl rfl) (.nil (f0 _ _ ?_))
      refine .cond rfl ?_ ?_ <;> intro h0
      ·
       refine .seq (fun K19 h6 => .region ?_)
       refine .q rfl (.loadM ag_27_D rfl ⟨rfl, Mem.of_get a0⟩) ?_
       refine .r0 rfl rfl (.fillA rfl sz_27_D rfl rfl rfl rfl) ?_
       rintro _ _ ⟨rfl, a2, c7⟩
       replace f := f.sA a2
       replace hs := hs.sA a2
       replace l := Keep.st l a2 (fun k hb hk => ⟨(by omega), trivial⟩)
       replace c2 := a7.keep l (Nat.le_refl _)
       clear f7
       refine .nil (h6 _ _ (.ret (d6 _ _ (⟨_, _, _, _, rfl, ag_27_D, (by rfl), (Mem.of_get c7), ?_⟩))))
       first
       | exact ⟨f8, _, rfl, c8, c2.keep (.of_le (.refl _)) (by omega), f, hs⟩
       | exact ⟨_, _, rfl, (x.sum b6).mono (by omega), d2.keep (.of_le (.refl _)) (by omega), f, hs⟩
       | exact ⟨g3, _, rfl, x.mono (by omega), c4.keep (.of_le (.refl _)) (by omega), f, hs⟩
       | exact ⟨g5, _, rfl, d4.mono (by decide), f3.keep (.of_le (.refl _)) (by omega), f, hs⟩
      refine .skip (d0 _ _ (.region (.mv rfl (.q rfl (.aD rfl rfl rfl) (.mv rfl (.nil ?_))))))
      refine a6 (i + 1) _ _ ?_ ?_ (.p rfl)
      ·
       refine ⟨b, ?_⟩
       exact ⟨by omega, hs⟩
      omega
     refine .z rfl (.z rfl (.q rfl (.pickF rfl rfl) (.nil (f0 _ _ ?_))))
     refine .condF rfl ?_
     refine .skip (d0 _ _ (.region (.mv rfl (.q rfl (.aD rfl rfl rfl) (.mv rfl (.nil ?_))))))
     refine a6 (i + 1) _ _ ?_ ?_ (.p rfl)
     ·
      refine ⟨b, ?_⟩
      exact ⟨by omega, hs⟩
     omega
    refine .z rfl (.z rfl (.z rfl (.z rfl (.z rfl (.q rfl (.pickF rfl rfl) (.mv rfl (.z rfl (.z rfl (.q rfl (.pickF rfl rfl) (.nil (f0 _ _ ?_)))))))))))
    refine .condF rfl ?_
    refine .skip (d0 _ _ (.region (.mv rfl (.q rfl (.aD rfl rfl rfl) (.mv rfl (.nil ?_))))))
    refine a6 (i + 1) _ _ ?_ ?_ (.p rfl)
    ·
     refine ⟨b, ?_⟩
     exact ⟨by omega, hs⟩
    omega
   refine .skip (g1 _ _ (.seq (fun K20 f5 => .region (.q rfl (.fieldAddr fo_27_0_B rfl) ?_))))
   refine .q rfl (.load on_2_A rfl (by first | assumption | exact Mem.of_get d 0 _ rfl)) ?_
   refine .mv rfl (.q rfl (.cmp rfl rfl rfl) (.mv rfl ?_))
   refine .split (fun e6 => ?_) (fun e6 => ?_)
   ·
    refine .qg rfl (.fieldAddr fo_27_1_B rfl) ?_
    refine .qg rfl (.load on_24_B rfl (by first | assumption | exact Mem.of_get d 1 _ rfl)) ?_
    refine .qg rfl (.len sl_24_A rfl) (.qg rfl (.move rfl) (.qg rfl (.cmp rfl rfl rfl) (.q rfl (.pickT rfl rfl) (.mv rfl ?_))))
    refine .split (fun e9 => ?_) (fun e9 => ?_)
    ·
     refine .qg rfl (.loadM ag_27_D rfl ⟨rfl, Mem.of_get d⟩) ?_
     refine .callQg rfl rfl rfl rfl rfl rfl @Try.call105 rfl (l02Fits_c (hin := by first | exact f7 | exact d9 | exact d1)) ?_
     refine .q rfl (.pickT rfl rfl) (.nil (f5 _ _ ?_))
     refine .cond rfl ?_ ?_ <;> intro h0
     ·
      refine .seq (fun K21 h8 => .region ?_)
      refine .q rfl (.loadM ag_27_D rfl ⟨rfl, Mem.of_get d⟩) ?_
      refine .r0 rfl rfl (.fillA rfl sz_27_D rfl rfl rfl rfl) ?_
      rintro _ _ ⟨rfl, a4, c9⟩
      replace f := f.sA a4
      replace hs := hs.sA a4
      replace e := Keep.st e a4 (fun k hb hk => ⟨(by omega), trivial⟩)
      replace c4 := b5.keep e (Nat.le_refl _)
      refine .nil (h8 _ _ (.ret (d6 _ _ (⟨_, _, _, _, rfl, ag_27_D, (by rfl), (Mem.of_get c9), ?_⟩))))
      first
      | exact ⟨f8, _, rfl, c8, c2.keep (.of_le (.refl _)) (by omega), f, hs⟩
      | exact ⟨_, _, rfl, (x.sum b6).mono (by omega), d2.keep (.of_le (.refl _)) (by omega), f, hs⟩
      | exact ⟨g3, _, rfl, x.mono (by omega), c4.keep (.of_le (.refl _)) (by omega), f, hs⟩
      | exact ⟨g5, _, rfl, d4.mono (by decide), f3.keep (.of_le (.refl _)) (by omega), f, hs⟩
     refine .skip (d0 _ _ (.region (.mv rfl (.q rfl (.aD rfl rfl rfl) (.mv rfl (.nil ?_))))))
     refine a6 (i + 1) _ _ ?_ ?_ (.p rfl)
     ·
      refine ⟨b, ?_⟩
      exact ⟨by omega, hs⟩
     omega
    refine .z rfl (.z rfl (.q rfl (.pickF rfl rfl) (.nil (f5 _ _ ?_))))
    refine .condF rfl ?_
    refine .skip (d0 _ _ (.region (.mv rfl (.q rfl (.aD rfl rfl rfl) (.mv rfl (.nil ?_))))))
    refine a6 (i + 1) _ _ ?_ ?_ (.p rfl)
    ·
     refine ⟨b, ?_⟩
     exact ⟨by omega, hs⟩
    omega
   refine .z rfl (.z rfl (.z rfl (.z rfl (.z rfl (.q rfl (.pickF rfl rfl) (.mv rfl (.z rfl (.z rfl (.q rfl (.pickF rfl rfl) (.nil (f5 _ _ ?_)))))))))))
   refine .condF rfl ?_
   refine .skip (d0 _ _ (.region (.mv rfl (.q rfl (.aD rfl rfl rfl) (.mv rfl (.nil ?_))))))
   refine a6 (i + 1) _ _ ?_ ?_ (.p rfl)
   ·
    refine ⟨b, ?_⟩
    exact ⟨by omega, hs⟩
   omega
  refine .exit (k0 _ _ (.seq (fun K22 h5 => .region ?_)))
  refine .R rfl (.litA rfl sl_24_A ze_2_L rfl rfl rfl rfl) ?_
  rintro _ _ ⟨j0, rfl, f2, _, d8⟩
  replace f := f.le f2
  replace hs := hs.le f2
  replace v := f2.2 _ _ v
  have _ := GHeap.ltg d8
  refine .R rfl (.litA rfl sl_25_B ze_24_Hj rfl rfl rfl rfl) ?_
  rintro _ j8 ⟨_, rfl, e0, _, g9⟩
  replace f := f.le e0
  replace hs := hs.le e0
  replace v := e0.2 _ _ v
  replace d8 := e0.2 _ _ d8
  have _ := GHeap.ltg g9
  refine .call rfl rfl rfl rfl @Try.call31 rfl ((by have hh := l03PosetG_c (rel := [[1]]) (hin := ((lit_own (gs := [j0]) (by simp only [LitAt]; exact ⟨⟨Nat.zero_le _, d8⟩, trivial⟩) (by simp <;> omega)).done (by exact g9) (Nat.zero_le _)).intss) (hn := by decide) (hr := by decide) (hRT := .dec (by decide) (by decide)); exact hh)) ?_
  rintro _ i3 ⟨g5, ⟨d4, _⟩, e7, _, _, _, _, _, rfl, j5⟩
  have f3 := j5.catR
  replace f := f.le e7
  replace hs := hs.le e7
  replace v := e7.2 _ _ v
  have f4 := f3
  have b8 : Keep j8.next i3 i3 := fun _ _ _ h => h
  refine .r0 rfl rfl (.fillA rfl sz_27_D rfl rfl rfl rfl) ?_
  rintro _ _ ⟨rfl, b2, e2⟩
  replace f := f.sA b2
  replace hs := hs.sA b2
  replace b8 := Keep.st b8 b2 (fun k hb hk => ⟨(by omega), trivial⟩)
  replace f3 := f4.keep b8 (Nat.le_refl _)
  refine .nil (h5 _ _ (.ret (d6 _ _ (⟨_, _, _, _, rfl, ag_27_D, (by rfl), (Mem.of_get e2), ?_⟩))))
  first
  | exact ⟨f8, _, rfl, c8, c2.keep (.of_le (.refl _)) (by omega), f, hs⟩
  | exact ⟨_, _, rfl, (x.sum b6).mono (by omega), d2.keep (.of_le (.refl _)) (by omega), f, hs⟩
  | exact ⟨g3, _, rfl, x.mono (by omega), c4.keep (.of_le (.refl _)) (by omega), f, hs⟩
  | exact ⟨g5, _, rfl, d4.mono (by decide), f3.keep (.of_le (.refl _)) (by omega), f, hs⟩
end Go.Proofs.Ytfanjkbaemhbmaa
namespace Go.Proofs.Ytfanjkbaemhbmaa
open Go Go.GL Go.RowKit Go.Proofs
end Go.Proofs.Ytfanjkbaemhbmaa
namespace Go.Proofs.Ytfanjkbaemhbmaa
open Go Go.GL Go.RowKit Go.Proofs
end Go.Proofs.Ytfanjkbaemhbmaa
namespace Go.Proofs.Ytfanjkbaemhbmaa
open Go Go.GL Go.RowKit Go.Proofs
end Go.Proofs.Ytfanjkbaemhbmaa
namespace Go.Proofs.Ytfanjkbaemhbmaa
open Go Go.GL Go.RowKit Go.Proofs
end Go.Proofs.Ytfanjkbaemhbmaa
namespace Go.Proofs.Ytfanjkbaemhbmaa
open Go Go.GL Go.RowKit Go.Proofs
end Go.Proofs.Ytfanjkbaemhbmaa
namespace Go.Proofs.Ytfanjkbaemhbmaa
open Go Go.GL Go.RowKit Go.Proofs
end Go.Proofs.Ytfanjkbaemhbmaa
namespace Go.Proofs.Ytfanjkbaemhbmaa
open Go Go.GL Go.RowKit Go.Proofs
end Go.Proofs.Ytfanjkbaemhbmaa
namespace Go.Proofs.Ytfanjkbaemhbmaa
open Go Go.GL Go.RowKit Go.Proofs
end Go.Proofs.Ytfanjkbaemhbmaa
namespace Go.Proofs.Ytfanjkbaemhbmaa
open Go Go.GL Go.RowKit Go.Proofs
end Go.Proofs.Ytfanjkbaemhbmaa
namespace Go.Proofs.Ytfanjkbaemhbmaa
open Go Go.GL Go.RowKit Go.Proofs
set_option maxHeartbeats 8000000 in
theorem l02Bend_c {gS : Nat} {c : Cat} {p : CatP} {H : GHeap} (hs : DSrc 86 H gS := by assumption) (hin : c.In H p := by assumption) (hr : c.Rect 33000) :
    GCalls Try.prog 71 [.pointer (some ⟨gS, 0, none⟩), .agg (c.cells p).toArray] H (DrawnK 86 gS H) := by
  have _ := hs.lt
  obtain ⟨a1, a2, a3, -, -, _, -, _, a9, -⟩ := id hr
  have hsm := hr.small (by omega)
  obtain ⟨n1, n2, n3, n4, n5, n6⟩ := id hsm
  refine GCalls.body (N := 92) (rs := [.cell 4 27]) Try.func71 rfl rfl rfl rfl (fun Qx e9 hend => ?_)
  refine .fg [0, 1] rfl ?_
  have o := St.refl [gS] H
  refine .seq (fun K1 p6 => .region ?_)
  refine .R rfl (.boxR rfl sz_27_D rfl) ?_
  rintro _ _ ⟨g3, rfl, l7, _, k4⟩
  replace o := o.le l7
  have _ := GHeap.ltg k4
  refine .R rfl (.allocR rfl ze_27_I rfl) ?_
  rintro _ _ ⟨g4, rfl, k7, _, c8⟩
  replace o := o.le k7
  replace k4 := k7.2 _ _ k4
  have _ := GHeap.ltg c8
  refine .nil (p6 _ _ (.seq (fun K2 q2 => .region ?_)))
  have hs := (hs.le l7).le k7
  have m9 := (hin.mono l7).mono k7
  refine .q rfl (.loadM ag_27_D rfl ⟨rfl, Mem.of_get k4⟩) ?_
  refine .call rfl rfl rfl rfl @Try.call83 rfl (l02OwnO_c (hin := m9) (hs := hsm)) ?_
  rintro _ H8 ⟨k6, gF, gT, gI, gC, rr, rfl, v8⟩
  have aF := v8.a1
  have aT := v8.a2
  have aI := v8.a3
  have aC := v8.a4
  have bF := v8.b1
  have bT := v8.b2
  have bI := v8.b3
  have bC := v8.b4
  have n12 := v8.n12
  have n13 := v8.n13
  have n23 := v8.n23
  have _ := row_ne aC aF rfl
  have _ := row_ne aC aT rfl
  have _ := row_ne aC aI rfl
  have hRR := v8.rows
  have b8 := St.refl [g3, gS, gF, gT, gI, gC] H8
  replace o := o.le k6
  replace hs := hs.le k6
  replace k4 := k6.2 _ _ k4
  replace c8 := k6.2 _ _ c8
  have _ := GHeap.ltg aF
  refine .r0 rfl rfl (.fillA rfl sz_27_D rfl rfl rfl rfl) ?_
  rintro _ k5 ⟨rfl, d7, b⟩
  have _ := d7.nx
  replace o := o.sA d7
  replace hs := hs.sA d7
  replace b8 := b8.sA d7
  have f4 : NE g4 g3 := .a
  replace c8 := d7.s c8 f4.ne
  have f5 : NE gF g3 := .a
  replace aF := d7.s aF f5.ne
  have e8 : NE gT g3 := .a
  replace aT := d7.s aT e8.ne
  have f0 : NE gI g3 := .a
  replace aI := d7.s aI f0.ne
  have e7 : NE gC g3 := .a
  replace aC := d7.s aC e7.ne
  have _ := GHeap.ltg b
  replace b : GHeap.get k5 g3 = some (.row [.int .i64 c.obj, .slice (some ⟨gF, 0, none⟩) c.src.length c.src.length, .slice (some ⟨gT, 0, none⟩) c.tgt.length c.tgt.length, .slice (some ⟨gI, 0, none⟩) c.idn.length c.idn.length, .slice (some ⟨gC, 0, none⟩) c.comp.length c.comp.length] 27 true) := b
  refine .nil (q2 _ _ (.seq (fun K3 q3 => .region ?_)))
  have offA : Off rr c.comp.length [g3, gS, gF, gT, gI, gC] := .cons (hRR.lowNe (by omega)) (.cons (hRR.lowNe (by omega)) (.cons v8.r1 (.cons v8.r2 (.cons v8.r3 (.cons (hRR.neT v8.a4 rfl) (.nil _ _))))))
  refine .q rfl (.fieldAddr fo_27_1_B rfl) ?_
  refine .q rfl (.load on_24_B rfl (by first | assumption | exact Mem.of_get b 1 _ rfl)) ?_
  refine .q rfl (.len sl_24_A rfl) (.mv rfl (.nil (q3 _ _ (.seq (fun K4 q1 => .region (.mv rfl (.mv rfl ?_)))))))
  refine .call rfl rfl rfl rfl @Try.call30 rfl (l01Next_c) ?_
  rintro _ _ ⟨f1, rfl, _, _, _, g5, hs⟩
  have _ := g5.nx
  replace o := o.sA g5
  replace b8 := b8.sA g5
  have t : NE g4 gS := .a
  replace c8 := g5.s c8 t.ne
  have u : NE gF gS := .a
  replace aF := g5.s aF u.ne
  have z : NE gT gS := .a
  replace aT := g5.s aT z.ne
  have y : NE gI gS := .a
  replace aI := g5.s aI y.ne
  have w : NE gC gS := .a
  replace aC := g5.s aC w.ne
  have v : NE g3 gS := .a
  replace b := g5.s b v.ne
  refine .mv rfl (.nil (q1 _ _ (.seq (fun K5 i1 => .seq (fun K6 q0 => .region (.mv rfl ?_))))))
  refine .call rfl rfl rfl rfl @Try.call30 rfl (l01Next_c) ?_
  rintro _ j8 ⟨_, rfl, _, _, _, g1, hs⟩
  have _ := g1.nx
  replace o := o.sA g1
  replace b8 := b8.sA g1
  replace c8 := g1.s c8 t.ne
  replace aF := g1.s aF u.ne
  replace aT := g1.s aT z.ne
  replace aI := g1.s aI y.ne
  replace aC := g1.s aC w.ne
  replace b := g1.s b v.ne
  refine .nil (q0 _ _ (.block (.seq (fun K7 q5 => .region (.q rfl (.cmp rfl rfl rfl) (.mv rfl (.nil (q5 _ _ ?_))))))))
  refine .cond rfl ?_ ?_ <;> intro o9
  ·
   try simp only [sps] at o9
   refine .region (.mv rfl (.q rfl (.fieldAddr fo_27_0_B rfl) ?_))
   refine .q rfl (.load on_2_A rfl (by first | assumption | exact Mem.of_get b 0 _ rfl)) ?_
   refine .q rfl (.aD rfl rfl rfl) ?_
   refine .R rfl (.litA rfl sl_24_A ze_2_L rfl rfl rfl rfl) ?_
   rintro _ _ ⟨_, rfl, g2, _, n9⟩
   replace o := o.le g2
   replace b8 := b8.le g2
   replace hs := hs.le g2
   replace c8 := g2.2 _ _ c8
   replace aF := g2.2 _ _ aF
   replace aT := g2.2 _ _ aT
   replace aI := g2.2 _ _ aI
   replace aC := g2.2 _ _ aC
   replace b := g2.2 _ _ b
   refine .call rfl rfl rfl rfl @Try.call106 rfl ((by have hh := l01Pick_c (xs := [c.obj + 1, -1, 9]) (hl := fun H' s => Ints.of_get (s.same _ _ ⟨by omega, trivial⟩ n9)) (h0 := by simp); exact hh)) ?_
   rintro _ _ ⟨p7, n8, rfl, h3, hs⟩
   obtain ⟨p2, q6, q4⟩ : ∃ k : Int, ([c.obj + 1, -1, 9] : List Int).getD p7 0 = k ∧ -9223372036854775808 ≤ k ∧ k ≤ 9223372036854775807 := ⟨_, rfl, bd_iff.2 (by intro x hx; simp only [List.mem_cons, List.not_mem_nil, or_false] at hx; omega) _ n8⟩
   rw [q6]
   replace o := o.sA h3
   replace b8 := b8.sA h3
   replace c8 := h3.s c8 t.ne
   replace aF := h3.s aF u.ne
   replace aT := h3.s aT z.ne
   replace aI := h3.s aI y.ne
   replace aC := h3.s aC w.ne
   replace b := h3.s b v.ne
   refine .q rfl (.fieldAddr fo_27_0_B rfl) ?_
   refine .r0 rfl rfl (.storeR rfl sz_2_N rfl rfl rfl (by assumption) (by first | exact Nat.le_of_ble_eq_true rfl | (simp; done) | (simp <;> omega))) ?_
   rintro _ _ ⟨rfl, e2, j4⟩
   replace o := o.sA e2
   replace b8 := b8.sA e2
   replace hs := hs.sA e2
   replace c8 := e2.s c8 f4.ne
   replace aF := e2.s aF f5.ne
   replace aT := e2.s aT e8.ne
   replace aI := e2.s aI f0.ne
   replace aC := e2.s aC e7.ne
   try simp only [Nat.zero_add, List.set_cons_succ, List.set_cons_zero] at j4
   refine .nil (i1 _ _ (.seq (fun K8 p9 => .region ?_)))
   refine .q rfl (.loadM ag_27_D rfl ⟨rfl, Mem.of_get j4⟩) ?_
   refine .r0 rfl rfl (.fillA rfl sz_27_D rfl rfl rfl rfl) ?_
   rintro _ _ ⟨rfl, d8, j9⟩
   replace o := o.sA d8
   replace hs := hs.sA d8
   have n : NE gF g4 := .a
   replace aF := d8.s aF n.ne
   have m : NE gT g4 := .a
   replace aT := d8.s aT m.ne
   have d : NE gI g4 := .a
   replace aI := d8.s aI d.ne
   have f : NE gC g4 := .a
   replace aC := d8.s aC f.ne
   refine .nil (p9 _ _ (.ret (e9 _ _ (⟨_, _, _, _, rfl, ag_27_D, (by rfl), (Mem.of_get j9), ?_⟩))))
   have hR' := (hRR.st b8 offA).st d8 (.cons (hRR.lowNe (by omega)) (.nil _ _))
   exact ⟨⟨p2, c.src, c.tgt, c.idn, c.comp⟩, ownP gF gT gI gC rr, rfl, ⟨n1, n2, n3, n4, n5, q4⟩, (KIn.own (c := ⟨p2, c.src, c.tgt, c.idn, c.comp⟩) aF bF aT bT aI bI aC bC hR').keep (.of_le (.refl _)) (by omega), o, hs⟩
  try simp only [sps] at o9
  refine .seq (fun K9 q8 => .region (.q rfl (.cmp rfl rfl rfl) (.mv rfl (.nil (q8 _ _ ?_)))))
  refine .cond rfl ?_ ?_ <;> intro o7
  ·
   try simp only [sps] at o7
   refine .region (.q rfl (.fieldAddr fo_27_1_B rfl) ?_)
   refine .q rfl (.load on_24_B rfl (by first | assumption | exact Mem.of_get b 1 _ rfl)) ?_
   refine .R rfl (.litA rfl sl_24_A ze_2_L rfl rfl rfl rfl) ?_
   rintro _ _ ⟨_, rfl, g6, _, m7⟩
   replace o := o.le g6
   replace b8 := b8.le g6
   replace hs := hs.le g6
   replace c8 := g6.2 _ _ c8
   replace aF := g6.2 _ _ aF
   replace aT := g6.2 _ _ aT
   replace aI := g6.2 _ _ aI
   replace aC := g6.2 _ _ aC
   replace b := g6.2 _ _ b
   have _ := GHeap.ltg m7
   refine .R rfl (.apI rfl sl_24_A ze_2_L rfl by_2_L sl_24_A rfl rfl) ?_
   rintro _ _ ⟨q7, rfl, h1, _, j3⟩
   replace o := o.sA h1
   replace b8 := b8.sA h1
   replace hs := hs.sA h1
   replace c8 := h1.s c8
   replace aT := h1.s aT
   replace aI := h1.s aI
   replace aC := h1.s aC
   replace b := h1.s b (Ne.symm f5.ne)
   refine .q rfl (.fieldAddr fo_27_1_B rfl) ?_
   refine .r0 rfl rfl (.storeR rfl sz_24_Ch rfl rfl rfl (by assumption) (by first | exact Nat.le_of_ble_eq_true rfl | (simp; done) | (simp <;> omega))) ?_
   rintro _ _ ⟨rfl, d1, i3⟩
   replace o := o.sA d1
   replace b8 := b8.sA d1
   replace hs := hs.sA d1
   replace c8 := d1.s c8 f4.ne
   replace aT := d1.s aT e8.ne
   replace aI := d1.s aI f0.ne
   replace aC := d1.s aC e7.ne
   replace j3 := d1.s j3
   try simp only [Nat.zero_add, List.set_cons_succ, List.set_cons_zero] at i3
   refine .nil (i1 _ _ (.seq (fun K10 k8 => .region ?_)))
   refine .q rfl (.loadM ag_27_D rfl ⟨rfl, Mem.of_get i3⟩) ?_
   refine .r0 rfl rfl (.fillA rfl sz_27_D rfl rfl rfl rfl) ?_
   rintro _ _ ⟨rfl, b9, j0⟩
   replace o := o.sA b9
   replace hs := hs.sA b9
   have m : NE gT g4 := .a
   replace aT := b9.s aT m.ne
   have d : NE gI g4 := .a
   replace aI := b9.s aI d.ne
   have f : NE gC g4 := .a
   replace aC := b9.s aC f.ne
   replace j3 := b9.s j3
   refine .nil (k8 _ _ (.ret (e9 _ _ (⟨_, _, _, _, rfl, ag_27_D, (by rfl), (Mem.of_get j0), ?_⟩))))
   have hR' := (hRR.st b8 offA).st b9 (.cons (hRR.lowNe (by omega)) (.nil _ _))
   exact ⟨⟨c.obj, c.src ++ [0], c.tgt, c.idn, c.comp⟩, ownP q7 gT gI gC rr, by simp [Cat.cells, ownP], ⟨by simp; omega, n2, n3, n4, n5, n6⟩, (KIn.own (c := ⟨c.obj, c.src ++ [0], c.tgt, c.idn, c.comp⟩) j3 (by omega) aT bT aI bI aC bC hR').keep (.of_le (.refl _)) (by omega), o, hs⟩
  try simp only [sps] at o7
  refine .seq (fun K11 l6 => .region (.q rfl (.cmp rfl rfl rfl) (.mv rfl (.nil (l6 _ _ ?_)))))
  refine .cond rfl ?_ ?_ <;> intro p5
  ·
   try simp only [sps] at p5
   refine .seq (fun K12 m6 => .region (.q rfl (.fieldAddr fo_27_3_B rfl) ?_))
   refine .q rfl (.load on_24_B rfl (by first | assumption | exact Mem.of_get b 3 _ rfl)) ?_
   refine .q rfl (.len sl_24_A rfl) (.q rfl (.cmp rfl rfl rfl) (.nil (m6 _ _ ?_)))
   refine .cond rfl ?_ ?_ <;> intro p3
   ·
    try simp only [sps] at p3
    refine .regionDB mo_B (.qs [0, 1, 2, 3, 4] (.c 5 1 (.q 6 (.c 7 0 (.done))))) (by kernel_rfl) (GHeap.le_erase j8 gS) ?_
    have r := GHeap.le_erase j8 gS
    have j6 := GHeap.get_erase_of (g := gS) b (by omega)
    have aIB := GHeap.get_erase_of (g := gS) aI (by omega)
    refine .qB rfl r (.fieldAddr fo_27_3_B rfl) (.qB rfl r (.load on_24_B rfl (Mem.of_get j6 3 _ rfl)) (.qB rfl r (.move rfl) (.qB rfl r (.move rfl) (.qB rfl r (.aD rfl rfl rfl) ?_))))
    refine .call1 rfl rfl rfl rfl rfl @Try.call30 rfl (l01Next_c) ?_
    rintro _ _ ⟨o8, rfl, _, _, _, g8, hs⟩
    replace r := r.erase_st g8
    refine ⟨r, ?_⟩
    replace o := o.sA g8
    replace b8 := b8.sA g8
    replace c8 := g8.s c8 t.ne
    replace aF := g8.s aF u.ne
    replace aT := g8.s aT z.ne
    replace aI := g8.s aI y.ne
    replace aC := g8.s aC w.ne
    replace b := g8.s b v.ne
    refine .qB rfl r (.idxN (j := 0) sl_24_A (SlA.of_row aIB (by first | rfl | (simp; done) | (simp <;> omega))) rfl rfl (by omega)) ?_
    refine .r0 rfl rfl rfl (.storeI rfl sz_2_N rfl rfl (by assumption) (by first | omega | (simp <;> omega))) ?_
    rintro _ _ ⟨rfl, d2, f3⟩
    replace o := o.sA d2
    replace b8 := b8.sA d2
    replace hs := hs.sA d2
    have h4 : NE g4 gI := .a
    replace c8 := d2.s c8 h4.ne
    replace aF := d2.s aF
    replace aT := d2.s aT
    replace aC := d2.s aC
    replace b := d2.s b (Ne.symm f0.ne)
    rw [Nat.zero_add] at f3
    refine .done (i1 _ _ (.seq (fun K13 o6 => .region ?_)))
    refine .q rfl (.loadM ag_27_D rfl ⟨rfl, Mem.of_get b⟩) ?_
    refine .r0 rfl rfl (.fillA rfl sz_27_D rfl rfl rfl rfl) ?_
    rintro _ _ ⟨rfl, c5, i9⟩
    replace o := o.sA c5
    replace hs := hs.sA c5
    have n : NE gF g4 := .a
    replace aF := c5.s aF n.ne
    have m : NE gT g4 := .a
    replace aT := c5.s aT m.ne
    have f : NE gC g4 := .a
    replace aC := c5.s aC f.ne
    replace f3 := c5.s f3 (Ne.symm h4.ne)
    refine .nil (o6 _ _ (.ret (e9 _ _ (⟨_, _, _, _, rfl, ag_27_D, (by rfl), (Mem.of_get i9), ?_⟩))))
    have hR' := (hRR.st b8 offA).st c5 (.cons (hRR.lowNe (by omega)) (.nil _ _))
    exact ⟨⟨c.obj, c.src, c.tgt, c.idn.set 0 o8, c.comp⟩, ownP gF gT gI gC rr, by simp [Cat.cells, ownP], ⟨n1, n2, by rw [List.length_set]; exact n3, n4, n5, n6⟩, (KIn.own (c := ⟨c.obj, c.src, c.tgt, c.idn.set 0 o8, c.comp⟩) aF bF aT bT f3 bI aC bC hR').keep (.of_le (.refl _)) (by omega), o, hs⟩
   try simp only [sps] at p3
   refine .skip (i1 _ _ (.seq (fun K14 o1 => .region ?_)))
   refine .q rfl (.loadM ag_27_D rfl ⟨rfl, Mem.of_get b⟩) ?_
   refine .r0 rfl rfl (.fillA rfl sz_27_D rfl rfl rfl rfl) ?_
   rintro _ _ ⟨rfl, c3, i8⟩
   replace o := o.sA c3
   replace hs := hs.sA c3
   have n : NE gF g4 := .a
   replace aF := c3.s aF n.ne
   have m : NE gT g4 := .a
   replace aT := c3.s aT m.ne
   have d : NE gI g4 := .a
   replace aI := c3.s aI d.ne
   have f : NE gC g4 := .a
   replace aC := c3.s aC f.ne
   refine .nil (o1 _ _ (.ret (e9 _ _ (⟨_, _, _, _, rfl, ag_27_D, (by rfl), (Mem.of_get i8), ?_⟩))))
   have hR' := (hRR.st b8 offA).st c3 (.cons (hRR.lowNe (by omega)) (.nil _ _))
   exact ⟨c, ownP gF gT gI gC rr, rfl, hsm, (KIn.own aF bF aT bT aI bI aC bC hR').keep (.of_le (.refl _)) (by omega), o, hs⟩
  try simp only [sps] at p5
  refine .seq (fun K15 k3 => .seq (fun K16 l0 => .region (.q rfl (.cmp rfl rfl rfl) (.mv rfl (.nil (l0 _ _ ?_))))))
  refine .cond rfl ?_ ?_ <;> intro i0
  ·
   try simp only [sps] at i0
   refine .skip (k3 _ _ ?_)
   refine .cond rfl ?_ ?_ <;> intro i0
   ·
    try simp only [sps] at i0
    refine .seq (fun K17 l5 => .region (.mv rfl (.q rfl (.cmp rfl rfl rfl) (.nil (l5 _ _ ?_)))))
    refine .cond rfl ?_ ?_ <;> intro k0
    ·
     try simp only [sps] at k0
     refine .regionDB mo_B (.qs [0, 1, 2, 3, 4, 5, 6, 8, 9, 10] (.c 7 1 (.c 11 1 (.q 12 (.q 13 (.c 14 0 (.done))))))) (by kernel_rfl) (GHeap.le_erase j8 gS) ?_
     have r := GHeap.le_erase j8 gS
     have j6 := GHeap.get_erase_of (g := gS) b (by omega)
     have aCB := GHeap.get_erase_of (g := gS) aC (by omega)
     obtain ⟨gi, hgi, hbi, hati⟩ := (hRR.st b8 offA).row f1.toNat (by omega)
     have atiB := GHeap.get_erase_of (g := gS) hati (by omega)
     have cC := slsL_cell aCB (i := f1.toNat) (by omega)
     rw [hgi] at cC
     have m1 : gF ≠ gi := fun e => v8.r1 f1.toNat (by omega) (by rw [hgi, e])
     have m2 : gT ≠ gi := fun e => v8.r2 f1.toNat (by omega) (by rw [hgi, e])
     have m3 : gI ≠ gi := fun e => v8.r3 f1.toNat (by omega) (by rw [hgi, e])
     have m4 := row_ne aC hati rfl
     have m8 := a9 f1.toNat (by omega)
     refine .qB rfl r (.fieldAddr fo_27_4_B rfl) (.qB rfl r (.load on_25_B rfl (Mem.of_get j6 4 _ rfl)) (.qB rfl r (.move rfl) ?_))
     refine .qB rfl r (.idx1 sl_25_B (SlA.of_row aCB (by first | rfl | (simp; done) | (simp <;> omega))) rfl rfl (by omega) (by omega)) ?_
     refine .qB rfl r (.load on_24_B rfl cC) (.qB rfl r (.move rfl) (.qB rfl r (.move rfl) (.qB rfl r (.move rfl) (.qB rfl r (.move rfl) (.qB rfl r (.aD rfl rfl rfl) ?_)))))
     refine .call1 rfl rfl rfl rfl rfl @Try.call30 rfl (l01Next_c) ?_
     rintro _ _ ⟨_, rfl, _, _, _, f7, hs⟩
     replace r := r.erase_st f7
     refine ⟨r, ?_⟩
     replace o := o.sA f7
     replace b8 := b8.sA f7
     replace c8 := f7.s c8 t.ne
     replace aF := f7.s aF u.ne
     replace aT := f7.s aT z.ne
     replace aI := f7.s aI y.ne
     replace aC := f7.s aC w.ne
     replace b := f7.s b v.ne
     have c7 : NE gi gS := .a
     replace hati := f7.s hati c7.ne
     refine .call1 rfl rfl rfl rfl rfl @Try.call30 rfl (l01Next_c) ?_
     rintro _ _ ⟨_, rfl, _, _, _, f6, hs⟩
     replace r := r.erase_st f6
     refine ⟨r, ?_⟩
     replace o := o.sA f6
     replace b8 := b8.sA f6
     replace c8 := f6.s c8 t.ne
     replace aF := f6.s aF u.ne
     replace aT := f6.s aT z.ne
     replace aI := f6.s aI y.ne
     replace aC := f6.s aC w.ne
     replace b := f6.s b v.ne
     replace hati := f6.s hati c7.ne
     refine .qB rfl r (.sub rfl rfl rfl (by omega) (by omega)) ?_
     refine .qB rfl r (.idx1 sl_24_A (SlA.of_row atiB (by first | rfl | (simp; done) | (simp <;> omega))) rfl rfl (by omega) (by omega)) ?_
     refine .r0 rfl rfl rfl (.storeI rfl sz_2_N rfl rfl (by assumption) (by first | omega | (simp <;> omega))) ?_
     rintro _ _ ⟨rfl, c9, i2⟩
     replace o := o.sA c9
     replace hs := hs.sA c9
     have e0 : NE g4 gi := .a
     replace c8 := c9.s c8 e0.ne
     have e6 : NE gF gi := .a
     replace aF := c9.s aF e6.ne
     have e5 : NE gT gi := .a
     replace aT := c9.s aT e5.ne
     have e4 : NE gI gi := .a
     replace aI := c9.s aI e4.ne
     have e3 : NE gC gi := .a
     replace aC := c9.s aC e3.ne
     have d9 : NE g3 gi := .a
     replace b := c9.s b d9.ne
     rw [Nat.zero_add] at i2
     have j5 := bend_set (hRR.st b8 offA) c9 (by omega) hgi i2 (by rw [List.length_set])
     refine .done (i1 _ _ (.seq (fun K18 m0 => .region ?_)))
     refine .q rfl (.loadM ag_27_D rfl ⟨rfl, Mem.of_get b⟩) ?_
     refine .r0 rfl rfl (.fillA rfl sz_27_D rfl rfl rfl rfl) ?_
     rintro _ _ ⟨rfl, c4, j1⟩
     replace o := o.sA c4
     replace hs := hs.sA c4
     have n : NE gF g4 := .a
     replace aF := c4.s aF n.ne
     have m : NE gT g4 := .a
     replace aT := c4.s aT m.ne
     have d : NE gI g4 := .a
     replace aI := c4.s aI d.ne
     have f : NE gC g4 := .a
     replace aC := c4.s aC f.ne
     refine .nil (m0 _ _ (.ret (e9 _ _ (⟨_, _, _, _, rfl, ag_27_D, (by rfl), (Mem.of_get j1), ?_⟩))))
     obtain ⟨T, k2, j2, k1, j7⟩ := j5
     have hR' := j7.st c4 (.cons (j7.lowNe (by omega)) (.nil _ _))
     rw [← k2] at aC
     exact ⟨⟨c.obj, c.src, c.tgt, c.idn, T⟩, ownP gF gT gI gC rr, by simp [Cat.cells, ownP, j2], ⟨n1, n2, n3, (by rw [j2]; exact n4), fun i => Nat.le_trans (Nat.le_of_eq (k1 i)) (n5 i), n6⟩, (KIn.own (c := ⟨c.obj, c.src, c.tgt, c.idn, T⟩) aF bF aT bT aI bI aC bC hR').keep (.of_le (.refl _)) (by omega), o, hs⟩
    try simp only [sps] at k0
    refine .skip (i1 _ _ (.seq (fun K19 o4 => .region ?_)))
    refine .q rfl (.loadM ag_27_D rfl ⟨rfl, Mem.of_get b⟩) ?_
    refine .r0 rfl rfl (.fillA rfl sz_27_D rfl rfl rfl rfl) ?_
    rintro _ _ ⟨rfl, c0, i4⟩
    replace o := o.sA c0
    replace hs := hs.sA c0
    have n : NE gF g4 := .a
    replace aF := c0.s aF n.ne
    have m : NE gT g4 := .a
    replace aT := c0.s aT m.ne
    have d : NE gI g4 := .a
    replace aI := c0.s aI d.ne
    have f : NE gC g4 := .a
    replace aC := c0.s aC f.ne
    refine .nil (o4 _ _ (.ret (e9 _ _ (⟨_, _, _, _, rfl, ag_27_D, (by rfl), (Mem.of_get i4), ?_⟩))))
    have hR' := (hRR.st b8 offA).st c0 (.cons (hRR.lowNe (by omega)) (.nil _ _))
    exact ⟨c, ownP gF gT gI gC rr, rfl, hsm, (KIn.own aF bF aT bT aI bI aC bC hR').keep (.of_le (.refl _)) (by omega), o, hs⟩
   simp only [sps] at i0; omega
  try simp only [sps] at i0
  refine .seq (fun K20 n7 => .region (.q rfl (.cmp rfl rfl rfl) (.mv rfl (.nil (n7 _ _ ?_)))))
  refine .cond rfl ?_ ?_ <;> intro i0
  ·
   try simp only [sps] at i0
   refine .skip (k3 _ _ ?_)
   refine .cond rfl ?_ ?_ <;> intro i0
   ·
    try simp only [sps] at i0
    refine .seq (fun K21 o5 => .region (.mv rfl (.q rfl (.cmp rfl rfl rfl) (.nil (o5 _ _ ?_)))))
    refine .cond rfl ?_ ?_ <;> intro k0
    ·
     try simp only [sps] at k0
     refine .regionDB mo_B (.qs [0, 1, 2, 3, 4, 5, 6, 8, 9, 10] (.c 7 1 (.c 11 1 (.q 12 (.q 13 (.c 14 0 (.done))))))) (by kernel_rfl) (GHeap.le_erase j8 gS) ?_
     have r := GHeap.le_erase j8 gS
     have j6 := GHeap.get_erase_of (g := gS) b (by omega)
     have aCB := GHeap.get_erase_of (g := gS) aC (by omega)
     obtain ⟨gi, hgi, hbi, hati⟩ := (hRR.st b8 offA).row f1.toNat (by omega)
     have atiB := GHeap.get_erase_of (g := gS) hati (by omega)
     have cC := slsL_cell aCB (i := f1.toNat) (by omega)
     rw [hgi] at cC
     have m1 : gF ≠ gi := fun e => v8.r1 f1.toNat (by omega) (by rw [hgi, e])
     have m2 : gT ≠ gi := fun e => v8.r2 f1.toNat (by omega) (by rw [hgi, e])
     have m3 : gI ≠ gi := fun e => v8.r3 f1.toNat (by omega) (by rw [hgi, e])
     have m4 := row_ne aC hati rfl
     have m8 := a9 f1.toNat (by omega)
     refine .qB rfl r (.fieldAddr fo_27_4_B rfl) (.qB rfl r (.load on_25_B rfl (Mem.of_get j6 4 _ rfl)) (.qB rfl r (.move rfl) ?_))
     refine .qB rfl r (.idx1 sl_25_B (SlA.of_row aCB (by first | rfl | (simp; done) | (simp <;> omega))) rfl rfl (by omega) (by omega)) ?_
     refine .qB rfl r (.load on_24_B rfl cC) (.qB rfl r (.move rfl) (.qB rfl r (.move rfl) (.qB rfl r (.move rfl) (.qB rfl r (.move rfl) (.qB rfl r (.aD rfl rfl rfl) ?_)))))
     refine .call1 rfl rfl rfl rfl rfl @Try.call30 rfl (l01Next_c) ?_
     rintro _ _ ⟨_, rfl, _, _, _, d3, hs⟩
     replace r := r.erase_st d3
     refine ⟨r, ?_⟩
     replace o := o.sA d3
     replace b8 := b8.sA d3
     replace c8 := d3.s c8 t.ne
     replace aF := d3.s aF u.ne
     replace aT := d3.s aT z.ne
     replace aI := d3.s aI y.ne
     replace aC := d3.s aC w.ne
     replace b := d3.s b v.ne
     have c7 : NE gi gS := .a
     replace hati := d3.s hati c7.ne
     refine .call1 rfl rfl rfl rfl rfl @Try.call30 rfl (l01Next_c) ?_
     rintro _ _ ⟨_, rfl, _, _, _, d4, hs⟩
     replace r := r.erase_st d4
     refine ⟨r, ?_⟩
     replace o := o.sA d4
     replace b8 := b8.sA d4
     replace c8 := d4.s c8 t.ne
     replace aF := d4.s aF u.ne
     replace aT := d4.s aT z.ne
     replace aI := d4.s aI y.ne
     replace aC := d4.s aC w.ne
     replace b := d4.s b v.ne
     replace hati := d4.s hati c7.ne
     refine .qB rfl r (.sub rfl rfl rfl (by omega) (by omega)) ?_
     refine .qB rfl r (.idx1 sl_24_A (SlA.of_row atiB (by first | rfl | (simp; done) | (simp <;> omega))) rfl rfl (by omega) (by omega)) ?_
     refine .r0 rfl rfl rfl (.storeI rfl sz_2_N rfl rfl (by assumption) (by first | omega | (simp <;> omega))) ?_
     rintro _ _ ⟨rfl, a0, f8⟩
     replace o := o.sA a0
     replace hs := hs.sA a0
     have e0 : NE g4 gi := .a
     replace c8 := a0.s c8 e0.ne
     have e6 : NE gF gi := .a
     replace aF := a0.s aF e6.ne
     have e5 : NE gT gi := .a
     replace aT := a0.s aT e5.ne
     have e4 : NE gI gi := .a
     replace aI := a0.s aI e4.ne
     have e3 : NE gC gi := .a
     replace aC := a0.s aC e3.ne
     have d9 : NE g3 gi := .a
     replace b := a0.s b d9.ne
     rw [Nat.zero_add] at f8
     have j5 := bend_set (hRR.st b8 offA) a0 (by omega) hgi f8 (by rw [List.length_set])
     refine .done (i1 _ _ (.seq (fun K22 o2 => .region ?_)))
     refine .q rfl (.loadM ag_27_D rfl ⟨rfl, Mem.of_get b⟩) ?_
     refine .r0 rfl rfl (.fillA rfl sz_27_D rfl rfl rfl rfl) ?_
     rintro _ _ ⟨rfl, c2, i5⟩
     replace o := o.sA c2
     replace hs := hs.sA c2
     have n : NE gF g4 := .a
     replace aF := c2.s aF n.ne
     have m : NE gT g4 := .a
     replace aT := c2.s aT m.ne
     have d : NE gI g4 := .a
     replace aI := c2.s aI d.ne
     have f : NE gC g4 := .a
     replace aC := c2.s aC f.ne
     refine .nil (o2 _ _ (.ret (e9 _ _ (⟨_, _, _, _, rfl, ag_27_D, (by rfl), (Mem.of_get i5), ?_⟩))))
     obtain ⟨T, k2, j2, k1, j7⟩ := j5
     have hR' := j7.st c2 (.cons (j7.lowNe (by omega)) (.nil _ _))
     rw [← k2] at aC
     exact ⟨⟨c.obj, c.src, c.tgt, c.idn, T⟩, ownP gF gT gI gC rr, by simp [Cat.cells, ownP, j2], ⟨n1, n2, n3, (by rw [j2]; exact n4), fun i => Nat.le_trans (Nat.le_of_eq (k1 i)) (n5 i), n6⟩, (KIn.own (c := ⟨c.obj, c.src, c.tgt, c.idn, T⟩) aF bF aT bT aI bI aC bC hR').keep (.of_le (.refl _)) (by omega), o, hs⟩
    try simp only [sps] at k0
    refine .skip (i1 _ _ (.seq (fun K23 o0 => .region ?_)))
    refine .q rfl (.loadM ag_27_D rfl ⟨rfl, Mem.of_get b⟩) ?_
    refine .r0 rfl rfl (.fillA rfl sz_27_D rfl rfl rfl rfl) ?_
    rintro _ _ ⟨rfl, c6, i7⟩
    replace o := o.sA c6
    replace hs := hs.sA c6
    have n : NE gF g4 := .a
    replace aF := c6.s aF n.ne
    have m : NE gT g4 := .a
    replace aT := c6.s aT m.ne
    have d : NE gI g4 := .a
    replace aI := c6.s aI d.ne
    have f : NE gC g4 := .a
    replace aC := c6.s aC f.ne
    refine .nil (o0 _ _ (.ret (e9 _ _ (⟨_, _, _, _, rfl, ag_27_D, (by rfl), (Mem.of_get i7), ?_⟩))))
    have hR' := (hRR.st b8 offA).st c6 (.cons (hRR.lowNe (by omega)) (.nil _ _))
    exact ⟨c, ownP gF gT gI gC rr, rfl, hsm, (KIn.own aF bF aT bT aI bI aC bC hR').keep (.of_le (.refl _)) (by omega), o, hs⟩
   simp only [sps] at i0; omega
  try simp only [sps] at i0
  refine .region (.q rfl (.cmp rfl rfl rfl) (.mv rfl (.nil (k3 _ _ ?_))))
  refine .cond rfl ?_ ?_ <;> intro i0
  ·
   try simp only [sps] at i0
   refine .seq (fun K24 m5 => .region (.mv rfl (.q rfl (.cmp rfl rfl rfl) (.nil (m5 _ _ ?_)))))
   refine .cond rfl ?_ ?_ <;> intro k0
   ·
    try simp only [sps] at k0
    refine .regionDB mo_B (.qs [0, 1, 2, 3, 4, 5, 6, 8, 9, 10] (.c 7 1 (.c 11 1 (.q 12 (.q 13 (.c 14 0 (.done))))))) (by kernel_rfl) (GHeap.le_erase j8 gS) ?_
    have r := GHeap.le_erase j8 gS
    have j6 := GHeap.get_erase_of (g := gS) b (by omega)
    have aCB := GHeap.get_erase_of (g := gS) aC (by omega)
    obtain ⟨gi, hgi, hbi, hati⟩ := (hRR.st b8 offA).row f1.toNat (by omega)
    have atiB := GHeap.get_erase_of (g := gS) hati (by omega)
    have cC := slsL_cell aCB (i := f1.toNat) (by omega)
    rw [hgi] at cC
    have m1 : gF ≠ gi := fun e => v8.r1 f1.toNat (by omega) (by rw [hgi, e])
    have m2 : gT ≠ gi := fun e => v8.r2 f1.toNat (by omega) (by rw [hgi, e])
    have m3 : gI ≠ gi := fun e => v8.r3 f1.toNat (by omega) (by rw [hgi, e])
    have m4 := row_ne aC hati rfl
    have m8 := a9 f1.toNat (by omega)
    refine .qB rfl r (.fieldAddr fo_27_4_B rfl) (.qB rfl r (.load on_25_B rfl (Mem.of_get j6 4 _ rfl)) (.qB rfl r (.move rfl) ?_))
    refine .qB rfl r (.idx1 sl_25_B (SlA.of_row aCB (by first | rfl | (simp; done) | (simp <;> omega))) rfl rfl (by omega) (by omega)) ?_
    refine .qB rfl r (.load on_24_B rfl cC) (.qB rfl r (.move rfl) (.qB rfl r (.move rfl) (.qB rfl r (.move rfl) (.qB rfl r (.move rfl) (.qB rfl r (.aD rfl rfl rfl) ?_)))))
    refine .call1 rfl rfl rfl rfl rfl @Try.call30 rfl (l01Next_c) ?_
    rintro _ _ ⟨_, rfl, _, _, _, d6, hs⟩
    replace r := r.erase_st d6
    refine ⟨r, ?_⟩
    replace o := o.sA d6
    replace b8 := b8.sA d6
    replace c8 := d6.s c8 t.ne
    replace aF := d6.s aF u.ne
    replace aT := d6.s aT z.ne
    replace aI := d6.s aI y.ne
    replace aC := d6.s aC w.ne
    replace b := d6.s b v.ne
    have c7 : NE gi gS := .a
    replace hati := d6.s hati c7.ne
    refine .call1 rfl rfl rfl rfl rfl @Try.call30 rfl (l01Next_c) ?_
    rintro _ _ ⟨_, rfl, _, _, _, d5, hs⟩
    replace r := r.erase_st d5
    refine ⟨r, ?_⟩
    replace o := o.sA d5
    replace b8 := b8.sA d5
    replace c8 := d5.s c8 t.ne
    replace aF := d5.s aF u.ne
    replace aT := d5.s aT z.ne
    replace aI := d5.s aI y.ne
    replace aC := d5.s aC w.ne
    replace b := d5.s b v.ne
    replace hati := d5.s hati c7.ne
    refine .qB rfl r (.sub rfl rfl rfl (by omega) (by omega)) ?_
    refine .qB rfl r (.idx1 sl_24_A (SlA.of_row atiB (by first | rfl | (simp; done) | (simp <;> omega))) rfl rfl (by omega) (by omega)) ?_
    refine .r0 rfl rfl rfl (.storeI rfl sz_2_N rfl rfl (by assumption) (by first | omega | (simp <;> omega))) ?_
    rintro _ _ ⟨rfl, a5, f9⟩
    replace o := o.sA a5
    replace hs := hs.sA a5
    have e0 : NE g4 gi := .a
    replace c8 := a5.s c8 e0.ne
    have e6 : NE gF gi := .a
    replace aF := a5.s aF e6.ne
    have e5 : NE gT gi := .a
    replace aT := a5.s aT e5.ne
    have e4 : NE gI gi := .a
    replace aI := a5.s aI e4.ne
    have e3 : NE gC gi := .a
    replace aC := a5.s aC e3.ne
    have d9 : NE g3 gi := .a
    replace b := a5.s b d9.ne
    rw [Nat.zero_add] at f9
    have j5 := bend_set (hRR.st b8 offA) a5 (by omega) hgi f9 (by rw [List.length_set])
    refine .done (i1 _ _ (.seq (fun K25 l9 => .region ?_)))
    refine .q rfl (.loadM ag_27_D rfl ⟨rfl, Mem.of_get b⟩) ?_
    refine .r0 rfl rfl (.fillA rfl sz_27_D rfl rfl rfl rfl) ?_
    rintro _ _ ⟨rfl, c1, i6⟩
    replace o := o.sA c1
    replace hs := hs.sA c1
    have n : NE gF g4 := .a
    replace aF := c1.s aF n.ne
    have m : NE gT g4 := .a
    replace aT := c1.s aT m.ne
    have d : NE gI g4 := .a
    replace aI := c1.s aI d.ne
    have f : NE gC g4 := .a
    replace aC := c1.s aC f.ne
    refine .nil (l9 _ _ (.ret (e9 _ _ (⟨_, _, _, _, rfl, ag_27_D, (by rfl), (Mem.of_get i6), ?_⟩))))
    obtain ⟨T, k2, j2, k1, j7⟩ := j5
    have hR' := j7.st c1 (.cons (j7.lowNe (by omega)) (.nil _ _))
    rw [← k2] at aC
    exact ⟨⟨c.obj, c.src, c.tgt, c.idn, T⟩, ownP gF gT gI gC rr, by simp [Cat.cells, ownP, j2], ⟨n1, n2, n3, (by rw [j2]; exact n4), fun i => Nat.le_trans (Nat.le_of_eq (k1 i)) (n5 i), n6⟩, (KIn.own (c := ⟨c.obj, c.src, c.tgt, c.idn, T⟩) aF bF aT bT aI bI aC bC hR').keep (.of_le (.refl _)) (by omega), o, hs⟩
   try simp only [sps] at k0
   refine .skip (i1 _ _ (.seq (fun K26 n0 => .region ?_)))
   refine .q rfl (.loadM ag_27_D rfl ⟨rfl, Mem.of_get b⟩) ?_
   refine .r0 rfl rfl (.fillA rfl sz_27_D rfl rfl rfl rfl) ?_
   rintro _ _ ⟨rfl, b7, h6⟩
   replace o := o.sA b7
   replace hs := hs.sA b7
   have n : NE gF g4 := .a
   replace aF := b7.s aF n.ne
   have m : NE gT g4 := .a
   replace aT := b7.s aT m.ne
   have d : NE gI g4 := .a
   replace aI := b7.s aI d.ne
   have f : NE gC g4 := .a
   replace aC := b7.s aC f.ne
   refine .nil (n0 _ _ (.ret (e9 _ _ (⟨_, _, _, _, rfl, ag_27_D, (by rfl), (Mem.of_get h6), ?_⟩))))
   have hR' := (hRR.st b8 offA).st b7 (.cons (hRR.lowNe (by omega)) (.nil _ _))
   exact ⟨c, ownP gF gT gI gC rr, rfl, hsm, (KIn.own aF bF aT bT aI bI aC bC hR').keep (.of_le (.refl _)) (by omega), o, hs⟩
  try simp only [sps] at i0
  refine .seq (fun K27 l2 => .region (.q rfl (.cmp rfl rfl rfl) (.mv rfl (.nil (l2 _ _ ?_)))))
  refine .cond rfl ?_ ?_ <;> intro p0
  ·
   try simp only [sps] at p0
   refine .seq (fun K28 l4 => .region (.mv rfl (.q rfl (.cmp rfl rfl rfl) (.nil (l4 _ _ ?_)))))
   refine .cond rfl ?_ ?_ <;> intro p4
   ·
    try simp only [sps] at p4
    refine .regionDB mo_B (.qs [0, 1, 2, 3, 4, 5, 6] (.c 7 1 (.q 8 (.c 9 0 (.done))))) (by kernel_rfl) (GHeap.le_erase j8 gS) ?_
    have r := GHeap.le_erase j8 gS
    have j6 := GHeap.get_erase_of (g := gS) b (by omega)
    have aTB := GHeap.get_erase_of (g := gS) aT (by omega)
    refine .qB rfl r (.fieldAddr fo_27_2_B rfl) (.qB rfl r (.load on_24_B rfl (Mem.of_get j6 2 _ rfl)) (.qB rfl r (.move rfl) (.qB rfl r (.move rfl) (.qB rfl r (.fieldAddr fo_27_0_B rfl) (.qB rfl r (.load on_2_A rfl (Mem.of_get j6 0 _ rfl)) (.qB rfl r (.aD rfl rfl rfl) ?_))))))
    refine .call1 rfl rfl rfl rfl rfl @Try.call30 rfl (l01Next_c) ?_
    rintro _ _ ⟨p1, rfl, _, _, _, g0, hs⟩
    replace r := r.erase_st g0
    refine ⟨r, ?_⟩
    replace o := o.sA g0
    replace b8 := b8.sA g0
    replace c8 := g0.s c8 t.ne
    replace aF := g0.s aF u.ne
    replace aT := g0.s aT z.ne
    replace aI := g0.s aI y.ne
    replace aC := g0.s aC w.ne
    replace b := g0.s b v.ne
    refine .qB rfl r (.idx1 sl_24_A (SlA.of_row aTB (by first | rfl | (simp; done) | (simp <;> omega))) rfl rfl (by omega) (by omega)) ?_
    refine .r0 rfl rfl rfl (.storeI rfl sz_2_N rfl rfl (by assumption) (by first | omega | (simp <;> omega))) ?_
    rintro _ _ ⟨rfl, d0, f2⟩
    replace o := o.sA d0
    replace b8 := b8.sA d0
    replace hs := hs.sA d0
    have g9 : NE g4 gT := .a
    replace c8 := d0.s c8 g9.ne
    replace aF := d0.s aF
    replace aI := d0.s aI
    replace aC := d0.s aC
    replace b := d0.s b (Ne.symm e8.ne)
    rw [Nat.zero_add] at f2
    refine .done (i1 _ _ (.seq (fun K29 l8 => .region ?_)))
    refine .q rfl (.loadM ag_27_D rfl ⟨rfl, Mem.of_get b⟩) ?_
    refine .r0 rfl rfl (.fillA rfl sz_27_D rfl rfl rfl rfl) ?_
    rintro _ _ ⟨rfl, b0, h9⟩
    replace o := o.sA b0
    replace hs := hs.sA b0
    have n : NE gF g4 := .a
    replace aF := b0.s aF n.ne
    have d : NE gI g4 := .a
    replace aI := b0.s aI d.ne
    have f : NE gC g4 := .a
    replace aC := b0.s aC f.ne
    replace f2 := b0.s f2 (Ne.symm g9.ne)
    refine .nil (l8 _ _ (.ret (e9 _ _ (⟨_, _, _, _, rfl, ag_27_D, (by rfl), (Mem.of_get h9), ?_⟩))))
    have hR' := (hRR.st b8 offA).st b0 (.cons (hRR.lowNe (by omega)) (.nil _ _))
    exact ⟨⟨c.obj, c.src, c.tgt.set f1.toNat p1, c.idn, c.comp⟩, ownP gF gT gI gC rr, by simp [Cat.cells, ownP], ⟨n1, by rw [List.length_set]; exact n2, n3, n4, n5, n6⟩, (KIn.own (c := ⟨c.obj, c.src, c.tgt.set f1.toNat p1, c.idn, c.comp⟩) aF bF f2 bT aI bI aC bC hR').keep (.of_le (.refl _)) (by omega), o, hs⟩
   try simp only [sps] at p4
   refine .skip (i1 _ _ (.seq (fun K30 k9 => .region ?_)))
   refine .q rfl (.loadM ag_27_D rfl ⟨rfl, Mem.of_get b⟩) ?_
   refine .r0 rfl rfl (.fillA rfl sz_27_D rfl rfl rfl rfl) ?_
   rintro _ _ ⟨rfl, b6, h7⟩
   replace o := o.sA b6
   replace hs := hs.sA b6
   have n : NE gF g4 := .a
   replace aF := b6.s aF n.ne
   have m : NE gT g4 := .a
   replace aT := b6.s aT m.ne
   have d : NE gI g4 := .a
   replace aI := b6.s aI d.ne
   have f : NE gC g4 := .a
   replace aC := b6.s aC f.ne
   refine .nil (k9 _ _ (.ret (e9 _ _ (⟨_, _, _, _, rfl, ag_27_D, (by rfl), (Mem.of_get h7), ?_⟩))))
   have hR' := (hRR.st b8 offA).st b6 (.cons (hRR.lowNe (by omega)) (.nil _ _))
   exact ⟨c, ownP gF gT gI gC rr, rfl, hsm, (KIn.own aF bF aT bT aI bI aC bC hR').keep (.of_le (.refl _)) (by omega), o, hs⟩
  try simp only [sps] at p0
  refine .seq (fun K31 o3 => .region (.mv rfl (.q rfl (.cmp rfl rfl rfl) (.nil (o3 _ _ ?_)))))
  refine .cond rfl ?_ ?_ <;> intro p8
  ·
   try simp only [sps] at p8
   refine .regionD mo_B (.qs [0, 1, 2, 3, 4, 5, 6, 7, 8, 9] (.c 10 0 (.done))) (by kernel_rfl) ?_
   have m8 := a9 f1.toNat (by omega)
   obtain ⟨gi, hgi, -, hati⟩ := (hRR.st b8 offA).row f1.toNat (by omega)
   have cC := slsL_cell aC (i := f1.toNat) (by omega)
   rw [hgi] at cC
   refine .q rfl (.fieldAddr fo_27_4_B rfl) ?_
   refine .q rfl (.load on_25_B rfl (by first | assumption | exact Mem.of_get b 4 _ rfl)) ?_
   refine .mv rfl rfl (.q rfl (.fieldAddr fo_27_4_B rfl) ?_)
   refine .q rfl (.load on_25_B rfl (by first | assumption | exact Mem.of_get b 4 _ rfl)) ?_
   refine .mv rfl rfl ?_
   refine .q rfl (.idx1 sl_25_B (by first | exact (Intss.sl (by assumption)) | exact SlA.of_row aC (by first | rfl | (simp; done) | (simp <;> omega))) rfl rfl (by omega) (by omega)) ?_
   refine .q rfl (.load on_24_B rfl cC) ?_
   refine .q rfl (.slice (l := 1) (h := (c.comp.getD f1.toNat []).length) sl_24_A rfl hati ⟨_, rfl⟩ rfl (by omega) (by omega)) ?_
   refine .q rfl (.idx1 sl_25_B (by first | exact (Intss.sl (by assumption)) | exact SlA.of_row aC (by first | rfl | (simp; done) | (simp <;> omega))) rfl rfl (by omega) (by omega)) ?_
   refine .r0 rfl rfl rfl (.storeR rfl sz_24_Ch rfl rfl rfl (by assumption) (by first | exact Nat.le_of_ble_eq_true rfl | (simp; done) | (simp <;> omega))) ?_
   rintro _ _ ⟨rfl, e1, g7⟩
   replace o := o.sA e1
   replace b8 := b8.sA e1
   replace hs := hs.sA e1
   have h2 : NE g4 gC := .a
   replace c8 := e1.s c8 h2.ne
   replace aF := e1.s aF
   replace aT := e1.s aT
   replace aI := e1.s aI
   replace b := e1.s b (Ne.symm e7.ne)
   refine .done (i1 _ _ (.seq (fun K32 l3 => .region ?_)))
   refine .q rfl (.loadM ag_27_D rfl ⟨rfl, Mem.of_get b⟩) ?_
   refine .r0 rfl rfl (.fillA rfl sz_27_D rfl rfl rfl rfl) ?_
   rintro _ _ ⟨rfl, b5, h8⟩
   replace o := o.sA b5
   replace hs := hs.sA b5
   have n : NE gF g4 := .a
   replace aF := b5.s aF n.ne
   have m : NE gT g4 := .a
   replace aT := b5.s aT m.ne
   have d : NE gI g4 := .a
   replace aI := b5.s aI d.ne
   replace g7 := b5.s g7 (Ne.symm h2.ne)
   refine .nil (l3 _ _ (.ret (e9 _ _ (⟨_, _, _, _, rfl, ag_27_D, (by rfl), (Mem.of_get h8), ?_⟩))))
   have hR' := (hRR.st b8 offA).st b5 (.cons (hRR.lowNe (by omega)) (.nil _ _))
   obtain ⟨rr', T, k2, j2, k1, j7⟩ := bend_cut hR' (by omega) hgi rfl
   rw [Nat.zero_add, k2] at g7
   exact ⟨⟨c.obj, c.src, c.tgt, c.idn, T⟩, ownP gF gT gI gC rr', by simp [Cat.cells, ownP, j2], ⟨n1, n2, n3, (by rw [j2]; exact n4), k1 _ n5, n6⟩, (KIn.parts (c := ⟨c.obj, c.src, c.tgt, c.idn, T⟩) aF bF aT bT aI bI g7 bC j7).keep (.of_le (.refl _)) (by omega), o, hs⟩
  refine .skip (i1 _ _ (.seq (fun K33 l1 => .region ?_)))
  refine .q rfl (.loadM ag_27_D rfl ⟨rfl, Mem.of_get b⟩) ?_
  refine .r0 rfl rfl (.fillA rfl sz_27_D rfl rfl rfl rfl) ?_
  rintro _ _ ⟨rfl, a7, h5⟩
  replace o := o.sA a7
  replace hs := hs.sA a7
  have n : NE gF g4 := .a
  replace aF := a7.s aF n.ne
  have m : NE gT g4 := .a
  replace aT := a7.s aT m.ne
  have d : NE gI g4 := .a
  replace aI := a7.s aI d.ne
  have f : NE gC g4 := .a
  replace aC := a7.s aC f.ne
  refine .nil (l1 _ _ (.ret (e9 _ _ (⟨_, _, _, _, rfl, ag_27_D, (by rfl), (Mem.of_get h5), ?_⟩))))
  have hR' := (hRR.st b8 offA).st a7 (.cons (hRR.lowNe (by omega)) (.nil _ _))
  exact ⟨c, ownP gF gT gI gC rr, rfl, hsm, (KIn.own aF bF aT bT aI bI aC bC hR').keep (.of_le (.refl _)) (by omega), o, hs⟩
end Go.Proofs.Ytfanjkbaemhbmaa
namespace Go.Proofs.Ytfanjkbaemhbmaa
open Go Go.GL Go.RowKit Go.Proofs
theorem l02HomG_c {c : Cat} {p : CatP} {x y : Int} {H : GHeap} (hin : c.In H p := by assumption) (q1 : c.tgt.length = c.src.length) (q2 : c.src.length ≤ 100000) :
    GCalls Try.prog 84 [.agg (c.cells p).toArray, .int .i64 x, .int .i64 y] H (NewInts 2 H (c.hom x y)) := by
  refine GCalls.body (N := 38) (rs := [.tmp 6]) Try.func84 rfl rfl rfl rfl (fun Qx b0 hend => ?_)
  refine .fg [0, 1, 2] rfl ?_
  have g := GHeap.Le.refl H
  have a := hin
  refine .seq (fun K1 b8 => .region ?_)
  refine .R rfl (.boxR rfl sz_27_D rfl) ?_
  rintro _ _ ⟨g3, rfl, b4, _, e⟩
  have _ := b4.1
  replace g := g.trans b4
  have _ := GHeap.ltg e
  replace hin := a.mono g
  have b : Cat.At _ g3 0 c p := ⟨Mem.of_get e, hin⟩
  obtain ⟨m, a2, w, l, o, u, v, n, a0⟩ := b.get
  have r : MemN _ _ _ _ _ := ⟨rfl, b.1⟩
  have t := b.2
  refine .mv rfl (.nil (b8 _ _ (.seq (fun K2 c0 => .region ?_))))
  refine .R rfl (.litA rfl sl_24_A ze_2_L rfl rfl rfl rfl) ?_
  rintro _ H9 ⟨g9, rfl, b3, _, a6⟩
  have _ := b3.1
  replace g := g.trans b3
  replace e := b3.2 _ _ e
  have _ := GHeap.ltg a6
  replace hin := a.mono g
  clear b m a2 w l o u v n a0 r t
  have b : Cat.At _ g3 0 c p := ⟨Mem.of_get e, hin⟩
  obtain ⟨m, a2, w, l, o, u, v, n, a0⟩ := b.get
  have r : MemN _ _ _ _ _ := ⟨rfl, b.1⟩
  have t := b.2
  replace a6 : GHeap.get H9 g9 = some (.row (ints []) 2 true) := a6
  refine .mv rfl (.nil (c0 _ _ (.seq (fun K3 c1 => .seq (fun K4 b9 => .region (.mv rfl (.nil (b9 _ _ (.block ?_)))))))))
  refine .loopF (σ := Nat × Nat × Nat) [1, 2, 3] (fun (k, a1, a5) => [(8, some (.int .i64 (k : Int))), (7, some (.slice (some ⟨a1, 0, none⟩) a5 a5))]) (fun (k, a1, a5) H' => St [g9] H9 H' ∧ H'.get a1 = some (.row (ints (filtN k fun f => decide (c.src.getD f 0 = x) && decide (c.tgt.getD f 0 = y))) 2 true) ∧ (a1 = g9 ∨ H9.next ≤ a1) ∧ a5 = (filtN k fun f => decide (c.src.getD f 0 = x) && decide (c.tgt.getD f 0 = y)).length ∧ k ≤ c.src.length) (fun (k, a1, a5) => c.src.length - k) ((0, _, _)) rfl (.p rfl) ?_ ?_
  ·
   refine ⟨.refl _ _, by first | assumption | exact a6 | simpa using a6, .inl rfl, by first | rfl | assumption | simp | omega, ?_⟩
   omega
  rintro ⟨k, a1, a5⟩ _ ⟨d, h, _, a7, _⟩ _ a3
  dsimp only [cA, nA]
  have a8 : H.next ≤ a1 := by omega
  have _ := d.nx
  replace g := g.st d (fun k hk => ⟨by omega, trivial⟩)
  replace e := d.s e
  have _ := GHeap.ltg h
  replace hin := a.mono g
  clear b m a2 w l o u v n a0 r t
  have b : Cat.At _ g3 0 c p := ⟨Mem.of_get e, hin⟩
  obtain ⟨m, a2, w, l, o, u, v, n, a0⟩ := b.get
  have r : MemN _ _ _ _ _ := ⟨rfl, b.1⟩
  have t := b.2
  have _ := filtN_le k fun f => decide (c.src.getD f 0 = x) && decide (c.tgt.getD f 0 = y)
  refine .seq (fun K5 c4 => .seq (fun K6 c2 => .region (.mv rfl (.q rfl (.fieldAddr fo_27_1_B rfl) ?_))))
  refine .q rfl (.load on_24_B rfl (by first | assumption | exact Mem.of_get e 1 _ rfl)) ?_
  refine .q rfl (.len sl_24_A rfl) (.q rfl (.cmp rfl rfl rfl) (.nil (c2 _ _ ?_)))
  refine .cond rfl ?_ ?_ <;> intro b5
  ·
   try simp only [sps] at b5
   refine .skip (c4 _ _ (.seq (fun K7 b2 => .block (.seq (fun K8 b7 => .region (.q rfl (.fieldAddr fo_27_1_B rfl) ?_))))))
   refine .q rfl (.load on_24_B rfl (by first | assumption | exact Mem.of_get e 1 _ rfl)) ?_
   refine .mv rfl (.q rfl (.iN sl_24_A rfl rfl) (.q rfl (.lI on_2_A rfl) (.mv rfl (.q rfl (.cmp rfl rfl rfl) (.mv rfl ?_)))))
   refine .split (fun b1 => ?_) (fun b1 => ?_)
   ·
    try simp only [sps] at b1
    refine .qg rfl (.fieldAddr fo_27_2_B rfl) ?_
    refine .qg rfl (.load on_24_B rfl (by first | assumption | exact Mem.of_get e 2 _ rfl)) ?_
    refine .qg rfl (.move rfl) (.qg rfl (.iN sl_24_A rfl rfl) (.qg rfl (.lI on_2_A rfl) (.qg rfl (.move rfl) (.qg rfl (.cmp rfl rfl rfl) (.q rfl (.pickT rfl rfl) (.nil (b7 _ _ ?_)))))))
    refine .cond rfl ?_ ?_ <;> intro b6
    ·
     try simp only [sps] at b6
     refine .region (.mv rfl (.mv rfl ?_))
     refine .R rfl (.litA rfl sl_24_A ze_2_L rfl rfl rfl rfl) ?_
     rintro _ _ ⟨_, rfl, i, _, a4⟩
     have _ := i.1
     replace g := g.trans i
     replace d := d.le i
     replace e := i.2 _ _ e
     replace h := i.2 _ _ h
     have _ := GHeap.ltg a4
     replace hin := a.mono g
     clear b m a2 w l o u v n a0 r t
     have b : Cat.At _ g3 0 c p := ⟨Mem.of_get e, hin⟩
     obtain ⟨m, a2, w, l, o, u, v, n, a0⟩ := b.get
     have r : MemN _ _ _ _ _ := ⟨rfl, b.1⟩
     have t := b.2
     refine .R rfl (.apI rfl sl_24_A ze_2_L rfl by_2_L sl_24_A rfl rfl) ?_
     rintro _ _ ⟨_, rfl, j, _, a9⟩
     have _ := j.nx
     replace g := g.st j (fun k hk => ⟨by omega, trivial⟩)
     replace d := d.sA j
     replace e := j.s e
     replace a4 := j.s a4
     have _ := GHeap.ltg a9
     replace hin := a.mono g
     clear b m a2 w l o u v n a0 r t
     have b : Cat.At _ g3 0 c p := ⟨Mem.of_get e, hin⟩
     obtain ⟨m, a2, w, l, o, u, v, n, a0⟩ := b.get
     have r : MemN _ _ _ _ _ := ⟨rfl, b.1⟩
     have t := b.2
     refine .mv rfl (.nil (b2 _ _ (.region (.mv rfl (.q rfl (.aD rfl rfl rfl) (.mv rfl (.nil ?_)))))))
     refine a3 ((k + 1, _, _)) _ _ ?_ ?_ (.p rfl)
     ·
      refine ⟨d, by first | assumption | (rw [filtN_T (by simp only [sps]; omega)]; assumption) | (rw [filtN_F (by simp only [sps]; omega)]; assumption), by omega, by first | omega | (simp only [List.length_append, List.length_cons, List.length_nil] <;> omega) | (rw [filtN_T (by simp only [sps]; omega)] <;> (first | omega | (simp only [List.length_append, List.length_cons, List.length_nil] <;> omega))) | (rw [filtN_F (by simp only [sps]; omega)] <;> (first | omega | (simp only [List.length_append, List.length_cons, List.length_nil] <;> omega))), ?_⟩
      omega
     (dsimp only; omega)
    try simp only [sps] at b6
    refine .skip (b2 _ _ (.region (.mv rfl (.q rfl (.aD rfl rfl rfl) (.mv rfl (.nil ?_))))))
    refine a3 ((k + 1, _, _)) _ _ ?_ ?_ (.p rfl)
    ·
     refine ⟨d, by first | assumption | (rw [filtN_T (by simp only [sps]; omega)]; assumption) | (rw [filtN_F (by simp only [sps]; omega)]; assumption), by omega, by first | omega | (simp only [List.length_append, List.length_cons, List.length_nil] <;> omega) | (rw [filtN_T (by simp only [sps]; omega)] <;> (first | omega | (simp only [List.length_append, List.length_cons, List.length_nil] <;> omega))) | (rw [filtN_F (by simp only [sps]; omega)] <;> (first | omega | (simp only [List.length_append, List.length_cons, List.length_nil] <;> omega))), ?_⟩
     omega
    (dsimp only; omega)
   try simp only [sps] at b1
   refine .z rfl (.z rfl (.z rfl (.z rfl (.z rfl (.z rfl (.z rfl (.q rfl (.pickF rfl rfl) (.nil (b7 _ _ ?_)))))))))
   refine .condF rfl ?_
   refine .skip (b2 _ _ (.region (.mv rfl (.q rfl (.aD rfl rfl rfl) (.mv rfl (.nil ?_))))))
   refine a3 ((k + 1, _, _)) _ _ ?_ ?_ (.p rfl)
   ·
    refine ⟨d, by first | assumption | (rw [filtN_T (by simp only [sps]; omega)]; assumption) | (rw [filtN_F (by simp only [sps]; omega)]; assumption), by omega, by first | omega | (simp only [List.length_append, List.length_cons, List.length_nil] <;> omega) | (rw [filtN_T (by simp only [sps]; omega)] <;> (first | omega | (simp only [List.length_append, List.length_cons, List.length_nil] <;> omega))) | (rw [filtN_F (by simp only [sps]; omega)] <;> (first | omega | (simp only [List.length_append, List.length_cons, List.length_nil] <;> omega))), ?_⟩
    omega
   (dsimp only; omega)
  try simp only [sps] at b5
  refine .exit (c1 _ _ (.seq (fun K9 c3 => .region (.mv rfl (.mv rfl (.nil (c3 _ _ (.ret (b0 _ _ (⟨_, rfl, ?_⟩))))))))))
  obtain rfl : k = c.src.length := by omega
  exact ⟨g, _, by rw [a7]; rfl, h, a8⟩
end Go.Proofs.Ytfanjkbaemhbmaa
namespace Go.Proofs.Ytfanjkbaemhbmaa
open Go Go.GL Go.RowKit Go.Proofs
theorem l02UnitG_c {N : Nat} {c : Cat} {p : CatP} {f : Int} {H : GHeap} (hin : c.In H p := by assumption) (gc : c.Good N := by assumption) (h0 : 0 ≤ f := by omega) (h1 : f < c.src.length := by omega) :
    GCalls Try.prog 75 [.agg (c.cells p).toArray, .int .i64 f] H (Ret (.bool (decide (c.idn.getD (c.src.getD f.toNat 0).toNat 0 = f))) H) := by
  refine GCalls.ret rfl ?_
  have _ := gc.s.src f.toNat (by omega)
  have _ := gc.r.il
  refine GCalls.body (N := 16) (rs := [.tmp 4]) Try.func75 rfl rfl rfl rfl (fun Qx d hend => ?_)
  refine .fg [0, 1] rfl ?_
  have b := GHeap.Le.refl H
  have a := hin
  refine .seq (fun K1 j => .region ?_)
  refine .R rfl (.boxR rfl sz_27_D rfl) ?_
  rintro _ _ ⟨g2, rfl, i, _, e⟩
  replace b := b.trans i
  replace hin := a.mono b
  have h : Cat.At _ g2 0 c p := ⟨Mem.of_get e, hin⟩
  obtain ⟨-, _, -, _, -, _, -, _, -⟩ := h.get
  refine .mv rfl (.nil (j _ _ (.seq (fun K2 g => ?_))))
  refine .regionD mo_B (.qs [0, 1, 2, 3, 4, 5, 6, 7, 8, 9, 10, 11] (.done)) (by kernel_rfl) ?_
  refine .q rfl (.fieldAddr fo_27_3_B rfl) (.q rfl (.lA on_24_B rfl) (.q rfl (.fieldAddr fo_27_1_B rfl) (.q rfl (.lA on_24_B rfl) (.mv rfl rfl (.q rfl (.i1 sl_24_A rfl rfl) (.q rfl (.lI on_2_A rfl) (.q rfl (.i1 sl_24_A rfl rfl) (.q rfl (.lI on_2_A rfl) (.mv rfl rfl (.q rfl (.cmp rfl rfl rfl) (.mv rfl rfl (.done (g _ _ (.ret (d _ _ (⟨_, rfl, ?_⟩))))))))))))))))
  exact ⟨rfl, b⟩
theorem l06Moving_c {N : Nat} {c : Cat} {p : CatP} {H : GHeap} (hin : c.In H p := by assumption) (gc : c.Good N := by assumption) (hN : N ≤ 100000 := by omega) :
    GCalls Try.prog 127 [.agg (c.cells p).toArray] H (NewInts 2 H ((filtN c.src.length fun f => !decide (c.idn.getD (c.src.getD f 0).toNat 0 = f)))) := by
  have _ := gc.r.n
  refine GCalls.body (N := 22) (rs := [.tmp 2]) Try.func127 rfl rfl rfl rfl (fun Qx w hend => ?_)
  refine .fg [0] rfl ?_
  have d := GHeap.Le.refl H
  have a := hin
  refine .seq (fun K1 a2 => .region ?_)
  refine .R rfl (.boxR rfl sz_27_D rfl) ?_
  rintro _ _ ⟨g1, rfl, a6, _, e⟩
  replace d := d.trans a6
  have _ := GHeap.ltg e
  replace hin := a.mono d
  have h : Cat.At _ g1 0 c p := ⟨Mem.of_get e, hin⟩
  refine .mv rfl (.nil (a2 _ _ (.seq (fun K2 a4 => .region ?_))))
  refine .R rfl (.litA rfl sl_24_A ze_2_L rfl rfl rfl rfl) ?_
  rintro _ H5 ⟨g5, rfl, z, _, y⟩
  replace d := d.trans z
  replace e := z.2 _ _ e
  have _ := GHeap.ltg y
  replace hin := a.mono d
  clear h
  have h : Cat.At _ g1 0 c p := ⟨Mem.of_get e, hin⟩
  replace y : GHeap.get H5 g5 = some (.row (ints []) 2 true) := y
  refine .mv rfl (.nil (a4 _ _ (.seq (fun K3 a5 => .seq (fun K4 b2 => .region (.mv rfl (.nil (b2 _ _ (.block ?_)))))))))
  refine .loopF (σ := Nat × Nat × Nat) [1] (fun (k, j, o) => [(4, some (.int .i64 (k : Int))), (3, some (.slice (some ⟨j, 0, none⟩) o o))]) (fun (k, j, o) H' => St [g5] H5 H' ∧ H'.get j = some (.row (ints (filtN k fun f => !decide (c.idn.getD (c.src.getD f 0).toNat 0 = f))) 2 true) ∧ (j = g5 ∨ H5.next ≤ j) ∧ o = (filtN k fun f => !decide (c.idn.getD (c.src.getD f 0).toNat 0 = f)).length ∧ k ≤ c.src.length) (fun (k, j, o) => c.src.length - k) ((0, _, _)) rfl (.p rfl) ?_ ?_
  ·
   refine ⟨.refl _ _, by assumption, .inl rfl, by rfl, ?_⟩
   omega
  rintro ⟨k, j, o⟩ _ ⟨b, g, _, t, _⟩ _ v
  dsimp only [cA, nA]
  have u : H.next ≤ j := by omega
  have _ := b.nx
  replace d := d.st b (fun k hk => ⟨by omega, trivial⟩)
  replace e := b.s e
  replace hin := a.mono d
  clear h
  have h : Cat.At _ g1 0 c p := ⟨Mem.of_get e, hin⟩
  obtain ⟨-, a3, -, -, -, -, -, -, -⟩ := h.get
  have a7 := h.2
  have _ := filtN_le k fun f => !decide (c.idn.getD (c.src.getD f 0).toNat 0 = f)
  refine .seq (fun K5 b1 => .seq (fun K6 a8 => .region (.mv rfl (.q rfl (.fieldAddr fo_27_1_B rfl) (.q rfl (.lA on_24_B rfl) (.q rfl (.len sl_24_A rfl) (.q rfl (.cmp rfl rfl rfl) (.nil (a8 _ _ ?_)))))))))
  refine .cond rfl ?_ ?_ <;> intro a1
  ·
   try simp only [sps] at a1
   refine .skip (b1 _ _ (.seq (fun K7 a0 => .block (.seq (fun K8 a9 => .region ?_)))))
   refine .q rfl (.loadM ag_27_D rfl ⟨rfl, Mem.of_get e⟩) ?_
   refine .mv rfl ?_
   refine .callQ rfl rfl rfl rfl @Try.call75 rfl (l02UnitG_c) ?_
   refine .q rfl (.not rfl) (.nil (a9 _ _ ?_))
   refine .cond rfl ?_ ?_ <;> intro m
   ·
    try simp only [sps] at m
    refine .region (.mv rfl (.mv rfl ?_))
    refine .R rfl (.litA rfl sl_24_A ze_2_L rfl rfl rfl rfl) ?_
    rintro _ _ ⟨_, rfl, i, _, x⟩
    replace d := d.trans i
    replace b := b.le i
    replace e := i.2 _ _ e
    replace g := i.2 _ _ g
    have _ := GHeap.ltg x
    replace hin := a.mono d
    clear h a3 a7
    have h : Cat.At _ g1 0 c p := ⟨Mem.of_get e, hin⟩
    refine .R rfl (.apI rfl sl_24_A ze_2_L rfl by_2_L sl_24_A rfl rfl) ?_
    rintro _ _ ⟨_, rfl, l, _, _⟩
    replace d := d.st l (fun k hk => ⟨by omega, trivial⟩)
    replace b := b.sA l
    replace e := l.s e
    replace hin := a.mono d
    clear h
    have h : Cat.At _ g1 0 c p := ⟨Mem.of_get e, hin⟩
    refine .mv rfl (.nil (a0 _ _ (.region (.mv rfl (.q rfl (.aD rfl rfl rfl) (.mv rfl (.nil ?_)))))))
    refine v ((k + 1, _, _)) _ _ ?_ ?_ (.p rfl)
    ·
     refine ⟨b, by (rw [filtN_T (by simpa using m)]; assumption), by omega, by (rw [filtN_T (by simpa using m)] <;> (first | omega | (simp only [List.length_append, List.length_cons, List.length_nil] <;> omega))), ?_⟩
     omega
    (dsimp only; omega)
   try simp only [sps] at m
   refine .skip (a0 _ _ (.region (.mv rfl (.q rfl (.aD rfl rfl rfl) (.mv rfl (.nil ?_))))))
   refine v ((k + 1, _, _)) _ _ ?_ ?_ (.p rfl)
   ·
    refine ⟨b, by (rw [filtN_F (by simpa using m)]; assumption), by omega, by (rw [filtN_F (by simpa using m)] <;> (first | omega | (simp only [List.length_append, List.length_cons, List.length_nil] <;> omega))), ?_⟩
    omega
   (dsimp only; omega)
  try simp only [sps] at a1
  refine .exit (a5 _ _ (.seq (fun K9 b0 => .region (.mv rfl (.mv rfl (.nil (b0 _ _ (.ret (w _ _ (⟨_, rfl, ?_⟩))))))))))
  obtain rfl : k = c.src.length := by omega
  exact ⟨d, _, by rw [t], g, u⟩
theorem l06Small_c {N : Nat} {c d : Cat} {p q : CatP} {H : GHeap} (hin : c.In H p := by assumption) (hin1 : d.In H q := by assumption) (gc : c.Good N := by assumption) (hN : N ≤ 100000 := by omega) :
    GCalls Try.prog 110 [.agg (c.cells p).toArray, .agg (d.cells q).toArray] H (fun v H' => (∃ b, v = .bool b) ∧ H = H') := by
  refine GCalls.mono (GCalls.quiet ?_) fun _ _ h => ⟨h.1, h.2.symm⟩
  refine GCalls.body (N := 15) (rs := [.tmp 4]) Try.func110 rfl rfl rfl rfl (fun Qx j hend => ?_)
  refine .fg [0, 1] rfl ?_
  have f := GHeap.Le.refl H
  have a := hin
  have e := hin1
  refine .seq (fun K1 t => .region ?_)
  refine .R rfl (.boxR rfl sz_27_D rfl) ?_
  rintro _ _ ⟨g2, rfl, s, _, g⟩
  replace f := f.trans s
  replace hin := a.mono f
  have i : Cat.At _ g2 0 c p := ⟨Mem.of_get g, hin⟩
  refine .R rfl (.boxR rfl sz_27_D rfl) ?_
  rintro _ _ ⟨g3, rfl, n, _, k⟩
  replace f := f.trans n
  replace g := n.2 _ _ g
  replace hin := a.mono f
  replace hin1 := e.mono f
  clear i
  have i : Cat.At _ g2 0 c p := ⟨Mem.of_get g, hin⟩
  have r := i.2
  have m : Cat.At _ g3 0 d q := ⟨Mem.of_get k, hin1⟩
  refine .mv rfl (.nil (t _ _ (.seq (fun K2 o => .region ?_))))
  refine .q rfl (.loadM ag_27_D rfl ⟨rfl, Mem.of_get g⟩) ?_
  refine .call rfl rfl rfl rfl @Try.call127 rfl (l06Moving_c) ?_
  rintro _ _ ⟨l, _, rfl, _, _⟩
  replace f := f.trans l
  replace g := l.2 _ _ g
  replace k := l.2 _ _ k
  replace hin := a.mono f
  replace hin1 := e.mono f
  clear i r
  have i : Cat.At _ g2 0 c p := ⟨Mem.of_get g, hin⟩
  clear m
  have m : Cat.At _ g3 0 d q := ⟨Mem.of_get k, hin1⟩
  obtain ⟨-, _, -, -, -, -, -, -, -⟩ := m.get
  refine .q rfl (.len sl_24_A rfl) (.q rfl (.cmp rfl rfl rfl) (.mv rfl ?_))
  refine .split (fun h9 => ?_) (fun h9 => ?_)
  ·
   refine .qg rfl (.fieldAddr fo_27_1_B rfl) (.qg rfl (.lA on_24_B rfl) (.qg rfl (.len sl_24_A rfl) (.qg rfl (.cmp rfl rfl rfl) (.q rfl (.pickT rfl rfl) (.mv rfl (.nil (o _ _ (.ret (j _ _ (⟨_, rfl, ?_⟩))))))))))
   exact ⟨⟨_, rfl⟩, rfl, f⟩
  refine .z rfl (.z rfl (.z rfl (.z rfl (.q rfl (.pickF rfl rfl) (.mv rfl (.nil (o _ _ (.ret (j _ _ (⟨_, rfl, ?_⟩))))))))))
  exact ⟨⟨_, rfl⟩, rfl, f⟩
theorem l06Rooms_c {N M : Nat} {c d : Cat} {p q : CatP} {a : Option Addr} {ob : List Int} {H : GHeap} (hin : c.In H p := by assumption) (hin1 : d.In H q := by assumption) (ho : Ints H a ob := by assumption) (gc : c.Good N := by assumption) (gd : d.Good M := by assumption) (hN : N ≤ 100000 := by omega) (hM : M ≤ 100000 := by omega) (hl : ob.length ≤ 1048576 := by omega) :
    GCalls Try.prog 132 [.agg (c.cells p).toArray, .agg (d.cells q).toArray, .slice a ob.length ob.length] H (fun v H' => (∃ b, v = .bool b) ∧ H = H') := by
  refine GCalls.mono (GCalls.quiet ?_) fun _ _ h => ⟨h.1, h.2.symm⟩
  have q2 := gd.r.n
  have _ := gc.r.n
  have _ := gc.r.tl
  refine GCalls.body (N := 51) (rs := [.tmp 6]) Try.func132 rfl rfl rfl rfl (fun Qx w hend => ?_)
  refine .fg [0, 1, 2] rfl ?_
  have g := GHeap.Le.refl H
  have e := hin
  have f := hin1
  have l := ho
  refine .seq (fun K1 a6 => .region ?_)
  refine .R rfl (.boxR rfl sz_27_D rfl) ?_
  rintro _ _ ⟨g3, rfl, a7, _, j⟩
  replace g := g.trans a7
  replace hin := e.mono g
  have u : Cat.At _ g3 0 c p := ⟨Mem.of_get j, hin⟩
  refine .R rfl (.boxR rfl sz_27_D rfl) ?_
  rintro _ H4 ⟨g4, rfl, a2, _, o⟩
  replace g := g.trans a2
  replace j := a2.2 _ _ j
  replace hin := e.mono g
  replace hin1 := f.mono g
  clear u
  have u : Cat.At _ g3 0 c p := ⟨Mem.of_get j, hin⟩
  have x : Cat.At _ g4 0 d q := ⟨Mem.of_get o, hin1⟩
  refine .mv rfl (.nil (a6 _ _ (.seq (fun K2 a8 => .seq (fun K3 b0 => .region (.mv rfl (.nil (b0 _ _ (.block ?_)))))))))
  refine .loopF (σ := Nat) [2, 3, 4] (fun k => [(7, some (.int .i64 (k : Int)))]) (fun k H' => St [] H4 H' ∧ k ≤ c.src.length) (fun k => c.src.length - k) (0) rfl (.p rfl) ?_ ?_
  ·
   refine ⟨.refl _ _, ?_⟩
   omega
  rintro k _ ⟨i, _⟩ _ t
  dsimp only [cA, nA]
  replace g := g.st i (fun k hk => trivial)
  replace j := i.same _ _ trivial j
  replace o := i.same _ _ trivial o
  replace hin := e.mono g
  replace hin1 := f.mono g
  replace ho := l.mono g
  clear u
  have u : Cat.At _ g3 0 c p := ⟨Mem.of_get j, hin⟩
  obtain ⟨-, a5, b4, -, -, a9, b3, -, -⟩ := u.get
  clear x
  have x : Cat.At _ g4 0 d q := ⟨Mem.of_get o, hin1⟩
  refine .seq (fun K4 b7 => .seq (fun K5 b6 => .region (.mv rfl (.q rfl (.fieldAddr fo_27_1_B rfl) (.q rfl (.lA on_24_B rfl) (.q rfl (.len sl_24_A rfl) (.q rfl (.cmp rfl rfl rfl) (.nil (b6 _ _ ?_)))))))))
  refine .cond rfl ?_ ?_ <;> intro b1
  ·
   simp only [sps] at b1
   have _ := gc.s.src k (by omega)
   have _ := gc.s.tgt k (by omega)
   refine .skip (b7 _ _ (.seq (fun K6 a1 => .block (.seq (fun K7 b2 => ?_)))))
   refine .regionD mo_B (.qs [0, 1, 2, 3, 4, 5, 6, 7, 8, 9, 10, 11] (.done)) (by kernel_rfl) ?_
   refine .q rfl (.fieldAddr fo_27_1_B rfl) (.q rfl (.lA on_24_B rfl) (.mv rfl rfl (.q rfl (.iN sl_24_A rfl rfl) (.q rfl (.lI on_2_A rfl) (.q rfl (.fieldAddr fo_27_2_B rfl) (.q rfl (.lA on_24_B rfl) (.mv rfl rfl (.q rfl (.iN sl_24_A rfl rfl) (.q rfl (.lI on_2_A rfl) (.mv rfl rfl (.mv rfl rfl (.done (b2 _ _ (.seq (fun K8 a0 => ?_)))))))))))))))
   refine .regionD mo_B (.qs [0, 1, 2, 3, 4, 5, 6, 7, 8, 9, 10, 11, 12, 13, 14, 15, 16, 17, 18, 19] (.c 20 0 (.q 21 (.q 22 (.q 23 (.done)))))) (by kernel_rfl) ?_
   refine .mv rfl rfl (.mv rfl rfl (.q rfl (.len sl_24_A rfl) (.q rfl (.cmp rfl rfl rfl) (.mv rfl rfl ?_))))
   refine .split (fun a4 => ?_) (fun a4 => ?_)
   ·
    try simp only [sps] at a4
    refine .qg rfl (.move rfl) (.qg rfl (.move rfl) (.qg rfl (.len sl_24_A rfl) (.qg rfl (.cmp rfl rfl rfl) (.q rfl (.pickT rfl rfl) (.mv rfl rfl ?_)))))
    refine .split (fun a3 => ?_) (fun a3 => ?_)
    ·
     try simp only [sps] at a3
     refine .qg rfl (.loadM ag_27_D rfl ⟨rfl, Mem.of_get o⟩) ?_
     refine .qg rfl (.move rfl) (.qg rfl (.move rfl) (.qg rfl (.i1 sl_24_A rfl rfl) (.qg rfl (.lI on_2_A rfl) (.qg rfl (.move rfl) (.qg rfl (.move rfl) (.qg rfl (.i1 sl_24_A rfl rfl) (.qg rfl (.lI on_2_A rfl) ?_)))))))
     refine .call0g rfl rfl rfl rfl rfl rfl rfl @Try.call84 rfl (l02HomG_c (hin := by first | exact hin1 | assumption) (q1 := gd.r.tl) (q2 := by omega)) ?_
     rintro _ _ ⟨m, _, rfl, _, _⟩
     replace g := g.trans m
     replace i := i.le m
     replace j := m.2 _ _ j
     replace o := m.2 _ _ o
     replace hin := e.mono g
     replace hin1 := f.mono g
     clear u a5 b4 a9 b3
     have u : Cat.At _ g3 0 c p := ⟨Mem.of_get j, hin⟩
     clear x
     have x : Cat.At _ g4 0 d q := ⟨Mem.of_get o, hin1⟩
     refine .qg rfl (.len sl_24_A rfl) (.qg rfl (.cmp rfl rfl rfl) (.q rfl (.pickT rfl rfl) (.done (a0 _ _ ?_))))
     refine .cond rfl ?_ ?_ <;> intro h50
     ·
      refine .seq (fun K9 b5 => .region (.mv rfl (.nil (b5 _ _ (.ret (w _ _ (⟨_, rfl, ?_⟩)))))))
      exact ⟨⟨_, rfl⟩, rfl, g⟩
     refine .skip (a1 _ _ (.region (.mv rfl (.q rfl (.aD rfl rfl rfl) (.mv rfl (.nil ?_))))))
     refine t (k + 1) _ _ ?_ ?_ (.p rfl)
     ·
      refine ⟨i, ?_⟩
      omega
     omega
    refine .z rfl (.z rfl (.z rfl (.z rfl (.z rfl (.z rfl (.z rfl (.z rfl (.z rfl (.sgc rfl rfl rfl rfl rfl rfl (.z rfl (.z rfl (.q rfl (.pickF rfl rfl) (.done (a0 _ _ ?_))))))))))))))
    refine .condF rfl ?_
    refine .skip (a1 _ _ (.region (.mv rfl (.q rfl (.aD rfl rfl rfl) (.mv rfl (.nil ?_))))))
    refine t (k + 1) _ _ ?_ ?_ (.p rfl)
    ·
     refine ⟨i, ?_⟩
     omega
    omega
   refine .z rfl (.z rfl (.z rfl (.z rfl (.q rfl (.pickF rfl rfl) (.mv rfl rfl (.z rfl (.z rfl (.z rfl (.z rfl (.z rfl (.z rfl (.z rfl (.z rfl (.z rfl (.sgc rfl rfl rfl rfl rfl rfl ?_)))))))))))))))
   refine .z rfl (.z rfl (.q rfl (.pickF rfl rfl) (.done (a0 _ _ ?_))))
   refine .condF rfl ?_
   refine .skip (a1 _ _ (.region (.mv rfl (.q rfl (.aD rfl rfl rfl) (.mv rfl (.nil ?_))))))
   refine t (k + 1) _ _ ?_ ?_ (.p rfl)
   ·
    refine ⟨i, ?_⟩
    omega
   omega
  refine .exit (a8 _ _ (.seq (fun K10 y => .region (.mv rfl (.nil (y _ _ (.ret (w _ _ (⟨_, rfl, ?_⟩)))))))))
  exact ⟨⟨_, rfl⟩, rfl, g⟩
set_option maxHeartbeats 4000000 in
theorem l06Force_c {N M g n : Nat} {c d : Cat} {p q : CatP} {ob xs : List Int} {H : GHeap} (hin : c.In (H.set g none) p) (hin1 : d.In (H.set g none) q) (hg : H.get g = some (.row (ints xs) 2 true)) (gc : c.Good N) (gd : d.Good M) (hT : Typd c d ob xs) (hn : xs.length = n) (hN : N ≤ 100000 := by omega) (hM : M ≤ 100000 := by omega) :
    GCalls Try.prog 135 [.agg (c.cells p).toArray, .agg (d.cells q).toArray, .slice (some ⟨g, 0, none⟩) n n] H (fun v H' => (∃ b, v = .bool b) ∧ St [g] H H' ∧ ∃ ys, H'.get g = some (.row (ints ys) 2 true) ∧ Typd c d ob ys) := by
  have _ := gd.r.n
  have _ := gc.r.n
  have _ := hT.len
  refine GCalls.body (N := 88) (rs := [.tmp 6]) Try.func135 rfl rfl rfl rfl (fun Qx b7 hend => ?_)
  refine .fg [0, 1, 2] rfl ?_
  have _ := GHeap.ltg hg
  have l := St.refl [g] H
  refine .seq (fun K1 d9 => .region ?_)
  refine .R rfl (.boxR rfl sz_27_D rfl) ?_
  rintro _ _ ⟨g3, rfl, d6, _, w⟩
  replace l := l.le d6
  replace hg := d6.2 _ _ hg
  have _ := GHeap.ltg w
  have hc := hin.mono l.low
  have a6 : Cat.At _ g3 0 c p := ⟨Mem.of_get w, hc⟩
  refine .R rfl (.boxR rfl sz_27_D rfl) ?_
  rintro _ H4 ⟨g4, rfl, c4, _, y⟩
  replace l := l.le c4
  replace hg := c4.2 _ _ hg
  replace w := c4.2 _ _ w
  clear hc
  have hc := hin.mono l.low
  have hd := hin1.mono l.low
  clear a6
  have a6 : Cat.At _ g3 0 c p := ⟨Mem.of_get w, hc⟩
  have b1 : Cat.At _ g4 0 d q := ⟨Mem.of_get y, hd⟩
  refine .mv rfl (.nil (d9 _ _ (.seq (fun K2 e4 => .seq (fun K3 e6 => .region (.mv rfl (.nil (e6 _ _ (.block ?_)))))))))
  refine .loopF (σ := List Int × Bool) [2, 3, 4] (fun (ys, more) => [(7, some (.bool more))]) (fun (ys, more) H' => St [g] H4 H' ∧ H'.get g = some (.row (ints ys) 2 true) ∧ Typd c d ob ys) (fun (ys, more) => negs ys + more.toNat) ((xs, true)) rfl (.p rfl) ?_ ?_
  ·
   refine ⟨.refl _ _, by assumption, ?_⟩
   exact hT
  rintro ⟨ys, more⟩ HL1 ⟨a9, e, hI⟩ _ d2
  dsimp only [cA, nA]
  replace l := l.sA a9
  have h : NE g3 g := .a
  replace w := a9.s w h.ne
  have f : NE g4 g := .a
  replace y := a9.s y f.ne
  clear hc hd
  have hc := hin.mono l.low
  have hd := hin1.mono l.low
  clear a6
  have a6 : Cat.At _ g3 0 c p := ⟨Mem.of_get w, hc⟩
  clear b1
  have b1 : Cat.At _ g4 0 d q := ⟨Mem.of_get y, hd⟩
  have e7 := hI
  refine .seq (fun K4 f8 => .seq (fun K5 e0 => .region (.mv rfl (.nil (e0 _ _ ?_)))))
  refine .cond rfl ?_ ?_ <;> intro f6
  ·
   have _ : more.toNat = 1 := by rw [f6]; rfl
   refine .skip (f8 _ _ (.block (.seq (fun K6 f5 => .region (.mv rfl (.nil (f5 _ _ (.seq (fun K7 f1 => .region (.mv rfl (.nil (f1 _ _ (.block ?_)))))))))))))
   refine .loopF (σ := Nat × List Int × Bool) [2, 3, 4] (fun (a, zs, mo) => [(8, some (.int .i64 (a : Int))), (7, some (.bool mo))]) (fun (a, zs, mo) H' => St [g] HL1 H' ∧ H'.get g = some (.row (ints zs) 2 true) ∧ a ≤ c.src.length ∧ Typd c d ob zs ∧ negs zs + mo.toNat ≤ negs ys) (fun (a, zs, mo) => c.src.length - a) ((0, ys, false)) rfl (.p rfl) ?_ ?_
   ·
    refine ⟨.refl _ _, by assumption, ?_⟩
    exact ⟨by omega, e7, Nat.le_refl _⟩
   rintro ⟨a, zs, mo⟩ HL2 ⟨a2, e, hI⟩ _ d0
   dsimp only [cA, nA]
   replace l := l.sA a2
   replace a9 := a9.sA a2
   replace w := a2.s w h.ne
   replace y := a2.s y f.ne
   clear hc hd
   have hc := hin.mono l.low
   have hd := hin1.mono l.low
   clear a6
   have a6 : Cat.At _ g3 0 c p := ⟨Mem.of_get w, hc⟩
   clear b1
   have b1 : Cat.At _ g4 0 d q := ⟨Mem.of_get y, hd⟩
   obtain ⟨-, d5, f0⟩ := hI
   refine .seq (fun K8 f4 => .seq (fun K9 f7 => .region (.mv rfl (.mv rfl (.q rfl (.len sl_24_A rfl) (.q rfl (.cmp rfl rfl rfl) (.nil (f7 _ _ ?_))))))))
   refine .cond rfl ?_ ?_ <;> intro e5
   ·
    simp only [sps] at e5
    refine .skip (f4 _ _ (.seq (fun K10 c1 => .block (.seq (fun K11 d4 => .region (.mv rfl (.nil (d4 _ _ (.block ?_)))))))))
    refine .loopF (σ := Nat × List Int × Bool) [2, 3, 4, 8] (fun (b, us, mq) => [(9, some (.int .i64 (b : Int))), (7, some (.bool mq))]) (fun (b, us, mq) H' => St [g] HL2 H' ∧ H'.get g = some (.row (ints us) 2 true) ∧ b ≤ c.src.length ∧ Typd c d ob us ∧ negs us + mq.toNat ≤ negs ys) (fun (b, us, mq) => c.src.length - b) ((0, zs, mo)) rfl (.p rfl) ?_ ?_
    ·
     refine ⟨.refl _ _, by assumption, ?_⟩
     exact ⟨by omega, d5, f0⟩
    rintro ⟨b, us, mq⟩ _ ⟨j, e, hI⟩ _ a4
    dsimp only [cA, nA]
    replace l := l.sA j
    replace a2 := a2.sA j
    replace w := j.s w h.ne
    replace y := j.s y f.ne
    clear hc hd
    have hc := hin.mono l.low
    have hd := hin1.mono l.low
    clear a6
    have a6 : Cat.At _ g3 0 c p := ⟨Mem.of_get w, hc⟩
    obtain ⟨-, -, -, -, e2, -, -, -, f3⟩ := a6.get
    clear b1
    have b1 : Cat.At _ g4 0 d q := ⟨Mem.of_get y, hd⟩
    obtain ⟨-, -, -, -, e1, -, -, -, e9⟩ := b1.get
    obtain ⟨_, b2, m⟩ := hI
    refine .seq (fun K12 c3 => .seq (fun K13 d3 => .region (.mv rfl (.mv rfl (.q rfl (.len sl_24_A rfl) (.q rfl (.cmp rfl rfl rfl) (.nil (d3 _ _ ?_))))))))
    refine .cond rfl ?_ ?_ <;> intro e3
    ·
     simp only [sps] at e3
     have _ := gc.s.cl
     have _ := gc.s.row a (by omega)
     have _ := b2.len
     have u1 := hc.2.2.2.2 a (by omega)
     refine .skip (c3 _ _ (.seq (fun K14 a3 => .block (.seq (fun K15 c9 => .region (.q rfl (.fieldAddr fo_27_4_B rfl) (.q rfl (.lA on_25_B rfl) (.mv rfl ?_))))))))
     refine .q rfl (.idxN sl_25_B (Intss.sl (by assumption)) rfl rfl (by omega)) ?_
     refine .q rfl (.loadR on_24_B (by assumption) rfl (by omega)) ?_
     refine .mv rfl (.q rfl (.iN sl_24_A rfl rfl) (.q rfl (.lI on_2_A rfl) (.mv rfl (.nil (c9 _ _ (.seq (fun K16 c6 => .seq (fun K17 b5 => .region (.mv rfl (.q rfl (.cmp rfl rfl rfl) (.mv rfl ?_)))))))))))
     refine .split (fun c8 => ?_) (fun c8 => ?_)
     ·
      try simp only [sps] at c8
      refine .z rfl (.z rfl (.z rfl (.z rfl (.z rfl (.q rfl (.pickT rfl rfl) (.mv rfl (.z rfl (.z rfl (.z rfl (.z rfl (.z rfl (.q rfl (.pickT rfl rfl) (.nil (b5 _ _ ?_))))))))))))))
      refine .condT rfl ?_
      refine .exit (a3 _ _ (.region (.mv rfl (.q rfl (.aD rfl rfl rfl) (.mv rfl (.nil ?_))))))
      refine a4 ((b + 1, by first | (clear a5; exact us.set ((c.comp.getD a []).getD b 0).toNat ((d.comp.getD (us.getD a 0).toNat []).getD (us.getD b 0).toNat 0)) | exact us, _)) _ _ ?_ ?_ (.p rfl)
      ·
       refine ⟨j, by assumption, ?_⟩
       first
       | exact ⟨by omega, b2, m⟩
       | exact ⟨by omega, a5, by have ns := negs_set (xs := us) (i := ((c.comp.getD a []).getD b 0).toNat) (by omega) b4.1; first | (rw [a0] at m; simp only [Bool.toNat_true] at m ⊢; omega) | (rw [a0] at m; simp only [Bool.toNat_false] at m; first | (rw [decide_eq_true a1, Bool.toNat_true]; have := ns.2 a1; omega) | (rw [decide_eq_false (by omega), Bool.toNat_false]; omega))⟩
      (dsimp only; omega)
     try simp only [sps] at c8
     refine .qg rfl (.move rfl) (.qg rfl (.move rfl) ?_)
     refine .qg rfl (.idxN sl_24_A (by first | assumption | exact SlA.of_row e (by first | rfl | (simp; done) | (simp <;> omega))) rfl rfl (by omega)) ?_
     refine .qg rfl (.loadI on_2_A (by first | assumption | exact Ints.of_get e) rfl (by omega)) ?_
     refine .qg rfl (.cmp rfl rfl rfl) (.q rfl (.pickF rfl rfl) (.mv rfl ?_))
     refine .split (fun c7 => ?_) (fun c7 => ?_)
     ·
      try simp only [sps] at c7
      refine .z rfl (.z rfl (.z rfl (.z rfl (.z rfl (.q rfl (.pickT rfl rfl) (.nil (b5 _ _ ?_)))))))
      refine .condT rfl ?_
      refine .exit (a3 _ _ (.region (.mv rfl (.q rfl (.aD rfl rfl rfl) (.mv rfl (.nil ?_))))))
      refine a4 ((b + 1, by first | (clear a5; exact us.set ((c.comp.getD a []).getD b 0).toNat ((d.comp.getD (us.getD a 0).toNat []).getD (us.getD b 0).toNat 0)) | exact us, _)) _ _ ?_ ?_ (.p rfl)
      ·
       refine ⟨j, by assumption, ?_⟩
       first
       | exact ⟨by omega, b2, m⟩
       | exact ⟨by omega, a5, by have ns := negs_set (xs := us) (i := ((c.comp.getD a []).getD b 0).toNat) (by omega) b4.1; first | (rw [a0] at m; simp only [Bool.toNat_true] at m ⊢; omega) | (rw [a0] at m; simp only [Bool.toNat_false] at m; first | (rw [decide_eq_true a1, Bool.toNat_true]; have := ns.2 a1; omega) | (rw [decide_eq_false (by omega), Bool.toNat_false]; omega))⟩
      (dsimp only; omega)
     try simp only [sps] at c7
     refine .qg rfl (.move rfl) (.qg rfl (.move rfl) ?_)
     refine .qg rfl (.idxN sl_24_A (by first | assumption | exact SlA.of_row e (by first | rfl | (simp; done) | (simp <;> omega))) rfl rfl (by omega)) ?_
     refine .qg rfl (.loadI on_2_A (by first | assumption | exact Ints.of_get e) rfl (by omega)) ?_
     refine .qg rfl (.cmp rfl rfl rfl) (.q rfl (.pickF rfl rfl) (.nil (b5 _ _ ?_)))
     refine .cond rfl ?_ ?_ <;> intro d8
     ·
      skip
      refine .exit (a3 _ _ (.region (.mv rfl (.q rfl (.aD rfl rfl rfl) (.mv rfl (.nil ?_))))))
      refine a4 ((b + 1, by first | (clear a5; exact us.set ((c.comp.getD a []).getD b 0).toNat ((d.comp.getD (us.getD a 0).toNat []).getD (us.getD b 0).toNat 0)) | exact us, _)) _ _ ?_ ?_ (.p rfl)
      ·
       refine ⟨j, by assumption, ?_⟩
       first
       | exact ⟨by omega, b2, m⟩
       | exact ⟨by omega, a5, by have ns := negs_set (xs := us) (i := ((c.comp.getD a []).getD b 0).toNat) (by omega) b4.1; first | (rw [a0] at m; simp only [Bool.toNat_true] at m ⊢; omega) | (rw [a0] at m; simp only [Bool.toNat_false] at m; first | (rw [decide_eq_true a1, Bool.toNat_true]; have := ns.2 a1; omega) | (rw [decide_eq_false (by omega), Bool.toNat_false]; omega))⟩
      (dsimp only; omega)
     simp only [sps] at d8
     have im := b2.img gc.s gd.s (a := a) (b := b) (by omega) (by omega) (by omega) (by omega) (by omega)
     obtain ⟨_, ⟨_, _⟩, b4, f2, e8⟩ := im
     have _ := gd.s.cl
     have _ := gd.s.row (us.getD a 0).toNat (by omega)
     have a5 := b2.set (k := ((c.comp.getD a []).getD b 0).toNat) (by omega) b4 f2 e8
     have u2 := hd.2.2.2.2 (us.getD a 0).toNat (by omega)
     refine .skip (c6 _ _ (.seq (fun K18 c5 => ?_)))
     refine .regionD mo_B (.qs [0, 1, 2, 3, 4, 5, 6, 7, 8, 9, 10, 11, 12, 13, 14] (.done)) (by kernel_rfl) ?_
     refine .q rfl (.fieldAddr fo_27_4_B rfl) (.q rfl (.lA on_25_B rfl) (.mv rfl rfl (.mv rfl rfl ?_)))
     refine .q rfl (.idxN sl_24_A (by first | assumption | exact SlA.of_row e (by first | rfl | (simp; done) | (simp <;> omega))) rfl rfl (by omega)) ?_
     refine .q rfl (.loadI on_2_A (by first | assumption | exact Ints.of_get e) rfl (by omega)) ?_
     refine .q rfl (.idx1 sl_25_B (Intss.sl (by assumption)) rfl rfl (by omega) (by omega)) ?_
     refine .q rfl (.loadR on_24_B (by assumption) rfl (by omega)) ?_
     refine .mv rfl rfl (.mv rfl rfl ?_)
     refine .q rfl (.idxN sl_24_A (by first | assumption | exact SlA.of_row e (by first | rfl | (simp; done) | (simp <;> omega))) rfl rfl (by omega)) ?_
     refine .q rfl (.loadI on_2_A (by first | assumption | exact Ints.of_get e) rfl (by omega)) ?_
     refine .q rfl (.i1 sl_24_A rfl rfl) (.q rfl (.lI on_2_A rfl) (.mv rfl rfl (.done (c5 _ _ (.seq (fun K19 b9 => .seq (fun K20 c0 => .region (.mv rfl (.mv rfl ?_)))))))))
     refine .q rfl (.idx1 sl_24_A (by first | assumption | exact SlA.of_row e (by first | rfl | (simp; done) | (simp <;> omega))) rfl rfl (by omega) (by omega)) ?_
     refine .q rfl (.loadI on_2_A (by first | assumption | exact Ints.of_get e) rfl (by omega)) ?_
     refine .q rfl (.cmp rfl rfl rfl) (.mv rfl ?_)
     refine .split (fun a1 => ?_) (fun a1 => ?_)
     ·
      try simp only [sps] at a1
      refine .qg rfl (.move rfl) (.qg rfl (.move rfl) ?_)
      refine .qg rfl (.idx1 sl_24_A (by first | assumption | exact SlA.of_row e (by first | rfl | (simp; done) | (simp <;> omega))) rfl rfl (by omega) (by omega)) ?_
      refine .qg rfl (.loadI on_2_A (by first | assumption | exact Ints.of_get e) rfl (by omega)) ?_
      refine .qg rfl (.move rfl) (.qg rfl (.cmp rfl rfl rfl) (.q rfl (.pickT rfl rfl) (.nil (c0 _ _ ?_))))
      refine .cond rfl ?_ ?_ <;> intro d7
      ·
       try simp only [sps] at d7
       refine .seq (fun K21 d1 => .region (.mv rfl (.nil (d1 _ _ (.ret (b7 _ _ (⟨_, rfl, ?_⟩)))))))
       exact ⟨⟨_, rfl⟩, l, _, by assumption, by assumption⟩
      try simp only [sps] at d7
      refine .skip (b9 _ _ (.seq (fun K22 b8 => .region (.mv rfl (.mv rfl ?_)))))
      refine .split (fun a0 => ?_) (fun a0 => ?_)
      ·
       try simp only [sps] at a0
       refine .z rfl (.z rfl (.z rfl (.z rfl (.z rfl (.q rfl (.pickT rfl rfl) (.mv rfl (.nil (b8 _ _ (.region (.mv rfl (.mv rfl (.mv rfl ?_))))))))))))
       refine .q rfl (.idx1 sl_24_A (by first | assumption | exact SlA.of_row e (by first | rfl | (simp; done) | (simp <;> omega))) rfl rfl (by omega) (by omega)) ?_
       refine .r0 rfl rfl (.storeI rfl sz_2_N rfl rfl (by assumption) (by first | omega | (simp <;> omega))) ?_
       rintro _ _ ⟨rfl, x, b3⟩
       replace l := l.sA x
       replace j := j.sA x
       replace w := x.s w h.ne
       replace y := x.s y f.ne
       clear hc hd
       have hc := hin.mono l.low
       have hd := hin1.mono l.low
       clear a6 e2 f3
       have a6 : Cat.At _ g3 0 c p := ⟨Mem.of_get w, hc⟩
       clear b1 e1 e9
       have b1 : Cat.At _ g4 0 d q := ⟨Mem.of_get y, hd⟩
       clear u1
       clear u2
       rw [Nat.zero_add] at b3
       refine .nil (a3 _ _ (.region (.mv rfl (.q rfl (.aD rfl rfl rfl) (.mv rfl (.nil ?_))))))
       refine a4 ((b + 1, by first | (clear a5; exact us.set ((c.comp.getD a []).getD b 0).toNat ((d.comp.getD (us.getD a 0).toNat []).getD (us.getD b 0).toNat 0)) | exact us, _)) _ _ ?_ ?_ (.p rfl)
       ·
        refine ⟨j, by assumption, ?_⟩
        first
        | exact ⟨by omega, b2, m⟩
        | exact ⟨by omega, a5, by have ns := negs_set (xs := us) (i := ((c.comp.getD a []).getD b 0).toNat) (by omega) b4.1; first | (rw [a0] at m; simp only [Bool.toNat_true] at m ⊢; omega) | (rw [a0] at m; simp only [Bool.toNat_false] at m; first | (rw [decide_eq_true a1, Bool.toNat_true]; have := ns.2 a1; omega) | (rw [decide_eq_false (by omega), Bool.toNat_false]; omega))⟩
       (dsimp only; omega)
      try simp only [sps] at a0
      refine .qg rfl (.move rfl) (.qg rfl (.move rfl) ?_)
      refine .qg rfl (.idx1 sl_24_A (by first | assumption | exact SlA.of_row e (by first | rfl | (simp; done) | (simp <;> omega))) rfl rfl (by omega) (by omega)) ?_
      refine .qg rfl (.loadI on_2_A (by first | assumption | exact Ints.of_get e) rfl (by omega)) ?_
      refine .qg rfl (.cmp rfl rfl rfl) (.q rfl (.pickF rfl rfl) (.mv rfl (.nil (b8 _ _ (.region (.mv rfl (.mv rfl (.mv rfl ?_))))))))
      refine .q rfl (.idx1 sl_24_A (by first | assumption | exact SlA.of_row e (by first | rfl | (simp; done) | (simp <;> omega))) rfl rfl (by omega) (by omega)) ?_
      refine .r0 rfl rfl (.storeI rfl sz_2_N rfl rfl (by assumption) (by first | omega | (simp <;> omega))) ?_
      rintro _ _ ⟨rfl, o, a7⟩
      replace l := l.sA o
      replace j := j.sA o
      replace w := o.s w h.ne
      replace y := o.s y f.ne
      have hc := hin.mono l.low
      have hd := hin1.mono l.low
      have a6 : Cat.At _ g3 0 c p := ⟨Mem.of_get w, hc⟩
      have b1 : Cat.At _ g4 0 d q := ⟨Mem.of_get y, hd⟩
      rw [Nat.zero_add] at a7
      refine .nil (a3 _ _ (.region (.mv rfl (.q rfl (.aD rfl rfl rfl) (.mv rfl (.nil ?_))))))
      refine a4 ((b + 1, by first | (clear a5; exact us.set ((c.comp.getD a []).getD b 0).toNat ((d.comp.getD (us.getD a 0).toNat []).getD (us.getD b 0).toNat 0)) | exact us, _)) _ _ ?_ ?_ (.p rfl)
      ·
       refine ⟨j, by assumption, ?_⟩
       first
       | exact ⟨by omega, b2, m⟩
       | exact ⟨by omega, a5, by have ns := negs_set (xs := us) (i := ((c.comp.getD a []).getD b 0).toNat) (by omega) b4.1; first | (rw [a0] at m; simp only [Bool.toNat_true] at m ⊢; omega) | (rw [a0] at m; simp only [Bool.toNat_false] at m; first | (rw [decide_eq_true a1, Bool.toNat_true]; have := ns.2 a1; omega) | (rw [decide_eq_false (by omega), Bool.toNat_false]; omega))⟩
      (dsimp only; omega)
     try simp only [sps] at a1
     refine .z rfl (.z rfl (.z rfl (.z rfl (.z rfl (.z rfl (.q rfl (.pickF rfl rfl) (.nil (c0 _ _ ?_))))))))
     refine .condF rfl ?_
     refine .skip (b9 _ _ (.seq (fun K23 b6 => .region (.mv rfl (.mv rfl ?_)))))
     refine .split (fun a0 => ?_) (fun a0 => ?_)
     ·
      try simp only [sps] at a0
      refine .z rfl (.z rfl (.z rfl (.z rfl (.z rfl (.q rfl (.pickT rfl rfl) (.mv rfl (.nil (b6 _ _ (.region (.mv rfl (.mv rfl (.mv rfl ?_))))))))))))
      refine .q rfl (.idx1 sl_24_A (by first | assumption | exact SlA.of_row e (by first | rfl | (simp; done) | (simp <;> omega))) rfl rfl (by omega) (by omega)) ?_
      refine .r0 rfl rfl (.storeI rfl sz_2_N rfl rfl (by assumption) (by first | omega | (simp <;> omega))) ?_
      rintro _ _ ⟨rfl, u, b0⟩
      replace l := l.sA u
      replace j := j.sA u
      replace w := u.s w h.ne
      replace y := u.s y f.ne
      have hc := hin.mono l.low
      have hd := hin1.mono l.low
      have a6 : Cat.At _ g3 0 c p := ⟨Mem.of_get w, hc⟩
      have b1 : Cat.At _ g4 0 d q := ⟨Mem.of_get y, hd⟩
      rw [Nat.zero_add] at b0
      refine .nil (a3 _ _ (.region (.mv rfl (.q rfl (.aD rfl rfl rfl) (.mv rfl (.nil ?_))))))
      refine a4 ((b + 1, by first | (clear a5; exact us.set ((c.comp.getD a []).getD b 0).toNat ((d.comp.getD (us.getD a 0).toNat []).getD (us.getD b 0).toNat 0)) | exact us, _)) _ _ ?_ ?_ (.p rfl)
      ·
       refine ⟨j, by assumption, ?_⟩
       first
       | exact ⟨by omega, b2, m⟩
       | exact ⟨by omega, a5, by have ns := negs_set (xs := us) (i := ((c.comp.getD a []).getD b 0).toNat) (by omega) b4.1; first | (rw [a0] at m; simp only [Bool.toNat_true] at m ⊢; omega) | (rw [a0] at m; simp only [Bool.toNat_false] at m; first | (rw [decide_eq_true a1, Bool.toNat_true]; have := ns.2 a1; omega) | (rw [decide_eq_false (by omega), Bool.toNat_false]; omega))⟩
      (dsimp only; omega)
     try simp only [sps] at a0
     refine .qg rfl (.move rfl) (.qg rfl (.move rfl) ?_)
     refine .qg rfl (.idx1 sl_24_A (by first | assumption | exact SlA.of_row e (by first | rfl | (simp; done) | (simp <;> omega))) rfl rfl (by omega) (by omega)) ?_
     refine .qg rfl (.loadI on_2_A (by first | assumption | exact Ints.of_get e) rfl (by omega)) ?_
     refine .qg rfl (.cmp rfl rfl rfl) (.q rfl (.pickF rfl rfl) (.mv rfl (.nil (b6 _ _ (.region (.mv rfl (.mv rfl (.mv rfl ?_))))))))
     refine .q rfl (.idx1 sl_24_A (by first | assumption | exact SlA.of_row e (by first | rfl | (simp; done) | (simp <;> omega))) rfl rfl (by omega) (by omega)) ?_
     refine .r0 rfl rfl (.storeI rfl sz_2_N rfl rfl (by assumption) (by first | omega | (simp <;> omega))) ?_
     rintro _ _ ⟨rfl, t, a8⟩
     replace l := l.sA t
     replace j := j.sA t
     replace w := t.s w h.ne
     replace y := t.s y f.ne
     have hc := hin.mono l.low
     have hd := hin1.mono l.low
     have a6 : Cat.At _ g3 0 c p := ⟨Mem.of_get w, hc⟩
     have b1 : Cat.At _ g4 0 d q := ⟨Mem.of_get y, hd⟩
     rw [Nat.zero_add] at a8
     refine .nil (a3 _ _ (.region (.mv rfl (.q rfl (.aD rfl rfl rfl) (.mv rfl (.nil ?_))))))
     refine a4 ((b + 1, by first | (clear a5; exact us.set ((c.comp.getD a []).getD b 0).toNat ((d.comp.getD (us.getD a 0).toNat []).getD (us.getD b 0).toNat 0)) | exact us, _)) _ _ ?_ ?_ (.p rfl)
     ·
      refine ⟨j, by assumption, ?_⟩
      first
      | exact ⟨by omega, b2, m⟩
      | exact ⟨by omega, a5, by have ns := negs_set (xs := us) (i := ((c.comp.getD a []).getD b 0).toNat) (by omega) b4.1; first | (rw [a0] at m; simp only [Bool.toNat_true] at m ⊢; omega) | (rw [a0] at m; simp only [Bool.toNat_false] at m; first | (rw [decide_eq_true a1, Bool.toNat_true]; have := ns.2 a1; omega) | (rw [decide_eq_false (by omega), Bool.toNat_false]; omega))⟩
     (dsimp only; omega)
    refine .exit (c1 _ _ (.region (.mv rfl (.q rfl (.aD rfl rfl rfl) (.mv rfl (.nil ?_))))))
    refine d0 ((a + 1, us, mq)) _ _ ?_ ?_ (.p rfl)
    ·
     refine ⟨a2, by assumption, ?_⟩
     exact ⟨by omega, b2, m⟩
    (dsimp only; omega)
   refine .exit ?_
   refine d2 ((zs, mo)) _ _ ?_ ?_ (.p rfl)
   ·
    refine ⟨a9, by assumption, ?_⟩
    exact d5
   dsimp only; omega
  refine .exit (e4 _ _ (.seq (fun K24 c2 => .region (.mv rfl (.nil (c2 _ _ (.ret (b7 _ _ (⟨_, rfl, ?_⟩)))))))))
  exact ⟨⟨_, rfl⟩, l, _, by assumption, by assumption⟩
end Go.Proofs.Ytfanjkbaemhbmaa
namespace Go.Proofs.Ytfanjkbaemhbmaa
open Go Go.GL Go.RowKit Go.Proofs
def ArrQ (B g : Nat) (H : GHeap) (v : Value) (H' : GHeap) : Prop := ∃ g' n' cs', v = .slice (some ⟨g', 0, none⟩) n' n' ∧ St [g] H H' ∧ (g' = g ∨ H.next ≤ g') ∧ n' ≤ 201 ∧ H'.get g' = some (.row cs' 24 true) ∧ LLc 2 1048576 B (H'.set g' none) cs' n'
def ArrSpec (r : Nat) : Prop := ∀ (f : Nat) {N M B : Nat} {c d : Cat} {p q : CatP} {a b : Option Addr} {ob xs : List Int} {g n m : Nat} {cs : List Value} {H : GHeap} (_ : c.In (H.set g none) p) (_ : d.In (H.set g none) q) (_ : Ints (H.set g none) a ob) (_ : Ints (H.set g none) b xs) (_ : c.Good N) (_ : d.Good M) (_ : N ≤ 100000) (_ : M ≤ 100000) (_ : Typd c d ob xs) (_ : (ob.length : Int) = c.obj) (_ : f ≤ xs.length) (_ : xs.length ≤ f + r) (_ : H.get g = some (.row cs 24 true)) (_ : LLc 2 1048576 B (H.set g none) cs n) (_ : n ≤ 200) (_ : xs.length = m) (_ : B ≤ H.next),
    GCalls Try.prog 133 [.agg (c.cells p).toArray, .agg (d.cells q).toArray, .slice a ob.length ob.length, .slice b m m, .int .i64 (f : Int), .slice (some ⟨g, 0, none⟩) n n] H (ArrQ B g H)
set_option maxHeartbeats 8000000 in
theorem l06Arrows_step {r : Nat} (ih : ∀ r', r' + 1 = r → ArrSpec r') : ArrSpec r := by
  intro f N M B c d p q a b ob xs g n m cs H hin hin1 ho hx gc gd hN hM hT hol hf hr hg hL hn hm hB
  subst hm
  have q2 := gd.r.n
  have q3 := gc.r.n
  have q4 := hT.len
  have q5 := gc.r.tl
  have q6 := hL.1
  refine GCalls.body (N := 89) (rs := [.tmp 12]) Try.func133 rfl rfl rfl rfl (fun Qx hret hend => ?_)
  refine .fg [0, 1, 2, 3, 4, 5] rfl ?_
  have lt_hg := GHeap.ltg hg
  have hst := St.refl [g] H
  refine .seq (fun K1 hK1 => .region ?_)
  refine .R rfl (.boxR rfl sz_27_D rfl) ?_
  rintro _ H6 ⟨g6, rfl, le6, ge6, at6⟩
  replace hst := hst.le le6
  replace hg := le6.2 _ _ hg
  have lt_at6 := GHeap.ltg at6
  have hc := hin.mono hst.low
  have hb6 : Cat.At _ g6 0 c p := ⟨Mem.of_get at6, hc⟩
  refine .R rfl (.boxR rfl sz_27_D rfl) ?_
  rintro _ H7 ⟨g7, rfl, le7, ge7, at7⟩
  replace hst := hst.le le7
  replace hg := le7.2 _ _ hg
  replace at6 := le7.2 _ _ at6
  have lt_at7 := GHeap.ltg at7
  clear hc
  have hc := hin.mono hst.low
  have hd := hin1.mono hst.low
  have hO := ho.mono hst.low
  have hX := hx.mono hst.low
  clear hb6
  have hb6 : Cat.At _ g6 0 c p := ⟨Mem.of_get at6, hc⟩
  obtain ⟨-, c16, c26, -, -, i16, i26, -, -⟩ := hb6.get
  have hb7 : Cat.At _ g7 0 d q := ⟨Mem.of_get at7, hd⟩
  refine .mv rfl (.nil (hK1 _ _ (.seq (fun K2 hK2 => .block ?_))))
  refine .loopF (σ := Nat) [2, 3, 5, 6, 7] (fun k => [(4, some (.int .i64 (k : Int)))]) (fun k H' => H7 = H' ∧ f ≤ k ∧ k ≤ xs.length) (fun k => xs.length - k) (f) rfl (.p rfl) ?_ ?_
  ·
   refine ⟨rfl, ?_⟩
   exact ⟨by omega, hf⟩
  rintro k _ ⟨rfl, hI⟩ KL1 hKL1
  dsimp only [cA, nA]
  obtain ⟨hk1, hk2⟩ := hI
  refine .seq (fun K3 hK3 => .seq (fun K4 hK4 => .region (.mv rfl (.mv rfl (.q rfl (.len sl_24_A rfl) (.q rfl (.cmp rfl rfl rfl) (.mv rfl ?_)))))))
  refine .split (fun h20 => ?_) (fun h20 => ?_)
  ·
   simp only [sps] at h20
   refine .qg rfl (.move rfl) (.qg rfl (.move rfl) (.qg rfl (.iN sl_24_A rfl rfl) (.qg rfl (.lI on_2_A rfl) (.qg rfl (.cmp rfl rfl rfl) (.q rfl (.pickT rfl rfl) (.nil (hK4 _ _ ?_)))))))
   refine .cond rfl ?_ ?_ <;> intro h26
   ·
    simp only [sps] at h26
    refine .skip (hK3 _ _ (.block (.region (.mv rfl (.q rfl (.aD rfl rfl rfl) (.mv rfl (.nil ?_)))))))
    refine hKL1 (k + 1) _ _ ?_ ?_ (.p rfl)
    ·
     refine ⟨rfl, ?_⟩
     exact ⟨by omega, by omega⟩
    omega
   simp only [sps] at h26
   refine .exit (hK2 _ _ (.seq (fun K5 hK5 => .seq (fun K6 hK6 => .region (.mv rfl (.mv rfl (.q rfl (.len sl_24_A rfl) (.q rfl (.cmp rfl rfl rfl) (.nil (hK6 _ _ ?_))))))))))
   refine .cond rfl ?_ ?_ <;> intro h32
   ·
    simp only [sps] at h32
    omega
   simp only [sps] at h32
   have r1 := gc.s.src k (by omega)
   have r2 := gc.s.tgt k (by omega)
   refine .skip (hK5 _ _ (.seq (fun K7 hK7 => ?_)))
   refine .regionD mo_B (.qs [0, 1, 2, 3, 4, 5, 6, 7, 8, 9, 10, 11, 12, 13, 14, 15, 16] (.c 17 0 (.q 18 (.done)))) (by kernel_rfl) ?_
   refine .q rfl (.loadM ag_27_D rfl ⟨rfl, Mem.of_get at7⟩) ?_
   refine .mv rfl rfl (.q rfl (.fieldAddr fo_27_1_B rfl) ?_)
   refine .q rfl (.load on_24_B rfl (by first | assumption | exact Mem.of_get at6 1 _ rfl)) ?_
   refine .mv rfl rfl (.q rfl (.iN sl_24_A rfl rfl) (.q rfl (.lI on_2_A rfl) (.q rfl (.i1 sl_24_A rfl rfl) (.q rfl (.lI on_2_A rfl) (.mv rfl rfl (.q rfl (.fieldAddr fo_27_2_B rfl) ?_))))))
   refine .q rfl (.load on_24_B rfl (by first | assumption | exact Mem.of_get at6 2 _ rfl)) ?_
   refine .mv rfl rfl (.q rfl (.iN sl_24_A rfl rfl) (.q rfl (.lI on_2_A rfl) (.q rfl (.i1 sl_24_A rfl rfl) (.q rfl (.lI on_2_A rfl) ?_))))
   refine .call0 rfl rfl rfl rfl rfl @Try.call84 rfl (l02HomG_c (hin := by first | exact hd | assumption) (q1 := gd.r.tl) (q2 := by omega)) ?_
   rintro _ H55 ⟨le55, g55, rfl, at55, ge55⟩
   replace hst := hst.le le55
   replace hg := le55.2 _ _ hg
   replace at6 := le55.2 _ _ at6
   replace at7 := le55.2 _ _ at7
   have lt_at55 := GHeap.ltg at55
   clear hc hd hO hX
   have hc := hin.mono hst.low
   have hd := hin1.mono hst.low
   clear hb6 c16 c26 i16 i26
   have hb6 : Cat.At _ g6 0 c p := ⟨Mem.of_get at6, hc⟩
   clear hb7
   have hb7 : Cat.At _ g7 0 d q := ⟨Mem.of_get at7, hd⟩
   refine .mv rfl rfl (.done (hK7 _ _ (.seq (fun K8 hK8 => .seq (fun K9 hK9 => .region (.mv rfl (.nil (hK9 _ _ (.block ?_)))))))))
   refine .loopF (σ := Nat × Nat × List Value × Nat × Nat) [2, 3, 4, 6, 7, 13] (fun (i, n5, cs5, gL5, nL5) => [(14, some (.int .i64 (i : Int))), (5, some (.slice (some ⟨gL5, 0, none⟩) nL5 nL5))]) (fun (i, n5, cs5, gL5, nL5) H' => St [g] H55 H' ∧ H'.get gL5 = some (.row (cs5) 24 true) ∧ (gL5 = g ∨ H55.next ≤ gL5) ∧ nL5 = n5 ∧ i ≤ (d.hom (ob.getD (c.src.getD k 0).toNat 0) (ob.getD (c.tgt.getD k 0).toNat 0)).length ∧ n5 ≤ 201 ∧ LLc 2 1048576 B (H'.set gL5 none) cs5 n5) (fun (i, n5, cs5, gL5, nL5) => (d.hom (ob.getD (c.src.getD k 0).toNat 0) (ob.getD (c.tgt.getD k 0).toNat 0)).length - i) ((0, n, cs, _, _)) rfl (.p rfl) ?_ ?_
   ·
    refine ⟨.refl _ _, by assumption, .inl rfl, by rfl, ?_⟩
    exact ⟨by omega, by omega, hL.le (hst.erase (.inl rfl))⟩
   rintro ⟨i, n5, cs5, gL5, nL5⟩ HL2 ⟨lst2, at_L5, pl_L5, ln_L5, hI⟩ KL2 hKL2
   dsimp only [cA, nA]
   have nx_HL2 := lst2.nx
   replace hst := hst.sA lst2
   have ne_g6_g : NE g6 g := .a
   replace at6 := lst2.s at6 ne_g6_g.ne
   have ne_g7_g : NE g7 g := .a
   replace at7 := lst2.s at7 ne_g7_g.ne
   replace at55 := lst2.s at55
   have lt_at_L5 := GHeap.ltg at_L5
   clear hc hd
   have hc := hin.mono hst.low
   have hd := hin1.mono hst.low
   have hX := hx.mono hst.low
   clear hb6
   have hb6 : Cat.At _ g6 0 c p := ⟨Mem.of_get at6, hc⟩
   clear hb7
   have hb7 : Cat.At _ g7 0 d q := ⟨Mem.of_get at7, hd⟩
   have rk := St.refl [gL5] HL2
   obtain ⟨-, hn5, hL5⟩ := hI
   have q7 := hL5.1
   refine .seq (fun K10 hK10 => .seq (fun K11 hK11 => .region (.mv rfl (.mv rfl (.q rfl (.len sl_24_A rfl) (.q rfl (.cmp rfl rfl rfl) (.mv rfl ?_)))))))
   refine .split (fun h60 => ?_) (fun h60 => ?_)
   ·
    simp only [sps] at h60
    have hhl := d.hom_le (ob.getD (c.src.getD k 0).toNat 0) (ob.getD (c.tgt.getD k 0).toNat 0)
    refine .qg rfl (.move rfl) (.qg rfl (.len sl_25_B rfl) (.qg rfl (.cmp rfl rfl rfl) (.q rfl (.pickT rfl rfl) (.nil (hK11 _ _ ?_)))))
    refine .cond rfl ?_ ?_ <;> intro h64
    ·
     simp only [sps] at h64
     obtain ⟨h0, h1, h2, h3, h4⟩ := Cat.hom_get (c := d) (x := ob.getD (c.src.getD k 0).toNat 0) (y := ob.getD (c.tgt.getD k 0).toNat 0) (i := i) (by omega)
     refine .skip (hK10 _ _ (.seq (fun K12 hK12 => .block (.seq (fun K13 hK13 => .region (.mv rfl ?_))))))
     refine .call rfl rfl rfl rfl @Try.call108 rfl (l01Own_c) ?_
     rintro _ H68 ⟨le68, g68, rfl, at68, ge68⟩
     replace hst := hst.le le68
     replace lst2 := lst2.le le68
     replace rk := rk.le le68
     replace at6 := le68.2 _ _ at6
     replace at7 := le68.2 _ _ at7
     replace at55 := le68.2 _ _ at55
     replace at_L5 := le68.2 _ _ at_L5
     clear hc hd hX
     have hc := hin.mono hst.low
     have hd := hin1.mono hst.low
     clear hb6
     have hb6 : Cat.At _ g6 0 c p := ⟨Mem.of_get at6, hc⟩
     clear hb7
     have hb7 : Cat.At _ g7 0 d q := ⟨Mem.of_get at7, hd⟩
     have i55 := Ints.of_get at55
     have i68 := Ints.of_get at68
     refine .mv rfl (.nil (hK13 _ _ (.seq (fun K14 hK14 => .region (.mv rfl (.mv rfl (.mv rfl (.mv rfl ?_))))))))
     refine .q rfl (.idxN sl_24_A (by first | assumption | exact SlA.of_row at55 (by first | rfl | (simp; done) | (simp <;> omega))) rfl rfl (by omega)) ?_
     refine .q rfl (.loadI on_2_A (by first | assumption | exact Ints.of_get at55) rfl (by omega)) ?_
     refine .q rfl (.idxN sl_24_A (by first | assumption | exact SlA.of_row at68 (by first | rfl | (simp; done) | (simp <;> omega))) rfl rfl (by omega)) ?_
     refine .r0 rfl rfl (.storeI rfl sz_2_N rfl rfl (by assumption) (by first | omega | (simp <;> omega))) ?_
     rintro _ H10007 ⟨rfl, st10007, at10007⟩
     replace hst := hst.sA st10007
     replace lst2 := lst2.sA st10007
     replace rk := rk.sA st10007
     have ne_g6_g68 : NE g6 g68 := .a
     replace at6 := st10007.s at6 ne_g6_g68.ne
     have ne_g7_g68 : NE g7 g68 := .a
     replace at7 := st10007.s at7 ne_g7_g68.ne
     have ne_gL5_g68 : NE gL5 g68 := .a
     replace at_L5 := st10007.s at_L5 ne_gL5_g68.ne
     clear hc hd
     have hc := hin.mono hst.low
     have hd := hin1.mono hst.low
     clear hb6
     have hb6 : Cat.At _ g6 0 c p := ⟨Mem.of_get at6, hc⟩
     clear hb7
     have hb7 : Cat.At _ g7 0 d q := ⟨Mem.of_get at7, hd⟩
     clear i55
     clear i68
     refine .nil (hK14 _ _ (.seq (fun K15 hK15 => .region ?_)))
     rw [Nat.zero_add] at at10007
     refine .q rfl (.loadM ag_27_D rfl ⟨rfl, Mem.of_get at6⟩) ?_
     refine .q rfl (.loadM ag_27_D rfl ⟨rfl, Mem.of_get at7⟩) ?_
     refine .mv rfl ?_
     refine .call rfl rfl rfl rfl @Try.call135 rfl (l06Force_c (ob := ob) (xs := xs.set k ((d.hom (ob.getD (c.src.getD k 0).toNat 0) (ob.getD (c.tgt.getD k 0).toNat 0)).getD i 0)) (hin.mono (hst.low.hi (by rw [GHeap.next_set]; omega))) (hin1.mono (hst.low.hi (by rw [GHeap.next_set]; omega))) at10007 gc gd (hT.set (by omega) (by omega) (by rw [h4, Int.toNat_natCast]; exact h2) (by rw [h4, Int.toNat_natCast]; exact h3)) (by rw [List.length_set])) ?_
     rintro _ H79 ⟨⟨b79, rfl⟩, st79, ys79, at79, ty79⟩
     replace hst := hst.sA st79
     replace lst2 := lst2.sA st79
     replace rk := rk.sA st79
     replace at6 := st79.s at6 ne_g6_g68.ne
     replace at7 := st79.s at7 ne_g7_g68.ne
     replace at_L5 := st79.s at_L5 ne_gL5_g68.ne
     have lt_at79 := GHeap.ltg at79
     clear hc hd
     have hc := hin.mono hst.low
     have hd := hin1.mono hst.low
     clear hb6
     have hb6 : Cat.At _ g6 0 c p := ⟨Mem.of_get at6, hc⟩
     clear hb7
     have hb7 : Cat.At _ g7 0 d q := ⟨Mem.of_get at7, hd⟩
     refine .nil (hK15 _ _ ?_)
     refine .cond rfl ?_ ?_ <;> intro h79
     ·
      refine .region ?_
      refine .q rfl (.loadM ag_27_D rfl ⟨rfl, Mem.of_get at6⟩) ?_
      refine .q rfl (.loadM ag_27_D rfl ⟨rfl, Mem.of_get at7⟩) ?_
      refine .mv rfl (.mv rfl (.mv rfl (.q rfl (.aD rfl rfl rfl) (.mv rfl ?_))))
      refine .call rfl rfl rfl rfl @Try.call133 rfl (ih (r - 1) (by omega) (k + 1) (hin.mono (hst.erase (by omega))) (hin1.mono (hst.erase (by omega))) (ho.mono (hst.erase (by omega))) (Ints.of_get (GHeap.get_erase_of at79 (by omega))) gc gd hN hM ty79 hol (by have := ty79.len; omega) (by have := ty79.len; omega) (by assumption) (by rw [ln_L5]; exact hL5.le (rk.erase (.inl rfl))) (by omega) (by have := ty79.len; omega) (by omega)) ?_
      rintro _ H87 ⟨gR87, nR87, cR87, rfl, st87, or87, nn87, at87, ll87⟩
      replace hst := hst.sA st87
      replace lst2 := lst2.sA st87
      replace at6 := st87.s at6
      replace at7 := st87.s at7
      clear hc hd
      have hc := hin.mono hst.low
      have hd := hin1.mono hst.low
      clear hb6
      have hb6 : Cat.At _ g6 0 c p := ⟨Mem.of_get at6, hc⟩
      clear hb7
      have hb7 : Cat.At _ g7 0 d q := ⟨Mem.of_get at7, hd⟩
      refine .mv rfl (.nil (hK12 _ _ (.region (.mv rfl (.q rfl (.aD rfl rfl rfl) (.mv rfl (.nil ?_)))))))
      refine hKL2 ((i + 1, by first | exact nR87 | exact n5, by first | exact cR87 | exact cs5, _, _)) _ _ ?_ ?_ (.p rfl)
      ·
       refine ⟨lst2, by assumption, by omega, by omega, ?_⟩
       exact ⟨by omega, by omega, by first | assumption | exact hL5.le (rk.erase (.inl rfl))⟩
      (dsimp only; omega)
     refine .skip (hK12 _ _ (.region (.mv rfl (.q rfl (.aD rfl rfl rfl) (.mv rfl (.nil ?_))))))
     refine hKL2 ((i + 1, by first | exact nR87 | exact n5, by first | exact cR87 | exact cs5, _, _)) _ _ ?_ ?_ (.p rfl)
     ·
      refine ⟨lst2, by assumption, by omega, by omega, ?_⟩
      exact ⟨by omega, by omega, by first | assumption | exact hL5.le (rk.erase (.inl rfl))⟩
     (dsimp only; omega)
    refine .exit (hK8 _ _ (.seq (fun K16 hK16 => .region (.mv rfl (.mv rfl (.nil (hK16 _ _ (.ret (hret _ _ (⟨_, rfl, ?_⟩))))))))))
    first
    | exact ⟨_, _, _, rfl, hst, .inr (by omega), by omega, by assumption, (hL.le (hst.erase (.inr (by omega)))).snoc (by omega) (by omega) (GHeap.get_erase_of at35 (by omega))⟩
    | exact ⟨_, _, _, rfl, hst, by omega, by omega, by assumption, by rw [ln_L5]; exact hL5⟩
   simp only [sps] at h60
   refine .z rfl (.z rfl (.z rfl (.q rfl (.pickF rfl rfl) (.nil (hK11 _ _ ?_)))))
   refine .condF rfl ?_
   refine .exit (hK8 _ _ (.seq (fun K17 hK17 => .region (.mv rfl (.mv rfl (.nil (hK17 _ _ (.ret (hret _ _ (⟨_, rfl, ?_⟩))))))))))
   first
   | exact ⟨_, _, _, rfl, hst, .inr (by omega), by omega, by assumption, (hL.le (hst.erase (.inr (by omega)))).snoc (by omega) (by omega) (GHeap.get_erase_of at35 (by omega))⟩
   | exact ⟨_, _, _, rfl, hst, by omega, by omega, by assumption, by rw [ln_L5]; exact hL5⟩
  simp only [sps] at h20
  refine .z rfl (.z rfl (.z rfl (.z rfl (.z rfl (.q rfl (.pickF rfl rfl) (.nil (hK4 _ _ ?_)))))))
  refine .condF rfl ?_
  refine .exit (hK2 _ _ (.seq (fun K18 hK18 => .seq (fun K19 hK19 => .region (.mv rfl (.mv rfl (.q rfl (.len sl_24_A rfl) (.q rfl (.cmp rfl rfl rfl) (.nil (hK19 _ _ ?_))))))))))
  refine .cond rfl ?_ ?_ <;> intro h32
  ·
   simp only [sps] at h32
   refine .seq (fun K20 hK20 => .region (.mv rfl (.mv rfl ?_)))
   refine .call rfl rfl rfl rfl @Try.call108 rfl (l01Own_c) ?_
   rintro _ H35 ⟨le35, g35, rfl, at35, ge35⟩
   replace hst := hst.le le35
   replace hg := le35.2 _ _ hg
   replace at6 := le35.2 _ _ at6
   replace at7 := le35.2 _ _ at7
   have lt_at35 := GHeap.ltg at35
   have hc := hin.mono hst.low
   have hd := hin1.mono hst.low
   have hb6 : Cat.At _ g6 0 c p := ⟨Mem.of_get at6, hc⟩
   have hb7 : Cat.At _ g7 0 d q := ⟨Mem.of_get at7, hd⟩
   refine .R rfl (.litA rfl sl_25_B ze_24_Hj rfl rfl rfl rfl) ?_
   rintro _ H36 ⟨g36, rfl, le36, ge36, at36⟩
   replace hst := hst.le le36
   replace hg := le36.2 _ _ hg
   replace at6 := le36.2 _ _ at6
   replace at7 := le36.2 _ _ at7
   replace at35 := le36.2 _ _ at35
   have lt_at36 := GHeap.ltg at36
   clear hc hd
   have hc := hin.mono hst.low
   have hd := hin1.mono hst.low
   clear hb6
   have hb6 : Cat.At _ g6 0 c p := ⟨Mem.of_get at6, hc⟩
   clear hb7
   have hb7 : Cat.At _ g7 0 d q := ⟨Mem.of_get at7, hd⟩
   refine .R rfl (.appendV rfl sl_25_B ze_24_Hj rfl by_24_Hj sl_25_B rfl rfl (by assumption) (by assumption) (by first | omega | (simp <;> omega)) rfl rfl (by omega) (by omega)) ?_
   rintro _ H37 ⟨g37, rfl, st37, ge37, at37⟩
   replace hst := hst.sA st37
   have ne_g6_g : NE g6 g := .a
   replace at6 := st37.s at6 ne_g6_g.ne
   have ne_g7_g : NE g7 g := .a
   replace at7 := st37.s at7 ne_g7_g.ne
   replace at35 := st37.s at35
   clear hc hd
   have hc := hin.mono hst.low
   have hd := hin1.mono hst.low
   clear hb6
   have hb6 : Cat.At _ g6 0 c p := ⟨Mem.of_get at6, hc⟩
   clear hb7
   have hb7 : Cat.At _ g7 0 d q := ⟨Mem.of_get at7, hd⟩
   refine .mv rfl (.nil (hK20 _ _ (.ret (hret _ _ (⟨_, rfl, ?_⟩)))))
   first
   | exact ⟨_, _, _, rfl, hst, .inr (by omega), by omega, by assumption, (hL.le (hst.erase (.inr (by omega)))).snoc (by omega) (by omega) (GHeap.get_erase_of at35 (by omega))⟩
   | exact ⟨_, _, _, rfl, hst, by omega, by omega, by assumption, by rw [ln_L5]; exact hL5⟩
  simp only [sps] at h32
  omega
theorem l06Arrows_all : ∀ r, ArrSpec r
  | 0 => l06Arrows_step fun r' h => by omega
  | r + 1 => l06Arrows_step fun r' h => by
    obtain rfl : r' = r := by omega
    exact l06Arrows_all r'
end Go.Proofs.Ytfanjkbaemhbmaa
