/- The sum of two categories. No condition but those of each statement. -/
import Derived.Test.YtfanjkbaemhbmaaZ8
namespace Go.Proofs.Ytfanjkbaemhbmaa
open Go Go.GL Go.RowKit Go.Proofs
theorem sz_24_Ch : (Try.prog.info? 24).map (·.size) = some 1 := by kernel_rfl
theorem sz_25_Ch : (Try.prog.info? 25).map (·.size) = some 1 := by kernel_rfl
set_option maxHeartbeats 8000000 in
theorem l03Sum_c {c d : Cat} {p q : CatP} {N : Nat} {H : GHeap} (hin : c.In H p := by assumption) (hin1 : d.In H q := by assumption) (hc : c.Rect N) (hd : d.Rect N) (hN : N ≤ 100000) :
    GCalls Try.prog 103 [.agg (c.cells p).toArray, .agg (d.cells q).toArray] H (NewCatO 2 24 H (c.sum d)) := by
  obtain ⟨a1, a2, a3, -, -, _, -, _, a9, -⟩ := id hc
  obtain ⟨b1, b2, b3, b4, b5, _, b7, b8, b9, x4⟩ := id hd
  refine GCalls.body (N := 142) (rs := [.cell 4 27]) Try.func103 rfl rfl rfl rfl (fun Qx u7 hend => ?_)
  refine .fg [0, 1] rfl ?_
  have h := GHeap.Le.refl H
  have l := hin
  have b := hin1
  refine .seq (fun K1 w7 => .region ?_)
  refine .R rfl (.boxR rfl sz_27_D rfl) ?_
  rintro _ _ ⟨g2, rfl, x2, _, d2⟩
  replace h := h.trans x2
  have _ := GHeap.ltg d2
  replace hin := l.mono h
  have h7 : Cat.At _ g2 0 c p := ⟨Mem.of_get d2, hin⟩
  refine .R rfl (.boxR rfl sz_27_D rfl) ?_
  rintro _ _ ⟨g3, rfl, w2, _, d5⟩
  replace h := h.trans w2
  replace d2 := w2.2 _ _ d2
  have _ := GHeap.ltg d5
  replace hin := l.mono h
  replace hin1 := b.mono h
  clear h7
  have h7 : Cat.At _ g2 0 c p := ⟨Mem.of_get d2, hin⟩
  have r : Cat.At _ g3 0 d q := ⟨Mem.of_get d5, hin1⟩
  refine .R rfl (.allocR rfl ze_27_I rfl) ?_
  rintro _ _ ⟨g4, rfl, r6, _, k6⟩
  have _ := r6.1
  replace h := h.trans r6
  replace d2 := r6.2 _ _ d2
  replace d5 := r6.2 _ _ d5
  have _ := GHeap.ltg k6
  replace hin := l.mono h
  replace hin1 := b.mono h
  clear h7
  have h7 : Cat.At _ g2 0 c p := ⟨Mem.of_get d2, hin⟩
  obtain ⟨x0, w9, -, -, -, -, -, -, -⟩ := h7.get
  have w6 := h7.2
  clear r
  have r : Cat.At _ g3 0 d q := ⟨Mem.of_get d5, hin1⟩
  refine .nil (w7 _ _ (.seq (fun K2 y1 => ?_)))
  refine .regionD mo_B (.qs [0, 1, 2, 3, 4, 5, 6] (.done)) (by kernel_rfl) ?_
  refine .q rfl (.fieldAddr fo_27_0_B rfl) ?_
  refine .q rfl (.load on_2_A rfl (by first | assumption | exact Mem.of_get d2 0 _ rfl)) ?_
  refine .q rfl (.fieldAddr fo_27_1_B rfl) ?_
  refine .q rfl (.load on_24_B rfl (by first | assumption | exact Mem.of_get d2 1 _ rfl)) ?_
  refine .q rfl (.len sl_24_A rfl) (.mv rfl rfl (.mv rfl rfl (.done (y1 _ _ (.seq (fun K3 y2 => .region ?_))))))
  refine .q rfl (.loadM ag_27_D rfl ⟨rfl, Mem.of_get d2⟩) ?_
  refine .call rfl rfl rfl rfl @Try.call83 rfl (l02OwnO_c (hs := hc.small (by omega))) ?_
  rintro _ y6 ⟨l9, gF, gT, gI, gC, rr, rfl, j2⟩
  have aF := j2.a1
  have aT := j2.a2
  have aI := j2.a3
  have aC := j2.a4
  have _ := j2.b1
  have _ := j2.b2
  have _ := j2.b3
  have bC := j2.b4
  have n12 := j2.n12
  have x3 := j2.n13
  have y3 := j2.n23
  have _ := row_ne aC aF rfl
  have _ := row_ne aC aT rfl
  have _ := row_ne aC aI rfl
  have rk := St.refl [gI] y6
  replace h := h.trans l9
  replace d2 := l9.2 _ _ d2
  replace d5 := l9.2 _ _ d5
  replace k6 := l9.2 _ _ k6
  have p6 := GHeap.ltg aF
  have _ := GHeap.ltg aT
  have o5 := GHeap.ltg aI
  have _ := GHeap.ltg aC
  replace hin := l.mono h
  replace hin1 := b.mono h
  clear h7 x0 w9 w6
  have h7 : Cat.At _ g2 0 c p := ⟨Mem.of_get d2, hin⟩
  clear r
  have r : Cat.At _ g3 0 d q := ⟨Mem.of_get d5, hin1⟩
  refine .R rfl (.allocR rfl ze_27_I rfl) ?_
  rintro _ _ ⟨g7, rfl, l4, _, _⟩
  have _ := l4.1
  replace h := h.trans l4
  replace rk := rk.le l4
  replace d2 := l4.2 _ _ d2
  replace d5 := l4.2 _ _ d5
  replace k6 := l4.2 _ _ k6
  replace aF := l4.2 _ _ aF
  replace aT := l4.2 _ _ aT
  replace aI := l4.2 _ _ aI
  replace aC := l4.2 _ _ aC
  replace hin := l.mono h
  replace hin1 := b.mono h
  clear h7
  have h7 : Cat.At _ g2 0 c p := ⟨Mem.of_get d2, hin⟩
  clear r
  have r : Cat.At _ g3 0 d q := ⟨Mem.of_get d5, hin1⟩
  refine .r0 rfl rfl (.fillA rfl sz_27_D rfl rfl rfl rfl) ?_
  rintro _ _ ⟨rfl, c2, _⟩
  have _ := c2.nx
  replace h := h.st c2 (fun k hk => ⟨by omega, trivial⟩)
  replace rk := rk.sA c2
  have d8 : NE g2 g7 := .a
  replace d2 := c2.s d2 d8.ne
  have v : NE g3 g7 := .a
  replace d5 := c2.s d5 v.ne
  have c5 : NE g4 g7 := .a
  replace k6 := c2.s k6 c5.ne
  have g8 : NE gF g7 := .a
  replace aF := c2.s aF g8.ne
  have g9 : NE gT g7 := .a
  replace aT := c2.s aT g9.ne
  have j0 : NE gI g7 := .a
  replace aI := c2.s aI j0.ne
  have g6 : NE gC g7 := .a
  replace aC := c2.s aC g6.ne
  replace hin := l.mono h
  replace hin1 := b.mono h
  clear h7
  have h7 : Cat.At _ g2 0 c p := ⟨Mem.of_get d2, hin⟩
  clear r
  have r : Cat.At _ g3 0 d q := ⟨Mem.of_get d5, hin1⟩
  obtain ⟨l6, -, -, -, -, -, -, -, -⟩ := r.get
  refine .nil (y2 _ _ (.seq (fun K4 x8 => .region (.mv rfl (.q rfl (.fieldAddr fo_27_0_B rfl) ?_)))))
  refine .q rfl (.load on_2_A rfl (by first | assumption | exact Mem.of_get d5 0 _ rfl)) ?_
  refine .q rfl (.aD rfl rfl rfl) (.q rfl (.fieldAddr fo_27_0_B rfl) ?_)
  refine .r0 rfl rfl (.storeR rfl sz_2_N rfl rfl rfl (by assumption) (by first | exact Nat.le_of_ble_eq_true rfl | (simp; done) | (simp <;> omega))) ?_
  rintro _ n0 ⟨rfl, c4, k8⟩
  have _ := c4.nx
  replace h := h.st c4 (fun k hk => ⟨by omega, trivial⟩)
  replace rk := rk.sA c4
  replace d2 := c4.s d2 d8.ne
  replace d5 := c4.s d5 v.ne
  replace k6 := c4.s k6 c5.ne
  replace aF := c4.s aF g8.ne
  replace aT := c4.s aT g9.ne
  replace aI := c4.s aI j0.ne
  replace aC := c4.s aC g6.ne
  have _ := GHeap.ltg k8
  replace hin := l.mono h
  replace hin1 := b.mono h
  clear h7
  have h7 : Cat.At _ g2 0 c p := ⟨Mem.of_get d2, hin⟩
  clear r l6
  have r : Cat.At _ g3 0 d q := ⟨Mem.of_get d5, hin1⟩
  try simp only [Nat.zero_add, List.set_cons_succ, List.set_cons_zero] at k8
  refine .nil (x8 _ _ (.seq (fun K5 y0 => .seq (fun K6 x7 => .region (.mv rfl (.nil (x7 _ _ (.block ?_))))))))
  refine .loopF (σ := Nat × Nat) [3, 4, 5, 6, 7] (fun (y, gLI) => [(8, some (.int .i64 (y : Int)))]) (fun (y, gLI) H' => St [gI, g7] n0 H' ∧ H'.get gLI = some (.row (ints (c.idn ++ (d.idn.take y).map (· + (c.src.length : Int)))) 2 true) ∧ PL gLI gI n0.next ∧ H'.get g7 = some (.row ([.int .i64 (c.obj + d.obj), .slice (some ⟨gF, 0, none⟩) c.src.length c.src.length, .slice (some ⟨gT, 0, none⟩) c.tgt.length c.tgt.length, .slice (some ⟨gLI, 0, none⟩) (c.idn.length + y) (c.idn.length + y), .slice (some ⟨gC, 0, none⟩) c.comp.length c.comp.length]) 27 true) ∧ gLI ≠ g7 ∧ (y : Int) ≤ d.obj) (fun (y, gLI) => (d.obj - y : Int).toNat) ((0, gI)) rfl (.p rfl) ?_ ?_
  ·
   refine ⟨.refl _ _, by simpa using aI, ⟨.inl rfl⟩, by assumption, by omega, ?_⟩
   omega
  rintro ⟨y, gLI⟩ _ ⟨d4, j3, i5, t, p3, hI⟩ _ u4
  dsimp only [cA, nA]
  have o4 : H.next ≤ gLI := i5.ge (by omega) (by omega)
  have _ := d4.nx
  replace h := h.st d4 (fun k hk => ⟨by omega, by omega, trivial⟩)
  replace rk := rk.st d4 (fun k hk ho => by simp only [out, and_true] at ho ⊢ <;> exact ⟨by first | exact ho | exact ho.1 | exact ho.2 | exact ho.2.1 | exact ho.2.2 | exact ho.2.2.1 | exact ho.2.2.2 | omega, by first | exact ho | exact ho.1 | exact ho.2 | exact ho.2.1 | exact ho.2.2 | exact ho.2.2.1 | exact ho.2.2.2 | omega⟩)
  have i8 : NE g2 gI := .a
  replace d2 := d4.same _ _ ⟨i8.ne, d8.ne, trivial⟩ d2
  have j1 : NE g3 gI := .a
  replace d5 := d4.same _ _ ⟨j1.ne, v.ne, trivial⟩ d5
  replace k6 := d4.same _ _ ⟨(by first | assumption | omega), c5.ne, trivial⟩ k6
  replace aF := d4.same _ _ ⟨(by first | assumption | omega), g8.ne, trivial⟩ aF
  replace aT := d4.same _ _ ⟨(by first | assumption | omega), g9.ne, trivial⟩ aT
  replace aC := d4.same _ _ ⟨(by first | assumption | omega), g6.ne, trivial⟩ aC
  have k3 := GHeap.ltg t
  replace hin := l.mono h
  replace hin1 := b.mono h
  clear h7
  have h7 : Cat.At _ g2 0 c p := ⟨Mem.of_get d2, hin⟩
  clear r
  have r : Cat.At _ g3 0 d q := ⟨Mem.of_get d5, hin1⟩
  obtain ⟨l6, -, -, n2, -, -, -, n8, -⟩ := r.get
  have hfl : (c.idn ++ (d.idn.take y).map (· + (c.src.length : Int))).length = c.idn.length + y := by simp; omega
  refine .seq (fun K7 y4 => .seq (fun K8 x1 => .region (.mv rfl (.q rfl (.fieldAddr fo_27_0_B rfl) ?_))))
  refine .q rfl (.load on_2_A rfl (by first | assumption | exact Mem.of_get d5 0 _ rfl)) ?_
  refine .q rfl (.cmp rfl rfl rfl) (.nil (x1 _ _ ?_))
  refine .cond rfl ?_ ?_ <;> intro w1
  ·
   simp only [sps] at w1
   have r1 := b7 y (by omega)
   refine .skip (y4 _ _ (.seq (fun K9 z0 => .block ?_)))
   refine .regionD mo_B (.qs [0, 1, 2, 3, 4, 5, 6, 7, 8] (.c 9 1 (.c 10 0 (.q 11 (.c 12 0 (.done)))))) (by kernel_rfl) ?_
   refine .q rfl (.fieldAddr fo_27_3_B rfl) ?_
   refine .q rfl (.load on_24_B rfl (by first | assumption | exact Mem.of_get t 3 _ rfl)) ?_
   refine .q rfl (.fieldAddr fo_27_3_B rfl) ?_
   refine .q rfl (.load on_24_B rfl (by first | assumption | exact Mem.of_get d5 3 _ rfl)) ?_
   refine .mv rfl rfl (.q rfl (.iN sl_24_A rfl rfl) (.q rfl (.lI on_2_A rfl) (.mv rfl rfl (.q rfl (.aD rfl rfl rfl) ?_))))
   refine .c1 rfl rfl rfl rfl (.litA rfl sl_24_A ze_2_L rfl rfl rfl rfl) ?_
   rintro _ _ ⟨_, rfl, j4, _, s1⟩
   have i0 := j4
   refine ⟨i0, ?_⟩
   replace h := h.trans j4
   replace d4 := d4.le j4
   replace d2 := j4.2 _ _ d2
   replace d5 := j4.2 _ _ d5
   replace j3 := j4.2 _ _ j3
   replace t := j4.2 _ _ t
   have _ := GHeap.ltg s1
   replace hin := l.mono h
   replace hin1 := b.mono h
   clear h7
   have h7 : Cat.At _ g2 0 c p := ⟨Mem.of_get d2, hin⟩
   clear r l6 n2 n8
   have r : Cat.At _ g3 0 d q := ⟨Mem.of_get d5, hin1⟩
   refine .c0 rfl rfl rfl rfl (.apI rfl sl_24_A ze_2_L rfl by_2_L sl_24_A rfl rfl) ?_
   rintro _ _ ⟨z1, rfl, k7, _, p2⟩
   replace h := h.st k7 (fun k hk => ⟨by omega, trivial⟩)
   replace d4 := d4.sP k7
   replace d2 := k7.same _ _ ⟨(i5.ne i8.ne (by omega)), trivial⟩ d2
   replace d5 := k7.same _ _ ⟨(i5.ne j1.ne (by omega)), trivial⟩ d5
   replace t := k7.same _ _ ⟨(Ne.symm p3), trivial⟩ t
   replace hin := l.mono h
   replace hin1 := b.mono h
   clear h7
   have h7 : Cat.At _ g2 0 c p := ⟨Mem.of_get d2, hin⟩
   clear r
   have r : Cat.At _ g3 0 d q := ⟨Mem.of_get d5, hin1⟩
   refine .q rfl (.fieldAddr fo_27_3_B rfl) ?_
   refine .r0 rfl rfl rfl (.storeR rfl sz_24_Ch rfl rfl rfl (by assumption) (by first | exact Nat.le_of_ble_eq_true rfl | (simp; done) | (simp <;> omega))) ?_
   rintro _ _ ⟨rfl, g0, o1⟩
   replace h := h.st g0 (fun k hk => ⟨by omega, trivial⟩)
   replace d4 := d4.sA g0
   replace d2 := g0.s d2 d8.ne
   replace d5 := g0.s d5 v.ne
   replace p2 := g0.s p2
   replace hin := l.mono h
   replace hin1 := b.mono h
   clear h7
   have h7 : Cat.At _ g2 0 c p := ⟨Mem.of_get d2, hin⟩
   clear r
   have r : Cat.At _ g3 0 d q := ⟨Mem.of_get d5, hin1⟩
   try simp only [Nat.zero_add, List.set_cons_succ, List.set_cons_zero] at o1
   refine .done (z0 _ _ (.region (.mv rfl (.q rfl (.aD rfl rfl rfl) (.mv rfl (.nil ?_))))))
   refine u4 ((y + 1, z1)) _ _ ?_ ?_ (.p rfl)
   ·
    refine ⟨d4, by (rw [take_map_snoc (d := 0) (by omega), ← List.append_assoc]; assumption), by exact ⟨.inr (by omega)⟩, by assumption, by omega, ?_⟩
    omega
   (dsimp only; omega)
  try simp only [sps] at w1
  refine .exit (y0 _ _ (.seq (fun K10 r9 => .seq (fun K11 t0 => .region ?_))))
  obtain rfl : y = d.obj.toNat := by omega
  have w8 : (d.idn.take d.obj.toNat) = d.idn := List.take_of_length_le (by omega)
  rw [w8] at j3
  have _ := row_ne aC j3 rfl
  have k5 : gF ≠ gLI := i5.ne x3 (by omega)
  have k4 : gT ≠ gLI := i5.ne y3 (by omega)
  refine .mv rfl (.nil (t0 _ _ (.block ?_)))
  refine .loopF (σ := Nat × (Nat → Option Addr)) [3, 4, 5, 6, 7] (fun (f, rr) => [(9, some (.int .i64 (f : Int)))]) (fun (f, rr) H' => f ≤ c.comp.length ∧ SumSt 2 24 27 H H' c d q g3 g4 g7 gF gT gLI gC [.int .i64 0, .slice none 0 0, .slice none 0 0, .slice none 0 0, .slice none 0 0] rr f 0) (fun (f, rr) => c.comp.length - f) ((0, rr)) rfl (.p rfl) ?_ ?_
  ·
   refine ⟨by omega, h, by omega, ?_, k6, t, aF, aT, j3, by rw [extL_zero]; exact aC, by rw [extL_zero]; exact (j2.rows.st rk (.cons j2.r3 (.nil _ _))).low (by omega), j2.r1, j2.r2, ?_⟩
   · assumption
   · exact fun i hi e => by
       obtain ⟨x, h1, _, h3⟩ := j2.rows.row i hi
       rw [h1] at e
       cases e
       have := GHeap.ltg h3
       exact i5.ne (fun e => j2.r3 i hi (by rw [h1, e])) (by omega) rfl
  rintro ⟨f, rr⟩ HL2 hI _ v8
  dsimp only [cA, nA]
  obtain ⟨_, hS⟩ := hI
  obtain ⟨h, bC, aD, aR, aS, aF, aT, aI, aC, hR, y9, y5, x9⟩ := id hS
  have _ := h.1
  have _ := GHeap.ltg aD
  have _ := GHeap.ltg aR
  have p6 := GHeap.ltg aF
  have o5 := GHeap.ltg aI
  replace hin1 := b.mono h
  have r : Cat.At _ g3 0 d q := ⟨Mem.of_get aD, hin1⟩
  refine .seq (fun K12 t6 => .seq (fun K13 w0 => .region (.mv rfl (.q rfl (.fieldAddr fo_27_4_B rfl) ?_))))
  refine .q rfl (.load on_25_B rfl (by first | assumption | exact Mem.of_get aS 4 _ rfl)) ?_
  refine .q rfl (.len sl_25_B rfl) (.q rfl (.cmp rfl rfl rfl) (.nil (w0 _ _ ?_)))
  refine .cond rfl ?_ ?_ <;> intro w5
  ·
   simp only [sps] at w5
   refine .skip (t6 _ _ (.seq (fun K14 u9 => .block (.seq (fun K15 v7 => .region (.mv rfl (.nil (v7 _ _ (.block ?_)))))))))
   refine .loopF (σ := Nat × (Nat → Option Addr)) [3, 4, 5, 6, 7, 9] (fun (j, r2) => [(10, some (.int .i64 (j : Int)))]) (fun (j, r2) H' => j ≤ d.src.length ∧ SumSt 2 24 27 H H' c d q g3 g4 g7 gF gT gLI gC [.int .i64 0, .slice none 0 0, .slice none 0 0, .slice none 0 0, .slice none 0 0] r2 f j) (fun (j, r2) => d.src.length - j) ((0, rr)) rfl (.p rfl) ?_ ?_
   ·
    exact ⟨by omega, hS⟩
   rintro ⟨j, r2⟩ HL3 hI _ v0
   dsimp only [cA, nA]
   obtain ⟨hj, hS⟩ := hI
   obtain ⟨-, -, aD, aR, aS, -, -, aI, aC, hR, -, -, -⟩ := id hS
   have _ := extL_len (xss := c.comp) (k := d.src.length) (f := f) (j := j) (i := f) hj (by omega)
   have hrow := a9 f (by omega)
   refine .seq (fun K16 s4 => .seq (fun K17 s9 => .region (.mv rfl (.q rfl (.fieldAddr fo_27_1_B rfl) ?_))))
   refine .q rfl (.load on_24_B rfl (by first | assumption | exact Mem.of_get aD 1 _ rfl)) ?_
   refine .q rfl (.len sl_24_A rfl) (.q rfl (.cmp rfl rfl rfl) (.nil (s9 _ _ ?_)))
   refine .cond rfl ?_ ?_ <;> intro w3
   ·
    simp only [sps] at w3
    obtain ⟨gi, hgi, -, m7⟩ := hR.row f (by rw [length_extL]; omega)
    have hati := m7
    have m1 := row_ne aS hati rfl
    have m3 := row_ne aC hati rfl
    refine .skip (s4 _ _ (.seq (fun K18 t4 => .block ?_)))
    refine .regionDB mo_B (.qs [0, 1, 2, 3, 4, 5, 6, 7] (.c 8 1 (.c 9 1 (.q 10 (.c 11 0 (.done)))))) (by kernel_rfl) (GHeap.le_erase HL3 gi) ?_
    have i0 := GHeap.le_erase HL3 gi
    have aSB := GHeap.get_erase_of aS m1
    have aCB := GHeap.get_erase_of aC m3
    have cC := slsL_cell aCB (i := f) (by rw [length_extL]; omega)
    rw [hgi] at cC
    refine .qB rfl i0 (.fieldAddr fo_27_4_B rfl) (.qB rfl i0 (.load on_25_B rfl (Mem.of_get aSB 4 _ rfl)) (.qB rfl i0 (.move rfl) (.qB rfl i0 (.fieldAddr fo_27_4_B rfl) (.qB rfl i0 (.load on_25_B rfl (Mem.of_get aSB 4 _ rfl)) (.qB rfl i0 (.move rfl) ?_)))))
    refine .qB rfl i0 (.idxN sl_25_B (SlA.of_row aCB (by simp)) rfl rfl (by omega)) ?_
    refine .qB rfl i0 (.load on_24_B rfl cC) ?_
    refine .c1 rfl rfl rfl rfl (.litA rfl sl_24_A ze_2_L rfl rfl rfl rfl) ?_
    rintro _ _ ⟨_, rfl, l8, _, _⟩
    replace i0 := i0.trans l8
    refine ⟨i0, ?_⟩
    replace aC := l8.2 _ _ aC
    replace hati := l8.2 _ _ hati
    refine .c1 rfl rfl rfl rfl (.apI rfl sl_24_A ze_2_L rfl by_2_L sl_24_A rfl rfl) ?_
    rintro _ _ ⟨y7, rfl, l5, t8, v6⟩
    refine ⟨(i0.erase_st l5), ?_⟩
    replace aC := l5.s aC
    replace i0 := i0.erase_st l5
    refine .qB rfl i0 (.idxN sl_25_B (SlA.of_row aCB (by simp)) rfl rfl (by omega)) ?_
    have q5 := v6
    refine .r0 rfl rfl rfl (.storeR rfl sz_24_Ch rfl rfl rfl (by assumption) (by first | exact Nat.le_of_ble_eq_true rfl | (simp; done) | (simp <;> omega))) ?_
    rintro _ _ ⟨rfl, m4, j9⟩
    rw [Nat.zero_add] at j9
    refine .done (t4 _ _ (.region (.mv rfl (.q rfl (.aD rfl rfl rfl) (.mv rfl (.nil ?_))))))
    refine v0 ((j + 1, upd r2 f (some ⟨y7, 0, none⟩))) _ _ ?_ ?_ (.p rfl)
    ·
     exact ⟨by omega, hS.app rfl rfl rfl (by omega) m7 hgi l8 l5 t8 q5 m4 j9 rfl⟩
    (dsimp only; omega)
   try simp only [sps] at w3
   refine .exit (u9 _ _ (.region (.mv rfl (.q rfl (.aD rfl rfl rfl) (.mv rfl (.nil ?_))))))
   refine v8 ((f + 1, r2)) _ _ ?_ ?_ (.p rfl)
   ·
    obtain rfl : j = d.src.length := by omega
    exact ⟨by omega, hS.next⟩
   (dsimp only; omega)
  try simp only [sps] at w5
  refine .exit (r9 _ _ (.seq (fun K19 v3 => .seq (fun K20 u0 => .region ?_))))
  obtain rfl : f = c.comp.length := by omega
  rw [Cat.extL_all] at aC hR
  have f9 := row_ne aD aF rfl
  have f7 := row_ne aD aT rfl
  have h4 := row_ne aD aC rfl
  have d7 := row_ne aR aF rfl
  have i2 := row_ne aI aR rfl
  have f5 := row_ne aR aT rfl
  have g5 := row_ne aR aC rfl
  have _ := row_ne aS aF rfl
  have _ := row_ne aS aT rfl
  have _ := row_ne aS aC rfl
  refine .mv rfl (.nil (u0 _ _ (.block ?_)))
  refine .loopF (σ := Nat × (Nat → Option Addr) × Nat × Nat × Nat) [3, 4, 5, 6, 7] (fun (i, r3, gLF, gLT, gLC) => [(11, some (.int .i64 (i : Int)))]) (fun (i, r3, gLF, gLT, gLC) H' => St [gF, gT, gC, g7] HL2 H' ∧ H'.get gLF = some (.row (ints (c.src ++ (d.src.take i).map (· + c.obj))) 2 true) ∧ PL gLF gF HL2.next ∧ H'.get gLT = some (.row (ints (c.tgt ++ (d.tgt.take i).map (· + c.obj))) 2 true) ∧ PL gLT gT HL2.next ∧ H'.get gLC = some (.row ((slsL r3 (c.sumL d ++ (d.comp.take i).map (sumRow c.src.length)))) 24 true) ∧ PL gLC gC HL2.next ∧ H'.get g7 = some (.row ([.int .i64 (c.obj + d.obj), .slice (some ⟨gLF, 0, none⟩) (c.src.length + i) (c.src.length + i), .slice (some ⟨gLT, 0, none⟩) (c.tgt.length + i) (c.tgt.length + i), .slice (some ⟨gLI, 0, none⟩) (c.idn.length + d.obj.toNat) (c.idn.length + d.obj.toNat), .slice (some ⟨gLC, 0, none⟩) (c.comp.length + i) (c.comp.length + i)]) 27 true) ∧ gLF ≠ gLT ∧ gLF ≠ gLC ∧ gLF ≠ g7 ∧ gLT ≠ gLC ∧ gLT ≠ g7 ∧ gLC ≠ g7 ∧ i ≤ d.src.length ∧ OwnL H.next H' 2 r3 (c.sumL d ++ (d.comp.take i).map (sumRow c.src.length)) ∧ (∀ j, j < (c.sumL d ++ (d.comp.take i).map (sumRow c.src.length)).length → r3 j ≠ some ⟨gLF, 0, none⟩) ∧ (∀ j, j < (c.sumL d ++ (d.comp.take i).map (sumRow c.src.length)).length → r3 j ≠ some ⟨gLT, 0, none⟩) ∧ ∀ j, j < (c.sumL d ++ (d.comp.take i).map (sumRow c.src.length)).length → r3 j ≠ some ⟨gLI, 0, none⟩) (fun (i, r3, gLF, gLT, gLC) => d.src.length - i) ((0, rr, gF, gT, gC)) rfl (.p rfl) ?_ ?_
  ·
   refine ⟨.refl _ _, by simpa using aF, ⟨.inl rfl⟩, by simpa using aT, ⟨.inl rfl⟩, by simpa using aC, ⟨.inl rfl⟩, by assumption, by omega, by omega, by omega, by omega, by omega, by omega, ?_⟩
   have e0 : c.sumL d ++ (d.comp.take 0).map (sumRow c.src.length) = c.sumL d := by simp
   rw [e0]
   have _ : (c.sumL d).length = c.comp.length := by simp [Cat.sumL]
   exact ⟨by omega, hR, fun j hj => y9 j (by omega), fun j hj => y5 j (by omega), fun j hj => x9 j (by omega)⟩
  rintro ⟨i, r3, gLF, gLT, gLC⟩ HL4 ⟨u, g1, i3, c6, k0, m, l1, t, p8, q7, r4, p7, n1, l2, hI⟩ _ t7
  dsimp only [cA, nA]
  have q6 : H.next ≤ gLF := i3.ge (by omega) (by omega)
  have p4 : H.next ≤ gLT := k0.ge (by omega) (by omega)
  have o2 : H.next ≤ gLC := l1.ge (by omega) (by omega)
  have _ := u.nx
  replace h := h.st u (fun k hk => ⟨by omega, by omega, by omega, by omega, trivial⟩)
  have f9 : NE g3 gF := .a
  have f7 : NE g3 gT := .a
  have h4 : NE g3 gC := .a
  have v : NE g3 g7 := .a
  replace aD := u.same _ _ ⟨f9.ne, f7.ne, h4.ne, v.ne, trivial⟩ aD
  have d7 : NE g4 gF := .a
  have f5 : NE g4 gT := .a
  have g5 : NE g4 gC := .a
  have c5 : NE g4 g7 := .a
  replace aR := u.same _ _ ⟨d7.ne, f5.ne, g5.ne, c5.ne, trivial⟩ aR
  have i4 : NE gLI gF := .a
  have i1 : NE gLI g7 := .a
  replace aI := u.same _ _ ⟨i4.ne, (by first | assumption | omega), (by first | assumption | omega), i1.ne, trivial⟩ aI
  have _ := GHeap.ltg g1
  have _ := GHeap.ltg c6
  have _ := GHeap.ltg m
  have k3 := GHeap.ltg t
  replace hin1 := b.mono h
  clear r
  have r : Cat.At _ g3 0 d q := ⟨Mem.of_get aD, hin1⟩
  obtain ⟨-, m6, -, -, -, n9, -, -, -⟩ := r.get
  have rk := St.refl [gLF, gLT, gLC, g7] HL4
  obtain ⟨hi, hR, hF, hT, hId⟩ := hI
  have hatC := m
  have nFI : gLI ≠ gLF := i3.ne (Ne.symm k5) (by omega)
  have nTI : gLI ≠ gLT := k0.ne (Ne.symm k4) (by omega)
  have u3 := t
  have hql : (c.sumL d ++ (d.comp.take i).map (sumRow c.src.length)).length = c.comp.length + i := by simp [Cat.sumL]; omega
  have _ : (c.src ++ (d.src.take i).map (· + c.obj)).length = c.src.length + i := by simp; omega
  have _ : (c.tgt ++ (d.tgt.take i).map (· + c.obj)).length = c.tgt.length + i := by simp; omega
  have hfl : (slsL r3 (c.sumL d ++ (d.comp.take i).map (sumRow c.src.length))).length = c.comp.length + i := by rw [length_slsL, hql]
  refine .seq (fun K21 v9 => .seq (fun K22 v1 => .region (.mv rfl (.q rfl (.fieldAddr fo_27_1_B rfl) ?_))))
  refine .q rfl (.load on_24_B rfl (by first | assumption | exact Mem.of_get aD 1 _ rfl)) ?_
  refine .q rfl (.len sl_24_A rfl) (.q rfl (.cmp rfl rfl rfl) (.nil (v1 _ _ ?_)))
  refine .cond rfl ?_ ?_ <;> intro w4
  ·
   simp only [sps] at w4
   have _ := b4 i (by omega)
   have _ := b5 i (by omega)
   have _ := b9 i (by omega)
   refine .skip (v9 _ _ (.seq (fun K23 u6 => .block (.seq (fun K24 t5 => ?_)))))
   refine .regionD mo_B (.qs [0, 1, 2, 3, 4, 5, 6, 7, 8] (.c 9 1 (.c 10 0 (.q 11 (.c 12 0 (.done)))))) (by kernel_rfl) ?_
   refine .q rfl (.fieldAddr fo_27_1_B rfl) ?_
   refine .q rfl (.load on_24_B rfl (by first | assumption | exact Mem.of_get t 1 _ rfl)) ?_
   refine .q rfl (.fieldAddr fo_27_1_B rfl) ?_
   refine .q rfl (.load on_24_B rfl (by first | assumption | exact Mem.of_get aD 1 _ rfl)) ?_
   refine .mv rfl rfl (.q rfl (.iN sl_24_A rfl rfl) (.q rfl (.lI on_2_A rfl) (.mv rfl rfl (.q rfl (.aD rfl rfl rfl) ?_))))
   refine .c1 rfl rfl rfl rfl (.litA rfl sl_24_A ze_2_L rfl rfl rfl rfl) ?_
   rintro _ _ ⟨_, rfl, f8, _, j7⟩
   have i0 := f8
   refine ⟨i0, ?_⟩
   replace h := h.trans f8
   replace u := u.le f8
   replace rk := rk.le f8
   replace aD := f8.2 _ _ aD
   replace aR := f8.2 _ _ aR
   replace aI := f8.2 _ _ aI
   replace g1 := f8.2 _ _ g1
   replace c6 := f8.2 _ _ c6
   replace m := f8.2 _ _ m
   replace t := f8.2 _ _ t
   have _ := GHeap.ltg j7
   replace hin1 := b.mono h
   clear r m6 n9
   have r : Cat.At _ g3 0 d q := ⟨Mem.of_get aD, hin1⟩
   refine .c0 rfl rfl rfl rfl (.apI rfl sl_24_A ze_2_L rfl by_2_L sl_24_A rfl rfl) ?_
   rintro _ _ ⟨r7, rfl, h8, _, c3⟩
   replace h := h.st h8 (fun k hk => ⟨by omega, trivial⟩)
   replace u := u.sP h8
   replace rk := rk.sP h8
   replace aD := h8.same _ _ ⟨(i3.ne f9.ne (by omega)), trivial⟩ aD
   have e5 : NE g4 gLF := ⟨i3.ne d7.ne (by omega)⟩
   replace aR := h8.s aR e5.ne
   replace aI := h8.same _ _ ⟨(i3.ne i4.ne (by omega)), trivial⟩ aI
   replace c6 := h8.same _ _ ⟨(Ne.symm p8), trivial⟩ c6
   replace m := h8.same _ _ ⟨(Ne.symm q7), trivial⟩ m
   replace t := h8.same _ _ ⟨(Ne.symm r4), trivial⟩ t
   replace j7 := h8.s j7
   have _ := GHeap.ltg c3
   replace hin := l.mono h
   replace hin1 := b.mono h
   clear r
   have r : Cat.At _ g3 0 d q := ⟨Mem.of_get aD, hin1⟩
   obtain ⟨l6, m6, r5, n2, o0, n9, o9, n8, m8⟩ := r.get
   have o6 : MemN _ _ _ _ _ := ⟨rfl, r.1⟩
   have o7 := r.2
   refine .q rfl (.fieldAddr fo_27_1_B rfl) ?_
   refine .r0 rfl rfl rfl (.storeR rfl sz_24_Ch rfl rfl rfl (by assumption) (by first | exact Nat.le_of_ble_eq_true rfl | (simp; done) | (simp <;> omega))) ?_
   rintro _ _ ⟨rfl, w, c8⟩
   have _ := w.nx
   replace h := h.st w (fun k hk => ⟨by omega, trivial⟩)
   replace u := u.sA w
   replace rk := rk.sA w
   replace aD := w.s aD v.ne
   replace aR := w.s aR c5.ne
   replace aI := w.s aI i1.ne
   replace c6 := w.same _ _ ⟨n1, trivial⟩ c6
   replace m := w.same _ _ ⟨l2, trivial⟩ m
   replace j7 := w.s j7
   have e8 : NE r7 g7 := .a
   replace c3 := w.s c3 e8.ne
   have _ := GHeap.ltg c8
   replace hin := l.mono h
   replace hin1 := b.mono h
   clear r l6 m6 r5 n2 o0 n9 o9 n8 m8 o6 o7
   have r : Cat.At _ g3 0 d q := ⟨Mem.of_get aD, hin1⟩
   obtain ⟨l6, m6, r5, n2, o0, n9, o9, n8, m8⟩ := r.get
   have o6 : MemN _ _ _ _ _ := ⟨rfl, r.1⟩
   have o7 := r.2
   try simp only [Nat.zero_add, List.set_cons_succ, List.set_cons_zero] at c8
   refine .done (t5 _ _ (.seq (fun K25 t2 => ?_)))
   refine .regionD mo_B (.qs [0, 1, 2, 3, 4, 5, 6, 7, 8] (.c 9 1 (.c 10 0 (.q 11 (.c 12 0 (.done)))))) (by kernel_rfl) ?_
   refine .q rfl (.fieldAddr fo_27_2_B rfl) ?_
   refine .q rfl (.load on_24_B rfl (by first | assumption | exact Mem.of_get c8 2 _ rfl)) ?_
   refine .q rfl (.fieldAddr fo_27_2_B rfl) ?_
   refine .q rfl (.load on_24_B rfl (by first | assumption | exact Mem.of_get aD 2 _ rfl)) ?_
   refine .mv rfl rfl (.q rfl (.iN sl_24_A rfl rfl) (.q rfl (.lI on_2_A rfl) (.mv rfl rfl (.q rfl (.aD rfl rfl rfl) ?_))))
   refine .c1 rfl rfl rfl rfl (.litA rfl sl_24_A ze_2_L rfl rfl rfl rfl) ?_
   rintro _ _ ⟨_, rfl, e7, _, v5⟩
   have i0 := e7
   refine ⟨i0, ?_⟩
   have _ := e7.1
   replace h := h.trans e7
   replace u := u.le e7
   replace rk := rk.le e7
   replace aD := e7.2 _ _ aD
   replace aR := e7.2 _ _ aR
   replace aI := e7.2 _ _ aI
   replace c6 := e7.2 _ _ c6
   replace m := e7.2 _ _ m
   replace j7 := e7.2 _ _ j7
   replace c3 := e7.2 _ _ c3
   replace c8 := e7.2 _ _ c8
   have _ := GHeap.ltg v5
   replace hin := l.mono h
   replace hin1 := b.mono h
   clear r l6 m6 r5 n2 o0 n9 o9 n8 m8 o6 o7
   have r : Cat.At _ g3 0 d q := ⟨Mem.of_get aD, hin1⟩
   obtain ⟨l6, m6, r5, n2, o0, n9, o9, n8, m8⟩ := r.get
   have o6 : MemN _ _ _ _ _ := ⟨rfl, r.1⟩
   have o7 := r.2
   refine .c0 rfl rfl rfl rfl (.apI rfl sl_24_A ze_2_L rfl by_2_L sl_24_A rfl rfl) ?_
   rintro _ _ ⟨l7, rfl, f6, _, a5⟩
   replace h := h.st f6 (fun k hk => ⟨by omega, trivial⟩)
   replace u := u.sP f6
   replace rk := rk.sP f6
   replace aD := f6.same _ _ ⟨(k0.ne f7.ne (by omega)), trivial⟩ aD
   replace m := f6.same _ _ ⟨(Ne.symm p7), trivial⟩ m
   replace c3 := f6.s c3
   replace c8 := f6.same _ _ ⟨(Ne.symm n1), trivial⟩ c8
   have _ := GHeap.ltg a5
   replace hin1 := b.mono h
   clear r l6 m6 r5 n2 o0 n9 o9 n8 m8 o6 o7
   have r : Cat.At _ g3 0 d q := ⟨Mem.of_get aD, hin1⟩
   refine .q rfl (.fieldAddr fo_27_2_B rfl) ?_
   refine .r0 rfl rfl rfl (.storeR rfl sz_24_Ch rfl rfl rfl (by assumption) (by first | exact Nat.le_of_ble_eq_true rfl | (simp; done) | (simp <;> omega))) ?_
   rintro _ _ ⟨rfl, b0, o⟩
   have _ := b0.nx
   replace h := h.st b0 (fun k hk => ⟨by omega, trivial⟩)
   replace u := u.sA b0
   replace rk := rk.sA b0
   replace aD := b0.s aD v.ne
   replace m := b0.same _ _ ⟨l2, trivial⟩ m
   replace c3 := b0.s c3 e8.ne
   have h5 : NE l7 g7 := .a
   replace a5 := b0.s a5 h5.ne
   have _ := GHeap.ltg o
   replace hin1 := b.mono h
   clear r
   have r : Cat.At _ g3 0 d q := ⟨Mem.of_get aD, hin1⟩
   try simp only [Nat.zero_add, List.set_cons_succ, List.set_cons_zero] at o
   refine .done (t2 _ _ (.seq (fun K26 t9 => .region ?_)))
   refine .R rfl (.litA rfl sl_24_A ze_2_L rfl rfl rfl rfl) ?_
   rintro _ n7 ⟨i7, rfl, e9, _, l0⟩
   replace h := h.trans e9
   replace u := u.le e9
   replace rk := rk.le e9
   replace aD := e9.2 _ _ aD
   replace m := e9.2 _ _ m
   replace c3 := e9.2 _ _ c3
   replace a5 := e9.2 _ _ a5
   replace o := e9.2 _ _ o
   have _ := GHeap.ltg l0
   replace hin1 := b.mono h
   clear r
   have r : Cat.At _ g3 0 d q := ⟨Mem.of_get aD, hin1⟩
   replace l0 : GHeap.get n7 i7 = some (.row (ints []) 2 true) := l0
   refine .mv rfl (.nil (t9 _ _ (.seq (fun K27 s6 => .seq (fun K28 s8 => .region (.mv rfl (.nil (s8 _ _ (.block ?_)))))))))
   refine .loopF (σ := Nat × Nat × Nat) [3, 4, 5, 6, 7, 11] (fun (j, e4, j5) => [(13, some (.int .i64 (j : Int))), (12, some (.slice (some ⟨e4, 0, none⟩) j5 j5))]) (fun (j, e4, j5) H' => St [i7] n7 H' ∧ H'.get e4 = some (.row (ints (List.replicate j (-1))) 2 true) ∧ PL e4 i7 n7.next ∧ j5 = (List.replicate j (-1)).length ∧ j ≤ c.src.length) (fun (j, e4, j5) => c.src.length - j) ((0, _, _)) rfl (.p rfl) ?_ ?_
   ·
    refine ⟨.refl _ _, by assumption, ⟨.inl rfl⟩, by rfl, ?_⟩
    omega
   rintro ⟨j, e4, j5⟩ HL5 ⟨e2, j6, d3, n3, hI⟩ _ u2
   dsimp only [cA, nA]
   have _ : H.next ≤ e4 := d3.ge (by omega) (by omega)
   have _ := e2.nx
   replace h := h.st e2 (fun k hk => ⟨by omega, trivial⟩)
   replace u := u.sA e2
   replace rk := rk.sA e2
   have d6 : NE g3 i7 := .a
   replace aD := e2.s aD d6.ne
   have f0 : NE gLC i7 := .a
   replace m := e2.s m f0.ne
   have f3 : NE r7 i7 := .a
   replace c3 := e2.s c3 f3.ne
   have d9 : NE l7 i7 := .a
   replace a5 := e2.s a5 d9.ne
   have h6 : NE g7 i7 := .a
   replace o := e2.s o h6.ne
   have _ := GHeap.ltg j6
   replace hin1 := b.mono h
   clear r
   have r : Cat.At _ g3 0 d q := ⟨Mem.of_get aD, hin1⟩
   have hz : (List.replicate j (-1 : Int)).length = j := List.length_replicate
   refine .seq (fun K29 t1 => .seq (fun K30 s3 => .region (.mv rfl (.mv rfl (.q rfl (.cmp rfl rfl rfl) (.nil (s3 _ _ ?_)))))))
   refine .cond rfl ?_ ?_ <;> intro p1
   ·
    simp only [sps] at p1
    refine .skip (t1 _ _ (.seq (fun K31 v2 => .block (.region (.mv rfl ?_)))))
    refine .R rfl (.litA rfl sl_24_A ze_2_L rfl rfl rfl rfl) ?_
    rintro _ _ ⟨_, rfl, k2, _, o8⟩
    replace h := h.trans k2
    replace e2 := e2.le k2
    replace aD := k2.2 _ _ aD
    replace j6 := k2.2 _ _ j6
    have _ := GHeap.ltg o8
    replace hin1 := b.mono h
    clear r
    have r : Cat.At _ g3 0 d q := ⟨Mem.of_get aD, hin1⟩
    refine .R rfl (.apI rfl sl_24_A ze_2_L rfl by_2_L sl_24_A rfl rfl) ?_
    rintro _ _ ⟨_, rfl, l3, _, _⟩
    replace h := h.st l3 (fun k hk => ⟨by omega, trivial⟩)
    replace e2 := e2.sP l3
    have a0 : NE g3 e4 := ⟨d3.ne d6.ne (by omega)⟩
    replace aD := l3.s aD a0.ne
    replace hin1 := b.mono h
    clear r
    have r : Cat.At _ g3 0 d q := ⟨Mem.of_get aD, hin1⟩
    refine .mv rfl (.nil (v2 _ _ (.region (.mv rfl (.q rfl (.aD rfl rfl rfl) (.mv rfl (.nil ?_)))))))
    refine u2 ((j + 1, _, _)) _ _ ?_ ?_ (.p rfl)
    ·
     refine ⟨e2, by (rw [List.replicate_succ']; assumption), by exact ⟨.inr (by omega)⟩, by (rw [List.replicate_succ'] <;> (first | omega | (simp only [List.length_append, List.length_cons, List.length_nil] <;> omega))), ?_⟩
     omega
    (dsimp only; omega)
   try simp only [sps] at p1
   refine .exit (s6 _ _ (.seq (fun K32 s7 => .seq (fun K33 s5 => .region ?_))))
   obtain rfl : j = c.src.length := by omega
   have _ : j5 = (sumRow c.src.length ((d.comp.getD i []).take 0)).length := by rw [length_sumRow, n3]; simp
   refine .mv rfl (.nil (s5 _ _ (.block ?_)))
   refine .loopF (σ := Nat × Nat × Nat) [3, 4, 5, 6, 7, 11] (fun (j, z, e6) => [(14, some (.int .i64 (j : Int))), (12, some (.slice (some ⟨z, 0, none⟩) e6 e6))]) (fun (j, z, e6) H' => St [e4] HL5 H' ∧ H'.get z = some (.row (ints (sumRow c.src.length ((d.comp.getD i []).take j))) 2 true) ∧ PL z e4 HL5.next ∧ e6 = (sumRow c.src.length ((d.comp.getD i []).take j)).length ∧ j ≤ d.src.length) (fun (j, z, e6) => d.src.length - j) ((0, _, _)) rfl (.p rfl) ?_ ?_
   ·
    refine ⟨.refl _ _, by (rw [List.take_zero, sumRow_nil]; assumption), ⟨.inl rfl⟩, by assumption, ?_⟩
    omega
   rintro ⟨j, z, e6⟩ _ ⟨d1, n, c7, i9, hI⟩ _ q8
   dsimp only [cA, nA]
   have _ : H.next ≤ z := c7.ge (by omega) (by omega)
   have _ := d1.nx
   replace h := h.st d1 (fun k hk => ⟨by omega, trivial⟩)
   replace u := u.sP d1
   replace rk := rk.sP d1
   have a0 : NE g3 e4 := ⟨d3.ne d6.ne (by omega)⟩
   replace aD := d1.s aD a0.ne
   have f1 : NE gLC e4 := ⟨d3.ne f0.ne (by omega)⟩
   replace m := d1.s m f1.ne
   replace c3 := d1.same _ _ ⟨(d3.ne f3.ne (by omega)), trivial⟩ c3
   replace a5 := d1.same _ _ ⟨(d3.ne d9.ne (by omega)), trivial⟩ a5
   have h0 : NE g7 e4 := ⟨d3.ne h6.ne (by omega)⟩
   replace o := d1.s o h0.ne
   replace hin1 := b.mono h
   have r : Cat.At _ g3 0 d q := ⟨Mem.of_get aD, hin1⟩
   obtain ⟨-, m6, -, -, o0, -, -, -, m8⟩ := r.get
   have hz : (sumRow c.src.length ((d.comp.getD i []).take j)).length = c.src.length + j := by rw [length_sumRow, List.length_take]; omega
   refine .seq (fun K34 u8 => .seq (fun K35 s0 => .region (.mv rfl (.q rfl (.fieldAddr fo_27_1_B rfl) ?_))))
   refine .q rfl (.load on_24_B rfl (by first | assumption | exact Mem.of_get aD 1 _ rfl)) ?_
   refine .q rfl (.len sl_24_A rfl) (.q rfl (.cmp rfl rfl rfl) (.nil (s0 _ _ ?_)))
   refine .cond rfl ?_ ?_ <;> intro p5
   ·
    simp only [sps] at p5
    have _ := x4 i (by omega) j (by omega)
    have _ : (sumRow c.src.length ((d.comp.getD i []).take (j + 1))).length = c.src.length + (j + 1) := by rw [length_sumRow, List.length_take]; omega
    have u1 := m8.2 i (by omega)
    refine .skip (u8 _ _ (.seq (fun K36 q0 => .block (.seq (fun K37 v4 => .region (.q rfl (.fieldAddr fo_27_4_B rfl) ?_))))))
    refine .q rfl (.load on_25_B rfl (by first | assumption | exact Mem.of_get aD 4 _ rfl)) ?_
    refine .mv rfl ?_
    refine .q rfl (.idxN sl_25_B (Intss.sl (by assumption)) rfl rfl (by omega)) ?_
    refine .q rfl (.loadR on_24_B (by assumption) rfl (by omega)) ?_
    refine .mv rfl (.q rfl (.iN sl_24_A rfl rfl) (.q rfl (.lI on_2_A rfl) (.mv rfl (.nil (v4 _ _ (.seq (fun K38 o3 => .seq (fun K39 u5 => .region (.mv rfl (.q rfl (.cmp rfl rfl rfl) (.nil (u5 _ _ ?_))))))))))))
    refine .cond rfl ?_ ?_ <;> intro p0
    ·
     simp only [sps] at p0
     refine .region (.mv rfl (.mv rfl (.q rfl (.aD rfl rfl rfl) (.mv rfl (.nil (o3 _ _ (.region (.mv rfl (.mv rfl ?_)))))))))
     refine .R rfl (.litA rfl sl_24_A ze_2_L rfl rfl rfl rfl) ?_
     rintro _ _ ⟨_, rfl, j8, _, q9⟩
     replace h := h.trans j8
     replace d1 := d1.le j8
     replace aD := j8.2 _ _ aD
     replace n := j8.2 _ _ n
     have _ := GHeap.ltg q9
     replace hin1 := b.mono h
     clear r m6 o0 m8
     have r : Cat.At _ g3 0 d q := ⟨Mem.of_get aD, hin1⟩
     clear u1
     refine .R rfl (.apI rfl sl_24_A ze_2_L rfl by_2_L sl_24_A rfl rfl) ?_
     rintro _ _ ⟨_, rfl, k9, _, _⟩
     replace h := h.st k9 (fun k hk => ⟨by omega, trivial⟩)
     replace d1 := d1.sQ k9
     have c9 : NE g3 z := ⟨c7.ne a0.ne (by omega)⟩
     replace aD := k9.s aD c9.ne
     replace hin1 := b.mono h
     clear r
     have r : Cat.At _ g3 0 d q := ⟨Mem.of_get aD, hin1⟩
     refine .mv rfl (.nil (q0 _ _ (.region (.mv rfl (.q rfl (.aD rfl rfl rfl) (.mv rfl (.nil ?_)))))))
     refine q8 ((j + 1, _, _)) _ _ ?_ ?_ (.p rfl)
     ·
      refine ⟨d1, by (rw [sumRow_take (by omega), if_pos (by omega)]; assumption), by exact ⟨.inr (by omega)⟩, by omega, ?_⟩
      omega
     (dsimp only; omega)
    simp only [sps] at p0
    refine .skip (o3 _ _ (.region (.mv rfl (.mv rfl ?_))))
    refine .R rfl (.litA rfl sl_24_A ze_2_L rfl rfl rfl rfl) ?_
    rintro _ _ ⟨_, rfl, f4, _, m5⟩
    replace h := h.trans f4
    replace d1 := d1.le f4
    replace aD := f4.2 _ _ aD
    replace n := f4.2 _ _ n
    have _ := GHeap.ltg m5
    replace hin1 := b.mono h
    have r : Cat.At _ g3 0 d q := ⟨Mem.of_get aD, hin1⟩
    refine .R rfl (.apI rfl sl_24_A ze_2_L rfl by_2_L sl_24_A rfl rfl) ?_
    rintro _ _ ⟨_, rfl, i6, _, _⟩
    replace h := h.st i6 (fun k hk => ⟨by omega, trivial⟩)
    replace d1 := d1.sQ i6
    have c9 : NE g3 z := ⟨c7.ne a0.ne (by omega)⟩
    replace aD := i6.s aD c9.ne
    replace hin1 := b.mono h
    clear r
    have r : Cat.At _ g3 0 d q := ⟨Mem.of_get aD, hin1⟩
    refine .mv rfl (.nil (q0 _ _ (.region (.mv rfl (.q rfl (.aD rfl rfl rfl) (.mv rfl (.nil ?_)))))))
    refine q8 ((j + 1, _, _)) _ _ ?_ ?_ (.p rfl)
    ·
     refine ⟨d1, by (rw [sumRow_take (by omega), if_neg (by omega)]; assumption), by exact ⟨.inr (by omega)⟩, by omega, ?_⟩
     omega
    (dsimp only; omega)
   try simp only [sps] at p5
   refine .exit (s7 _ _ (.region ?_))
   obtain rfl : j = d.src.length := by omega
   rw [show (d.comp.getD i []).take d.src.length = d.comp.getD i [] from List.take_of_length_le (by omega)] at n i9
   obtain rfl := i9
   refine .q rfl (.fieldAddr fo_27_4_B rfl) ?_
   refine .q rfl (.load on_25_B rfl (by first | assumption | exact Mem.of_get o 4 _ rfl)) ?_
   refine .mv rfl ?_
   refine .R rfl (.litA rfl sl_25_B ze_24_Hj rfl rfl rfl rfl) ?_
   rintro _ _ ⟨_, rfl, e3, _, p9⟩
   replace h := h.trans e3
   replace u := u.le e3
   replace rk := rk.le e3
   replace aD := e3.2 _ _ aD
   replace m := e3.2 _ _ m
   replace c3 := e3.2 _ _ c3
   replace a5 := e3.2 _ _ a5
   replace o := e3.2 _ _ o
   replace n := e3.2 _ _ n
   have _ := GHeap.ltg p9
   replace hin1 := b.mono h
   have r : Cat.At _ g3 0 d q := ⟨Mem.of_get aD, hin1⟩
   refine .R rfl (.appendV rfl sl_25_B ze_24_Hj rfl by_24_Hj sl_25_B rfl rfl (by assumption) (by assumption) (by first | omega | (simp <;> omega)) rfl rfl (by omega) (by omega)) ?_
   rintro _ _ ⟨s2, rfl, f2, _, m9⟩
   replace h := h.st f2 (fun k hk => ⟨by omega, trivial⟩)
   replace u := u.sP f2
   replace rk := rk.sP f2
   replace aD := f2.same _ _ ⟨(l1.ne h4.ne (by omega)), trivial⟩ aD
   replace c3 := f2.s c3
   replace a5 := f2.s a5
   replace o := f2.same _ _ ⟨(Ne.symm l2), trivial⟩ o
   replace n := f2.same _ _ ⟨(Ne.symm (c7.ne f1.ne (by omega))), trivial⟩ n
   replace hin1 := b.mono h
   clear r
   have r : Cat.At _ g3 0 d q := ⟨Mem.of_get aD, hin1⟩
   refine .q rfl (.fieldAddr fo_27_4_B rfl) ?_
   refine .r0 rfl rfl (.storeR rfl sz_25_Ch rfl rfl rfl (by assumption) (by first | exact Nat.le_of_ble_eq_true rfl | (simp; done) | (simp <;> omega))) ?_
   rintro _ _ ⟨rfl, a7, m0⟩
   replace h := h.st a7 (fun k hk => ⟨by omega, trivial⟩)
   replace u := u.sA a7
   replace rk := rk.sA a7
   replace aD := a7.s aD v.ne
   replace c3 := a7.s c3 e8.ne
   replace a5 := a7.s a5 h5.ne
   replace n := a7.same _ _ ⟨(Ne.symm (c7.ne h0.ne (by omega))), trivial⟩ n
   replace m9 := a7.s m9
   replace hin1 := b.mono h
   clear r
   have r : Cat.At _ g3 0 d q := ⟨Mem.of_get aD, hin1⟩
   try simp only [Nat.zero_add, List.set_cons_succ, List.set_cons_zero] at m0
   refine .nil (u6 _ _ (.region (.mv rfl (.q rfl (.aD rfl rfl rfl) (.mv rfl (.nil ?_))))))
   refine t7 ((i + 1, upd r3 (c.sumL d ++ (d.comp.take i).map (sumRow c.src.length)).length (some ⟨z, 0, none⟩), r7, l7, s2)) _ _ ?_ ?_ (.p rfl)
   ·
    refine ⟨u, by (rw [take_map_snoc (d := 0) (by omega), ← List.append_assoc]; assumption), by exact ⟨.inr (by omega)⟩, by (rw [take_map_snoc (d := 0) (by omega), ← List.append_assoc]; assumption), by exact ⟨.inr (by omega)⟩, by (rw [take_map_snoc (d := []) (by omega), ← List.append_assoc, slsL_snoc]; assumption), by exact ⟨.inr (by omega)⟩, by assumption, by omega, by omega, by omega, by omega, by omega, by omega, ?_⟩
    have _ : i7 ≤ z := c7.ge (d3.ge (Nat.le_refl _) (by omega)) (by omega)
    have hR' := hR.st rk (.cons hF (.cons hT (.cons (hR.neT hatC rfl) (.cons (hR.neT u3 rfl) (.nil _ _)))))
    have x5 := hR.ne (g := z) (by omega)
    have y8 := hR.ne (g := r7) (by omega)
    have x6 := hR.ne (g := l7) (by omega)
    have hrow := n
    rw [take_map_snoc (d := []) (by omega), ← List.append_assoc]
    exact ⟨by omega, hR'.snoc2 hrow x5 (by omega), ne_snoc y8 (by omega), ne_snoc x6 (by omega), ne_snoc hId (by omega)⟩
   (dsimp only; omega)
  try simp only [sps] at w4
  refine .exit (v3 _ _ (.seq (fun K40 t3 => .region ?_)))
  obtain rfl : i = d.src.length := by omega
  rw [List.take_length] at g1
  rw [show d.tgt.take d.src.length = d.tgt from List.take_of_length_le (by omega)] at c6
  rw [show d.comp.take d.src.length = d.comp from List.take_of_length_le (by omega)] at m hR hF hT hId
  refine .q rfl (.loadM ag_27_D rfl ⟨rfl, Mem.of_get t⟩) ?_
  have r8 := aR
  refine .r0 rfl rfl (.fillA rfl sz_27_D rfl rfl rfl rfl) ?_
  rintro _ _ ⟨rfl, d0, m2⟩
  replace h := h.st d0 (fun k hk => ⟨by omega, trivial⟩)
  replace aD := d0.s aD
  have i2 : NE gLI g4 := .a
  replace aI := d0.s aI i2.ne
  have e5 : NE g4 gLF := ⟨i3.ne d7.ne (by omega)⟩
  replace g1 := d0.s g1 (Ne.symm e5.ne)
  replace c6 := d0.same _ _ ⟨(Ne.symm (k0.ne f5.ne (by omega))), trivial⟩ c6
  replace m := d0.same _ _ ⟨(Ne.symm (l1.ne g5.ne (by omega))), trivial⟩ m
  replace hin1 := b.mono h
  have r : Cat.At _ g3 0 d q := ⟨Mem.of_get aD, hin1⟩
  refine .nil (t3 _ _ (.ret (u7 _ _ (⟨_, _, _, _, rfl, ag_27_D, (by rfl), (Mem.of_get m2), ?_⟩))))
  exact ⟨h, gLF, gLT, gLI, gLC, r3, by simp [Cat.cells, Cat.sum, ownP, Cat.sumL, b3, b8, show d.idn.length = d.obj.toNat by omega], ⟨g1, c6, aI, m, q6, p4, o4, o2, by assumption, Ne.symm nFI, Ne.symm nTI, hR.st d0 (.cons (hR.neT r8 rfl) (.nil _ _)), hF, hT, hId⟩⟩
end Go.Proofs.Ytfanjkbaemhbmaa
namespace Go.Proofs.Ytfanjkbaemhbmaa
open Go Go.GL Go.RowKit Go.Proofs
theorem us_84_Da : (Try.prog.underlying 84).isSome = true := by kernel_rfl
theorem it_2_Da : intT Try.prog 2 = some .i64 := by kernel_rfl
theorem fo_86_2_Da : fieldOff Try.prog 86 2 = some 2 := by kernel_rfl
theorem on_84_Da : oneT Try.prog 84 = true := by kernel_rfl
theorem sz_84_Da : (Try.prog.info? 84).map (·.size) = some 1 := by kernel_rfl
theorem fo_86_1_Da : fieldOff Try.prog 86 1 = some 1 := by kernel_rfl
theorem on_3_Da : oneT Try.prog 3 = true := by kernel_rfl
theorem fo_86_0_Da : fieldOff Try.prog 86 0 = some 0 := by kernel_rfl
theorem on_22_Da : oneT Try.prog 22 = true := by kernel_rfl
theorem sl_22_Da : sliceT Try.prog 22 = some (5, 1) := by kernel_rfl
theorem on_5_Da : oneT Try.prog 5 = true := by kernel_rfl
theorem us_5_Da : (Try.prog.underlying 5).isSome = true := by kernel_rfl
theorem sz_3_Da : (Try.prog.info? 3).map (·.size) = some 1 := by kernel_rfl
theorem us_3_Da : (Try.prog.underlying 3).isSome = true := by kernel_rfl
theorem it_84_Da : intT Try.prog 84 = some .u64 := by kernel_rfl
theorem bt_86_Da : buildT Try.prog 86 = some ([.slice none 0 0, .int .i64 0, .int .u64 0], [(0, 1), (1, 1), (2, 1)]) := by kernel_rfl
theorem sz_86_Da : (Try.prog.info? 86).map (·.size) = some 3 := by kernel_rfl
theorem l01Next_c {gS : Nat} {n : Int} {H : GHeap} (hs : DSrc 86 H gS := by assumption) :
    GCalls Try.prog 30 [.pointer (some ⟨gS, 0, none⟩), .int .i64 n] H (Drawn 86 gS n H) := by
  obtain ⟨a, xs, p, hh, hg, ⟨p0, p1⟩, hx, hb, hlt⟩ := hs
  have _ := andU_le ((IntKind.wrap .u64 (IntKind.wrap .u64 (hh * 6364136223846793005) + 1442695040888963407)).fdiv (2 ^ 33))
  have hlo : ∀ b o t, a = some ⟨b, o, t⟩ → out [gS] b := fun b o t ha => ⟨by have := hlt b o t ha; omega, trivial⟩
  refine GCalls.body (N := 58) (rs := [.tmp 4]) Try.func30 rfl rfl rfl rfl (fun Qx i hend => ?_)
  refine .fg [0, 1] rfl ?_
  have f := St.refl [gS] H
  have hbs := hb.st f hlo
  refine .seq (fun K1 y => .region (.mv rfl (.nil (y _ _ (.seq (fun K2 u => .seq (fun K3 a1 => .region (.mv rfl (.q rfl (.cmp rfl rfl rfl) (.nil (a1 _ _ ?_)))))))))))
  refine .cond rfl ?_ ?_ <;> intro h7
  ·
   try simp only [sps] at h7
   refine .seq (fun K4 s => .region (.mv rfl (.nil (s _ _ (.ret (i _ _ (⟨_, rfl, ?_⟩)))))))
   exact ⟨0, rfl, by omega, fun h => by omega, fun _ => rfl, f, a, xs, p, hh, hg, ⟨p0, p1⟩, hx, hbs, hlt⟩
  try simp only [sps] at h7
  refine .skip (u _ _ (.seq (fun K5 a0 => .region (.mv rfl (.mv rfl (.q rfl (.nilCheck rfl) (.q rfl (.fieldAddr fo_86_2_Da rfl) ?_)))))))
  refine .q rfl (.load on_84_Da rfl (by first | assumption | exact Mem.of_get hg 2 _ rfl)) ?_
  refine .q rfl (.arith rfl rfl rfl) (.q rfl (.arith rfl rfl rfl) (.q rfl (.nilCheck rfl) (.q rfl (.fieldAddr fo_86_2_Da rfl) ?_)))
  refine .r0 rfl rfl (.storeR rfl sz_84_Da rfl rfl rfl (by assumption) (by first | exact Nat.le_of_ble_eq_true rfl | (simp; done) | (simp <;> omega))) ?_
  rintro _ _ ⟨rfl, g, d⟩
  replace f := f.sA g
  clear hbs
  have hbs := hb.st f hlo
  have c0 := hbs.1
  have c1 := hbs.2 p.toNat
  try simp only [Nat.zero_add, List.set_cons_succ, List.set_cons_zero] at d
  refine .nil (a0 _ _ (.seq (fun K6 v => .region (.mv rfl (.q rfl (.nilCheck rfl) (.q rfl (.fieldAddr fo_86_2_Da rfl) ?_))))))
  refine .q rfl (.load on_84_Da rfl (by first | assumption | exact Mem.of_get d 2 _ rfl)) ?_
  refine .q rfl (.shrU rfl rfl) (.q rfl (.andU rfl rfl) ?_)
  refine .q rfl (.conv64 us_84_Da it_2_Da rfl (Int.le_trans (by decide) (andU_le _).1) (Int.le_trans (andU_le _).2 (by decide))) ?_
  refine .mv rfl (.nil (v _ _ (.seq (fun K7 m => .seq (fun K8 w => ?_)))))
  refine .regionD mo_B (.qs [0, 1, 2, 3, 4, 5, 6, 7, 8, 9] (.done)) (by kernel_rfl) ?_
  refine .mv rfl rfl (.q rfl (.nilCheck rfl) (.q rfl (.fieldAddr fo_86_1_Da rfl) ?_))
  refine .q rfl (.load on_3_Da rfl (by first | assumption | exact Mem.of_get d 1 _ rfl)) ?_
  refine .mv rfl rfl (.q rfl (.nilCheck rfl) (.q rfl (.fieldAddr fo_86_0_Da rfl) ?_))
  refine .q rfl (.load on_22_Da rfl (by first | assumption | exact Mem.of_get d 0 _ rfl)) ?_
  refine .q rfl (.len sl_22_Da rfl) (.q rfl (.cmp rfl rfl rfl) (.done (w _ _ ?_)))
  refine .cond rfl ?_ ?_ <;> intro r
  ·
   try simp only [sps] at r
   refine .seq (fun K9 z => ?_)
   refine .regionD mo_B (.qs [0, 1, 2, 3, 4, 5, 6, 7, 8, 9, 10, 11, 12] (.c 13 0 (.done))) (by kernel_rfl) ?_
   refine .mv rfl rfl (.mv rfl rfl (.q rfl (.nilCheck rfl) (.q rfl (.fieldAddr fo_86_0_Da rfl) ?_)))
   refine .q rfl (.load on_22_Da rfl (by first | assumption | exact Mem.of_get d 0 _ rfl)) ?_
   refine .mv rfl rfl (.q rfl (.nilCheck rfl) (.q rfl (.fieldAddr fo_86_1_Da rfl) ?_))
   refine .q rfl (.load on_3_Da rfl (by first | assumption | exact Mem.of_get d 1 _ rfl)) ?_
   refine .q rfl (.i1 sl_22_Da rfl rfl) ?_
   refine .q rfl (.loadE on_5_Da (by assumption) rfl (by omega)) ?_
   refine .q rfl (.conv64 us_5_Da it_2_Da rfl (by omega) (by omega)) ?_
   refine .q rfl (.aD rfl rfl rfl) (.d0 rfl rfl rfl rfl (.quiet (.assign rfl) CIs.mk) (.done (z _ _ (.region (.mv rfl (.mv rfl (.q rfl (.nilCheck rfl) (.q rfl (.fieldAddr fo_86_1_Da rfl) ?_))))))))
   refine .q rfl (.load on_3_Da rfl (by first | assumption | exact Mem.of_get d 1 _ rfl)) ?_
   refine .q rfl (.aD rfl rfl rfl) (.q rfl (.nilCheck rfl) (.q rfl (.fieldAddr fo_86_1_Da rfl) ?_))
   refine .r0 rfl rfl (.storeR rfl sz_3_Da rfl rfl rfl (by assumption) (by first | exact Nat.le_of_ble_eq_true rfl | (simp; done) | (simp <;> omega))) ?_
   rintro _ _ ⟨rfl, j, e⟩
   replace f := f.sA j
   clear hbs c0 c1
   have hbs := hb.st f hlo
   have c1 := hbs.2 p.toNat
   try simp only [Nat.zero_add, List.set_cons_succ, List.set_cons_zero] at e
   refine .nil (m _ _ (.seq (fun K10 k => .region (.mv rfl (.mv rfl ?_)))))
   refine .q rfl (.rem rfl rfl (by omega)) ?_
   refine .mv rfl (.nil (k _ _ (.ret (i _ _ (⟨_, rfl, ?_⟩)))))
   have hm := tmod_bd (x := Go.GL.andU ((IntKind.wrap .u64 (IntKind.wrap .u64 (hh * 6364136223846793005) + 1442695040888963407)).fdiv (2 ^ 33)) 16777215 + xs.getD p.toNat 0) (n := n) (by omega) (by omega)
   exact ⟨_, rfl, hm.1, fun _ => hm.2, fun h => by omega, f, a, xs, p + 1, _, e, ⟨by omega, by omega⟩, hx, hbs, hlt⟩
  try simp only [sps] at r
  refine .skip (m _ _ (.seq (fun K11 l => .region (.mv rfl (.mv rfl ?_)))))
  refine .q rfl (.rem rfl rfl (by omega)) ?_
  refine .mv rfl (.nil (l _ _ (.ret (i _ _ (⟨_, rfl, ?_⟩)))))
  have hm := tmod_bd (x := Go.GL.andU ((IntKind.wrap .u64 (IntKind.wrap .u64 (hh * 6364136223846793005) + 1442695040888963407)).fdiv (2 ^ 33)) 16777215) (n := n) (by omega) (by omega)
  exact ⟨_, rfl, hm.1, fun _ => hm.2, fun h => by omega, f, a, xs, p, _, d, ⟨p0, p1⟩, hx, hbs, hlt⟩
theorem l01From_c {a : Option Addr} {xs : List Int} {H : GHeap} (hb : Bytes H a xs := by assumption) (hlt : ∀ b o t, a = some ⟨b, o, t⟩ → b < H.next) (hx : xs.length ≤ 4096 := by omega) :
    GCalls Try.prog 29 [.slice a xs.length xs.length] H (fun v H' => H.Le H' ∧ ∃ g, v = .pointer (some ⟨g, 0, none⟩) ∧ H.next ≤ g ∧ DSrc 86 H' g) := by
  refine GCalls.body (N := 38) (rs := [.tmp 2]) Try.func29 rfl rfl rfl rfl (fun Qx l hend => ?_)
  refine .fg [0] rfl ?_
  have j := GHeap.Le.refl H
  have f := hb
  refine .seq (fun K1 a0 => .region (.mv rfl (.nil (a0 _ _ (.seq (fun K2 a1 => .region (.mv rfl (.mv rfl (.q rfl (.len sl_22_Da rfl) (.q rfl (.conv us_3_Da it_84_Da rfl) (.q rfl (.arith rfl rfl rfl) (.q rfl (.build bt_86_Da rfl rfl rfl) ?_))))))))))))
  refine .R rfl (.boxR rfl sz_86_Da rfl) ?_
  rintro _ a2 ⟨n, rfl, r, _, m⟩
  replace j := j.trans r
  refine .mv rfl (.nil (a1 _ _ (.seq (fun K3 x => .seq (fun K4 a7 => .region (.mv rfl (.nil (a7 _ _ (.block ?_)))))))))
  refine .loopF (σ := Nat × Int) [0, 3] (fun (k, hh) => [(4, some (.int .i64 (k : Int)))]) (fun (k, hh) H' => St [n] a2 H' ∧ H'.get n = some (.row ([.slice a xs.length xs.length, .int .i64 0, .int .u64 hh]) 86 true) ∧ k ≤ xs.length) (fun (k, hh) => xs.length - k) ((0, IntKind.wrap .u64 (7019 + IntKind.wrap .u64 (xs.length : Int)))) rfl (.p rfl) ?_ ?_
  ·
   refine ⟨.refl _ _, by first | assumption | exact m | simpa using m, ?_⟩
   omega
  rintro ⟨k, hh⟩ _ ⟨e, d, _⟩ _ u
  dsimp only [cA, nA]
  replace j := j.st e (fun k hk => ⟨by omega, trivial⟩)
  replace hb := f.mono j
  refine .seq (fun K5 a6 => .seq (fun K6 y => .region (.mv rfl (.mv rfl (.q rfl (.len sl_22_Da rfl) (.q rfl (.cmp rfl rfl rfl) (.mv rfl ?_)))))))
  refine .split (fun s => ?_) (fun s => ?_)
  ·
   try simp only [sps] at s
   refine .qg rfl (.move rfl) (.qg rfl (.cmp rfl rfl rfl) (.q rfl (.pickT rfl rfl) (.nil (y _ _ ?_))))
   refine .cond rfl ?_ ?_ <;> intro w
   ·
    simp only [sps] at w
    refine .skip (a6 _ _ (.seq (fun K7 a3 => .block ?_)))
    refine .regionD mo_B (.qs [0, 1, 2, 3, 4, 5, 6, 7, 8, 9, 10, 11, 12, 13, 14] (.c 15 0 (.done))) (by kernel_rfl) ?_
    have _ := hb.1
    refine .mv rfl rfl (.mv rfl rfl (.q rfl (.nilCheck rfl) (.q rfl (.fieldAddr fo_86_2_Da rfl) ?_)))
    refine .q rfl (.load on_84_Da rfl (by first | assumption | exact Mem.of_get d 2 _ rfl)) ?_
    refine .q rfl (.arith rfl rfl rfl) (.mv rfl rfl (.mv rfl rfl (.q rfl (.iN sl_22_Da rfl rfl) ?_)))
    refine .q rfl (.loadE on_5_Da (by assumption) rfl (by omega)) ?_
    refine .q rfl (.conv us_5_Da it_84_Da rfl) (.q rfl (.arith rfl rfl rfl) (.q rfl (.arith rfl rfl rfl) (.q rfl (.nilCheck rfl) (.q rfl (.fieldAddr fo_86_2_Da rfl) ?_))))
    refine .r0 rfl rfl rfl (.storeR rfl sz_84_Da rfl rfl rfl (by assumption) (by first | exact Nat.le_of_ble_eq_true rfl | (simp; done) | (simp <;> omega))) ?_
    rintro _ _ ⟨rfl, i, h⟩
    replace e := e.sA i
    try simp only [Nat.zero_add, List.set_cons_succ, List.set_cons_zero] at h
    refine .done (a3 _ _ (.region (.mv rfl (.q rfl (.aD rfl rfl rfl) (.mv rfl (.nil ?_))))))
    refine u ((k + 1, IntKind.wrap .u64 (IntKind.wrap .u64 (IntKind.wrap .u64 (hh * 1099511628211) + IntKind.wrap .u64 (xs.getD k 0)) + 7))) _ _ ?_ ?_ (.p rfl)
    ·
     refine ⟨e, by assumption, ?_⟩
     omega
    (dsimp only; omega)
   simp only [sps] at w
   refine .exit (x _ _ (.seq (fun K8 a4 => .region (.mv rfl (.mv rfl (.nil (a4 _ _ (.ret (l _ _ (⟨_, rfl, ?_⟩))))))))))
   exact ⟨j, n, rfl, by omega, a, xs, 0, hh, d, ⟨by omega, by omega⟩, hx, hb, fun b o t ha => by have := hlt b o t ha; omega⟩
  try simp only [sps] at s
  refine .z rfl (.z rfl (.q rfl (.pickF rfl rfl) (.nil (y _ _ ?_))))
  refine .condF rfl ?_
  refine .exit (x _ _ (.seq (fun K9 a5 => .region (.mv rfl (.mv rfl (.nil (a5 _ _ (.ret (l _ _ (⟨_, rfl, ?_⟩))))))))))
  exact ⟨j, n, rfl, by omega, a, xs, 0, hh, d, ⟨by omega, by omega⟩, hx, hb, fun b o t ha => by have := hlt b o t ha; omega⟩
theorem l01Pick_c {gS : Nat} {a : Option Addr} {xs : List Int} {H : GHeap} (hs : DSrc 86 H gS := by assumption) (hl : ∀ H', St [gS] H H' → Ints H' a xs) (h0 : 0 < xs.length) :
    GCalls Try.prog 106 [.pointer (some ⟨gS, 0, none⟩), .slice a xs.length xs.length] H (fun v H' => ∃ i, i < xs.length ∧ v = .int .i64 (xs.getD i 0) ∧ St [gS] H H' ∧ DSrc 86 H' gS) := by
  refine GCalls.body (N := 12) (rs := [.tmp 4]) Try.func106 rfl rfl rfl rfl (fun Qx c hend => ?_)
  refine .fg [0, 1] rfl ?_
  have b := St.refl [gS] H
  refine .seq (fun K1 e => .region (.mv rfl (.nil (e _ _ (.seq (fun K2 d => .region (.mv rfl (.mv rfl (.mv rfl (.q rfl (.len sl_24_A rfl) ?_))))))))))
  refine .call rfl rfl rfl rfl @Try.call30 rfl (l01Next_c) ?_
  rintro _ _ ⟨_, rfl, _, _, _, f, hs⟩
  replace b := b.sA f
  have _ := hl _ b
  refine .q rfl (.i1 sl_24_A rfl rfl) (.q rfl (.lI on_2_A rfl) (.mv rfl (.nil (d _ _ (.ret (c _ _ (⟨_, rfl, ?_⟩)))))))
  exact ⟨_, by omega, rfl, b, hs⟩
end Go.Proofs.Ytfanjkbaemhbmaa
namespace Go.Proofs.Ytfanjkbaemhbmaa
open Go Go.GL Go.RowKit Go.Proofs
theorem sz_127_Dg : (Try.prog.info? 127).map (·.size) = some 3 := by kernel_rfl
theorem fo_127_0_Dg : fieldOff Try.prog 127 0 = some 0 := by kernel_rfl
theorem fo_127_1_Dg : fieldOff Try.prog 127 1 = some 1 := by kernel_rfl
theorem fo_127_2_Dg : fieldOff Try.prog 127 2 = some 2 := by kernel_rfl
theorem l01Less_c {a b : Option Addr} {xs ys : List Int} {H : GHeap} (ha : Ints H a xs := by assumption) (hb : Ints H b ys := by assumption) (hx : xs.length ≤ 1048576 := by omega) :
    GCalls Try.prog 136 [.slice a xs.length xs.length, .slice b ys.length ys.length] H (fun v H' => H.Le H' ∧ ∃ q, v = .bool q) := by
  refine GCalls.body (N := 41) (rs := [.tmp 4]) Try.func136 rfl rfl rfl rfl (fun Qx c hend => ?_)
  refine .fg [0, 1] rfl ?_
  have d := GHeap.Le.refl H
  have _ := ha
  have _ := hb
  refine .seq (fun K1 s => .region (.mv rfl (.nil (s _ _ (.seq (fun K2 h => .seq (fun K3 u => .region (.mv rfl (.nil (u _ _ (.block ?_)))))))))))
  refine .loopF (σ := Nat) [0, 1] (fun i => [(5, some (.int .i64 (i : Int)))]) (fun i H' => H = H' ∧ i ≤ xs.length) (fun i => xs.length - i) (0) rfl (.p rfl) ?_ ?_
  ·
   refine ⟨rfl, ?_⟩
   omega
  rintro i _ ⟨rfl, _⟩ _ f
  dsimp only [cA, nA]
  refine .seq (fun K4 m => .seq (fun K5 l => .region (.mv rfl (.mv rfl (.q rfl (.len sl_24_A rfl) (.q rfl (.cmp rfl rfl rfl) (.mv rfl ?_)))))))
  refine .split (fun g => ?_) (fun g => ?_)
  ·
   simp only [sps] at g
   refine .qg rfl (.move rfl) (.qg rfl (.move rfl) (.qg rfl (.len sl_24_A rfl) (.qg rfl (.cmp rfl rfl rfl) (.q rfl (.pickT rfl rfl) (.nil (l _ _ ?_))))))
   refine .cond rfl ?_ ?_ <;> intro k
   ·
    simp only [sps] at k
    refine .skip (m _ _ (.seq (fun K6 n => .block (.seq (fun K7 r => ?_)))))
    refine .regionD mo_B (.qs [0, 1, 2, 3, 4, 5, 6, 7, 8] (.done)) (by kernel_rfl) ?_
    refine .mv rfl rfl (.mv rfl rfl (.q rfl (.iN sl_24_A rfl rfl) (.q rfl (.lI on_2_A rfl) (.mv rfl rfl (.mv rfl rfl (.q rfl (.iN sl_24_A rfl rfl) (.q rfl (.lI on_2_A rfl) (.q rfl (.cmp rfl rfl rfl) (.done (r _ _ ?_))))))))))
    refine .cond rfl ?_ ?_ <;> intro j
    ·
     try simp only [sps] at j
     refine .seq (fun K8 o => ?_)
     refine .regionD mo_B (.qs [0, 1, 2, 3, 4, 5, 6, 7, 8, 9] (.done)) (by kernel_rfl) ?_
     refine .mv rfl rfl (.mv rfl rfl (.q rfl (.iN sl_24_A rfl rfl) (.q rfl (.lI on_2_A rfl) (.mv rfl rfl (.mv rfl rfl (.q rfl (.iN sl_24_A rfl rfl) (.q rfl (.lI on_2_A rfl) (.q rfl (.cmp rfl rfl rfl) (.mv rfl rfl (.done (o _ _ (.ret (c _ _ (⟨_, rfl, ?_⟩))))))))))))))
     exact ⟨d, _, rfl⟩
    try simp only [sps] at j
    refine .skip (n _ _ (.region (.mv rfl (.q rfl (.aD rfl rfl rfl) (.mv rfl (.nil ?_))))))
    refine f (i + 1) _ _ ?_ ?_ (.p rfl)
    ·
     refine ⟨rfl, ?_⟩
     omega
    omega
   simp only [sps] at k
   refine .exit (h _ _ (.seq (fun K9 t => .region (.mv rfl (.q rfl (.len sl_24_A rfl) (.mv rfl (.q rfl (.len sl_24_A rfl) (.q rfl (.cmp rfl rfl rfl) (.mv rfl (.nil (t _ _ (.ret (c _ _ (⟨_, rfl, ?_⟩))))))))))))))
   exact ⟨d, _, rfl⟩
  simp only [sps] at g
  refine .z rfl (.z rfl (.z rfl (.z rfl (.q rfl (.pickF rfl rfl) (.nil (l _ _ ?_))))))
  refine .condF rfl ?_
  refine .exit (h _ _ (.seq (fun K10 e => .region (.mv rfl (.q rfl (.len sl_24_A rfl) (.mv rfl (.q rfl (.len sl_24_A rfl) (.q rfl (.cmp rfl rfl rfl) (.mv rfl (.nil (e _ _ (.ret (c _ _ (⟨_, rfl, ?_⟩))))))))))))))
  exact ⟨d, _, rfl⟩
theorem l03Before_c {a b : Option Addr} {xs ys : List Int} {x1 x2 y1 y2 : Int} {H : GHeap} (ha : Ints H a xs := by assumption) (hb : Ints H b ys := by assumption) (hx : xs.length ≤ 1048576 := by omega) :
    GCalls Try.prog 134 [.agg #[.int .i64 x1, .int .i64 y1, .slice a xs.length xs.length], .agg #[.int .i64 x2, .int .i64 y2, .slice b ys.length ys.length]] H (fun v H' => H.Le H' ∧ ∃ q, v = .bool q) := by
  refine GCalls.body (N := 30) (rs := [.tmp 4]) Try.func134 rfl rfl rfl rfl (fun Qx g hend => ?_)
  refine .fg [0, 1] rfl ?_
  have c := GHeap.Le.refl H
  have d := ha
  have e := hb
  refine .seq (fun K1 s => .region ?_)
  refine .R rfl (.boxR rfl sz_127_Dg rfl) ?_
  rintro _ _ ⟨_, rfl, p, _, f⟩
  replace c := c.trans p
  refine .R rfl (.boxR rfl sz_127_Dg rfl) ?_
  rintro _ _ ⟨_, rfl, j, _, h⟩
  replace c := c.trans j
  replace f := j.2 _ _ f
  replace ha := d.mono c
  replace hb := e.mono c
  refine .mv rfl (.nil (s _ _ (.seq (fun K2 m => .seq (fun K3 u => .region (.q rfl (.fieldAddr fo_127_0_Dg rfl) ?_))))))
  refine .q rfl (.load on_2_A rfl (by first | assumption | exact Mem.of_get f 0 _ rfl)) ?_
  refine .q rfl (.fieldAddr fo_127_0_Dg rfl) ?_
  refine .q rfl (.load on_2_A rfl (by first | assumption | exact Mem.of_get h 0 _ rfl)) ?_
  refine .q rfl (.cmp rfl rfl rfl) (.nil (u _ _ ?_))
  refine .cond rfl ?_ ?_ <;> intro h9
  ·
   try simp only [sps] at h9
   refine .seq (fun K4 l => .region (.q rfl (.fieldAddr fo_127_0_Dg rfl) ?_))
   refine .q rfl (.load on_2_A rfl (by first | assumption | exact Mem.of_get f 0 _ rfl)) ?_
   refine .q rfl (.fieldAddr fo_127_0_Dg rfl) ?_
   refine .q rfl (.load on_2_A rfl (by first | assumption | exact Mem.of_get h 0 _ rfl)) ?_
   refine .q rfl (.cmp rfl rfl rfl) (.mv rfl (.nil (l _ _ (.ret (g _ _ (⟨_, rfl, ?_⟩))))))
   exact ⟨c, _, rfl⟩
  try simp only [sps] at h9
  refine .skip (m _ _ (.seq (fun K5 t => .seq (fun K6 n => .region (.q rfl (.fieldAddr fo_127_1_Dg rfl) ?_)))))
  refine .q rfl (.load on_2_A rfl (by first | assumption | exact Mem.of_get f 1 _ rfl)) ?_
  refine .q rfl (.fieldAddr fo_127_1_Dg rfl) ?_
  refine .q rfl (.load on_2_A rfl (by first | assumption | exact Mem.of_get h 1 _ rfl)) ?_
  refine .q rfl (.cmp rfl rfl rfl) (.nil (n _ _ ?_))
  refine .cond rfl ?_ ?_ <;> intro k
  ·
   try simp only [sps] at k
   refine .seq (fun K7 r => .region (.q rfl (.fieldAddr fo_127_1_Dg rfl) ?_))
   refine .q rfl (.load on_2_A rfl (by first | assumption | exact Mem.of_get f 1 _ rfl)) ?_
   refine .q rfl (.fieldAddr fo_127_1_Dg rfl) ?_
   refine .q rfl (.load on_2_A rfl (by first | assumption | exact Mem.of_get h 1 _ rfl)) ?_
   refine .q rfl (.cmp rfl rfl rfl) (.mv rfl (.nil (r _ _ (.ret (g _ _ (⟨_, rfl, ?_⟩))))))
   exact ⟨c, _, rfl⟩
  try simp only [sps] at k
  refine .skip (t _ _ (.seq (fun K8 o => .region (.q rfl (.fieldAddr fo_127_2_Dg rfl) ?_))))
  refine .q rfl (.load on_24_B rfl (by first | assumption | exact Mem.of_get f 2 _ rfl)) ?_
  refine .q rfl (.fieldAddr fo_127_2_Dg rfl) ?_
  refine .q rfl (.load on_24_B rfl (by first | assumption | exact Mem.of_get h 2 _ rfl)) ?_
  refine .call rfl rfl rfl rfl @Try.call136 rfl (l01Less_c) ?_
  rintro _ _ ⟨i, _, rfl⟩
  replace c := c.trans i
  refine .mv rfl (.nil (o _ _ (.ret (g _ _ (⟨_, rfl, ?_⟩)))))
  exact ⟨c, _, rfl⟩
end Go.Proofs.Ytfanjkbaemhbmaa
namespace Go.GL
def rl (T : List (List Int)) (a b : Nat) : Prop := (T.getD a []).getD b 0 = 1
structure RelT (n : Nat) (T : List (List Int)) : Prop where
  rf : ∀ a, a < n → rl T a a
  tr : ∀ a b c, a < n → b < n → c < n → rl T a b → rl T b c → rl T a c
def TrU (n x : Nat) (T : List (List Int)) : Prop := ∀ k, k < x → ∀ i j, i < n → j < n → rl T i k → rl T k j → rl T i j
def Rfl (T : List (List Int)) : Prop := ∀ a, a < T.length → rl T a a
theorem Rfl.nil : Rfl [] := fun a h => by simp at h
theorem Rfl.snoc {T : List (List Int)} {row : List Int} (h : Rfl T) (hr : row.getD T.length 0 = 1) : Rfl (T ++ [row]) := fun a ha => by
  rw [List.length_append, List.length_singleton] at ha
  unfold rl
  rw [getD_snoc]
  by_cases e : a < T.length
  · rw [if_pos e]; exact h a e
  · obtain rfl : a = T.length := by omega
    rw [if_neg e, if_pos rfl]; exact hr
theorem getD_set1 {xs : List Int} {i j : Nat} {v : Int} (h : i < xs.length) : (xs.set i v).getD j 0 = if i = j then v else xs.getD j 0 := by
  rw [List.getD_eq_getElem?_getD, List.getElem?_set]
  by_cases e : i = j
  · subst e; rw [if_pos rfl, if_pos rfl, if_pos h]; rfl
  · rw [if_neg e, if_neg e, ← List.getD_eq_getElem?_getD]
theorem rl_set {T : List (List Int)} {y z a b : Nat} (hy : y < T.length) (hz : z < (T.getD y []).length) : rl (T.set y ((T.getD y []).set z 1)) a b ↔ (a = y ∧ b = z) ∨ rl T a b := by
  unfold rl
  rw [getD_set2 hy]
  by_cases e : y = a
  · subst e
    rw [if_pos rfl, getD_set1 hz]
    by_cases e2 : z = b
    · subst e2; simp
    · rw [if_neg e2]
      exact ⟨.inr, fun h => h.elim (fun x => absurd x.2.symm e2) id⟩
  · rw [if_neg e]
    exact ⟨.inr, fun h => h.elim (fun x => absurd x.1.symm e) id⟩
theorem Rfl.set {T : List (List Int)} {y z : Nat} (h : Rfl T) (hy : y < T.length) (hz : z < (T.getD y []).length) : Rfl (T.set y ((T.getD y []).set z 1)) := fun a ha => (rl_set hy hz).2 (.inr (h a (by rwa [List.length_set] at ha)))
structure War (n x y z : Nat) (T0 T : List (List Int)) : Prop where
  iff : ∀ a b, a < n → b < n → (rl T a b ↔ rl T0 a b ∨ ((a < y ∨ (a = y ∧ b < z)) ∧ rl T0 a x ∧ rl T0 x b))
theorem War.start {n x : Nat} {T : List (List Int)} : War n x 0 0 T T := ⟨fun a b _ _ => ⟨.inl, fun h => h.elim id fun h => by omega⟩⟩
theorem War.col {n x y z a : Nat} {T0 T : List (List Int)} (h : War n x y z T0 T) (ha : a < n) (hx : x < n) : rl T a x ↔ rl T0 a x := (h.iff a x ha hx).trans ⟨fun h => h.elim id fun h => h.2.1, .inl⟩
theorem War.row {n x y z b : Nat} {T0 T : List (List Int)} (h : War n x y z T0 T) (hb : b < n) (hx : x < n) : rl T x b ↔ rl T0 x b := (h.iff x b hx hb).trans ⟨fun h => h.elim id fun h => h.2.2, .inl⟩
theorem War.skip {n x y z : Nat} {T0 T : List (List Int)} (h : War n x y z T0 T) (hx : x < n) (hy : y < n) (hz : z < n) (hn : ¬ (rl T y x ∧ rl T x z)) : War n x y (z + 1) T0 T := ⟨fun a b ha hb => by
  rw [h.col hy hx, h.row hz hx] at hn
  refine (h.iff a b ha hb).trans ⟨fun k => k.imp id fun k => ⟨by omega, k.2⟩, fun k => ?_⟩
  rcases k with k | ⟨k1, k2⟩
  · exact .inl k
  · rcases k1 with k1 | ⟨k1, k3⟩
    · exact .inr ⟨.inl k1, k2⟩
    · by_cases e : b = z
      · subst e; subst k1; exact absurd k2 hn
      · exact .inr ⟨.inr ⟨k1, by omega⟩, k2⟩⟩
theorem War.put {n x y z : Nat} {T0 T : List (List Int)} (h : War n x y z T0 T) (hx : x < n) (hy : y < n) (hz : z < n) (hl : T.length = n) (hr : (T.getD y []).length = n) (h1 : rl T y x) (h2 : rl T x z) : War n x y (z + 1) T0 (T.set y ((T.getD y []).set z 1)) := ⟨fun a b ha hb => by
  rw [h.col hy hx] at h1
  rw [h.row hz hx] at h2
  rw [rl_set (by omega) (by omega), h.iff a b ha hb]
  constructor
  · rintro (⟨rfl, rfl⟩ | k | ⟨k1, k2⟩)
    · exact .inr ⟨.inr ⟨rfl, by omega⟩, h1, h2⟩
    · exact .inl k
    · exact .inr ⟨by omega, k2⟩
  · rintro (k | ⟨k1, k2⟩)
    · exact .inr (.inl k)
    · by_cases e : a = y ∧ b = z
      · exact .inl e
      · exact .inr (.inr ⟨by omega, k2⟩)⟩
theorem War.next {n x y : Nat} {T0 T : List (List Int)} (h : War n x y n T0 T) : War n x (y + 1) 0 T0 T := ⟨fun a b ha hb => (h.iff a b ha hb).trans ⟨fun k => k.imp id fun k => ⟨by omega, k.2⟩, fun k => k.imp id fun k => ⟨by omega, k.2⟩⟩⟩
theorem War.done {n x : Nat} {T0 T : List (List Int)} (h : War n x n 0 T0 T) (hx : x < n) (ht : TrU n x T0) : TrU n (x + 1) T := fun k hk i j hi hj h1 h2 => by
  have E : ∀ a b, a < n → b < n → (rl T a b ↔ rl T0 a b ∨ (rl T0 a x ∧ rl T0 x b)) := fun a b ha hb => (h.iff a b ha hb).trans ⟨fun k => k.imp id fun k => k.2, fun k => k.imp id fun k => ⟨.inl ha, k⟩⟩
  by_cases e : k = x
  · subst e
    rw [h.col hi hx] at h1
    rw [h.row hj hx] at h2
    exact (E i j hi hj).2 (.inr ⟨h1, h2⟩)
  · have hk' : k < x := by omega
    rw [E i k hi (by omega)] at h1
    rw [E k j (by omega) hj] at h2
    rw [E i j hi hj]
    rcases h1 with h1 | ⟨h1, h3⟩
    · rcases h2 with h2 | ⟨h2, h4⟩
      · exact .inl (ht k hk' i j hi hj h1 h2)
      · exact .inr ⟨ht k hk' i x hi hx h1 h2, h4⟩
    · rcases h2 with h2 | ⟨h2, h4⟩
      · exact .inr ⟨h1, ht k hk' x j hx hj h3 h2⟩
      · exact .inr ⟨h1, h4⟩
theorem War.rfl' {n x y z : Nat} {T0 T : List (List Int)} (h : War n x y z T0 T) (hr : Rfl T0) (h0 : T0.length = n) (h1 : T.length = n) : Rfl T := fun a ha => (h.iff a a (by omega) (by omega)).2 (.inl (hr a (by omega)))
theorem RelT.of {n : Nat} {T : List (List Int)} (h : TrU n n T) (hr : Rfl T) (hl : T.length = n) : RelT n T := ⟨fun a ha => hr a (by omega), fun a b c ha hb hc h1 h2 => h b hb a c ha hc h1 h2⟩
theorem RelT.dec {n : Nat} {T : List (List Int)} (h1 : ∀ a, a < n → (T.getD a []).getD a 0 = 1) (h2 : ∀ a, a < n → ∀ b, b < n → ∀ c, c < n → (T.getD a []).getD b 0 = 1 → (T.getD b []).getD c 0 = 1 → (T.getD a []).getD c 0 = 1) : RelT n T := ⟨h1, fun a b c ha hb hc => h2 a ha b hb c hc⟩
theorem RelT.ones {n : Nat} {T : List (List Int)} (h : Tb 1 1 n T) (hl : T.length = n) : RelT n T := by
  have o : ∀ a b, a < n → b < n → rl T a b := fun a b ha hb => by
    have := h.at (i := a) (j := b) (by omega) hb
    unfold rl; omega
  exact ⟨fun a ha => o a a ha ha, fun a b c ha _ hc _ _ => o a c ha hc⟩
def NewRelG (TS : TypeId) (gS n : Nat) (H : GHeap) (v : Value) (H' : GHeap) : Prop := ∃ a T r, v = .slice a T.length T.length ∧ IntssR H.next H' a T r ∧ T.length = n ∧ (∀ i, i < T.length → (T.getD i []).length = T.length) ∧ RelT n T ∧ St [gS] H H' ∧ DSrc TS H' gS
def NewTabG (TS : TypeId) (gS : Nat) (H : GHeap) (v : Value) (H' : GHeap) : Prop := ∃ a T r, v = .slice a T.length T.length ∧ IntssR H.next H' a T r ∧ (1 ≤ T.length ∧ T.length ≤ 4) ∧ Tb 0 ((T.length : Int) - 1) T.length T ∧ St [gS] H H' ∧ DSrc TS H' gS
theorem monoid_shp {T : List (List Int)} (hn : 1 ≤ T.length) (ht : Tb 0 ((T.length : Int) - 1) T.length T) : (Cat.mk 1 (List.replicate T.length 0) (List.replicate T.length 0) [0] T).Shp := by
  have z : ∀ i, (List.replicate T.length (0 : Int)).getD i 0 = 0 := fun i => by
    rw [List.getD_eq_getElem?_getD, List.getElem?_replicate]; split <;> rfl
  refine .mk' (by simp) (.rep _ (by omega) (by omega)) (.rep _ (by omega) (by omega)) rfl (fun x hx => ?_) (by simp) (fun f hf => by rw [(ht f hf).1]; simp) fun f hf g hg => ?_
  · have hx' : x < 1 := hx
    obtain rfl : x = 0 := by omega
    rw [List.length_replicate]
    exact ⟨⟨Int.le_refl 0, by show (0 : Int) < _; omega⟩, z _, z _⟩
  · rw [(ht f hf).1] at hg
    have h := ht.at hf hg
    refine .pos (by rw [z, z]) ⟨h.1, by rw [List.length_replicate]; omega⟩ (by rw [z, z]) (by rw [z, z])
instance (ss ts : List Int) (f g : Nat) (h : Int) : Decidable (CellV ss ts f g h) := by unfold CellV; infer_instance
def PoR (rel : List (List Int)) (ss ts : List Int) (a : Nat) (r : List Int) : Prop := ∀ b, b < r.length → rl rel a b → (0 ≤ r.getD b 0 ∧ r.getD b 0 < ss.length) ∧ ss.getD (r.getD b 0).toNat 0 = a ∧ ts.getD (r.getD b 0).toNat 0 = b
def PoM (rel : List (List Int)) (ss ts : List Int) (num : List (List Int)) : Prop := ∀ a, a < num.length → PoR rel ss ts a (num.getD a [])
def PoS (rel : List (List Int)) (ss ts : List Int) : Prop := ∀ f, f < ss.length → rl rel (ss.getD f 0).toNat (ts.getD f 0).toNat
theorem PoR.nil (rel : List (List Int)) (ss ts : List Int) (a : Nat) : PoR rel ss ts a [] := fun b h => by simp at h
theorem PoR.grow {rel : List (List Int)} {ss ts r : List Int} {a : Nat} {x y : Int} (h : PoR rel ss ts a r) (hl : ts.length = ss.length) : PoR rel (ss ++ [x]) (ts ++ [y]) a r := fun b hb hr => by
  have := h b hb hr
  rw [getD_snoc, getD_snoc, if_pos (by omega), if_pos (by omega), List.length_append, List.length_singleton]
  exact ⟨by omega, this.2⟩
theorem PoM.grow {rel num : List (List Int)} {ss ts : List Int} {x y : Int} (h : PoM rel ss ts num) (hl : ts.length = ss.length) : PoM rel (ss ++ [x]) (ts ++ [y]) num := fun a ha => (h a ha).grow hl
theorem PoM.nil (rel : List (List Int)) (ss ts : List Int) : PoM rel ss ts [] := fun a h => by simp at h
theorem PoM.snoc {rel num : List (List Int)} {ss ts r : List Int} (h : PoM rel ss ts num) (hr : PoR rel ss ts num.length r) : PoM rel ss ts (num ++ [r]) := fun a ha => by
  rw [List.length_append, List.length_singleton] at ha
  rw [getD_snoc]
  by_cases e : a < num.length
  · rw [if_pos e]; exact h a e
  · obtain rfl : a = num.length := by omega
    rw [if_neg e, if_pos rfl]; exact hr
theorem PoR.snocF {rel : List (List Int)} {ss ts r : List Int} {a : Nat} {x : Int} (h : PoR rel ss ts a r) (hn : ¬ rl rel a r.length) : PoR rel ss ts a (r ++ [x]) := fun b hb hr => by
  rw [List.length_append, List.length_singleton] at hb
  by_cases e : b < r.length
  · rw [getD_snoc, if_pos e]; exact h b e hr
  · obtain rfl : b = r.length := by omega
    exact absurd hr hn
theorem PoR.snocT {rel : List (List Int)} {ss ts r : List Int} {a j : Nat} (h : PoR rel ss ts a r) (hl : ts.length = ss.length) (hj : r.length = j) : PoR rel (ss ++ [(a : Int)]) (ts ++ [(j : Int)]) a (r ++ [(ss.length : Int)]) := fun b hb hr => by
  rw [List.length_append, List.length_singleton] at hb
  by_cases e : b < r.length
  · have := (h.grow (x := (a : Int)) (y := (j : Int)) hl) b e hr
    rw [getD_snoc, if_pos e]; exact this
  · obtain rfl : b = r.length := by omega
    have e1 : (r ++ [(ss.length : Int)]).getD r.length 0 = ss.length := by rw [getD_snoc, if_neg (by omega), if_pos rfl]
    rw [e1, Int.toNat_natCast, getD_snoc, getD_snoc, if_neg (by omega), if_pos rfl, hl, if_neg (by omega), if_pos rfl, List.length_append, List.length_singleton]
    exact ⟨by omega, rfl, by omega⟩
theorem PoS.nil (rel : List (List Int)) : PoS rel [] [] := fun f h => by simp at h
theorem PoS.snoc {rel : List (List Int)} {ss ts : List Int} {a j : Nat} (h : PoS rel ss ts) (hl : ts.length = ss.length) (hr : rl rel a j) : PoS rel (ss ++ [(a : Int)]) (ts ++ [(j : Int)]) := fun f hf => by
  rw [List.length_append, List.length_singleton] at hf
  rw [getD_snoc, getD_snoc]
  by_cases e : f < ss.length
  · rw [if_pos e, if_pos (by omega)]; exact h f e
  · obtain rfl : f = ss.length := by omega
    rw [if_neg e, if_pos rfl, if_neg (by omega), if_pos (by omega), Int.toNat_natCast, Int.toNat_natCast]; exact hr
theorem po_cell {n : Nat} {rel num : List (List Int)} {ss ts : List Int} {f g : Nat} (hR : RelT n rel) (hM : PoM rel ss ts num) (hS : PoS rel ss ts) (hn : num.length = n) (hr : ∀ i, i < num.length → (num.getD i []).length = n) (bs : Bd 0 ((n : Int) - 1) ss) (bt : Bd 0 ((n : Int) - 1) ts) (hl : ts.length = ss.length) (hf : f < ss.length) (hg : g < ss.length) (e : ts.getD f 0 = ss.getD g 0) :
    CellV ss ts f g ((num.getD (ss.getD f 0).toNat []).getD (ts.getD g 0).toNat 0) := by
  have s1 := bs f hf
  have s2 := bs g hg
  have t1 := bt f (by omega)
  have t2 := bt g (by omega)
  have r1 := hS f hf
  have r2 := hS g hg
  rw [e] at r1
  have r3 := hR.tr _ _ _ (by omega) (by omega) (by omega) r1 r2
  have h1 := hM (ss.getD f 0).toNat (by omega) (ts.getD g 0).toNat (by rw [hr _ (by omega)]; omega) r3
  exact .pos e h1.1 (by rw [h1.2.1]; omega) (by rw [h1.2.2]; omega)
theorem po_id {n x : Nat} {rel num : List (List Int)} {ss ts is : List Int} (hR : RelT n rel) (hM : PoM rel ss ts num) (hn : num.length = n) (hr : ∀ i, i < num.length → (num.getD i []).length = n) (hi : IdsL ss ts is) (hx : is.length = x) (hxn : x < n) : IdsL ss ts (is ++ [(num.getD x []).getD x 0]) := by
  have h1 := hM x (by omega) x (by rw [hr _ (by omega)]; omega) (hR.rf x hxn)
  exact hi.snoc h1.1 (by rw [h1.2.1]; omega) (by rw [h1.2.2]; omega)
def AtP (m : Nat) (v : Nat → Nat → Int) (l : List Int) : Prop := ∀ i j, j < m → i * m + j < l.length → l.getD (i * m + j) 0 = v i j
theorem AtP.nil (m : Nat) (v : Nat → Nat → Int) : AtP m v [] := fun i j _ h => by simp at h
theorem idx_inj {m i j a b : Nat} (hj : j < m) (hb : b < m) (e : i * m + j = a * m + b) : i = a ∧ j = b := by
  have h1 := congrArg (· / m) e
  have h2 := congrArg (· % m) e
  simp only [Nat.mul_add_mod_self_right, Nat.mod_eq_of_lt hj, Nat.mod_eq_of_lt hb] at h2
  have hm : 0 < m := by omega
  rw [Nat.mul_comm i, Nat.mul_comm a] at h1
  simp only [Nat.mul_add_div hm, Nat.div_eq_of_lt hj, Nat.div_eq_of_lt hb] at h1
  exact ⟨by omega, h2⟩
theorem AtP.snoc {m : Nat} {v : Nat → Nat → Int} {l : List Int} {a b : Nat} {x : Int} (h : AtP m v l) (hb : b < m) (hl : l.length = a * m + b) (hx : x = v a b) : AtP m v (l ++ [x]) := fun i j hj hi => by
  rw [List.length_append, List.length_singleton] at hi
  rw [getD_snoc]
  by_cases e : i * m + j < l.length
  · rw [if_pos e]; exact h i j hj e
  · have e2 : i * m + j = a * m + b := by omega
    obtain ⟨rfl, rfl⟩ := idx_inj hj hb e2
    rw [if_neg e, if_pos (by omega)]; exact hx
def AtT (m : Nat) (P : Nat → Nat → List Int → Prop) (l : List (List Int)) : Prop := ∀ i j, j < m → i * m + j < l.length → P i j (l.getD (i * m + j) [])
theorem AtT.nil (m : Nat) (P : Nat → Nat → List Int → Prop) : AtT m P [] := fun i j _ h => by simp at h
theorem AtT.snoc {m : Nat} {P : Nat → Nat → List Int → Prop} {l : List (List Int)} {a b : Nat} {x : List Int} (h : AtT m P l) (hb : b < m) (hl : l.length = a * m + b) (hx : P a b x) : AtT m P (l ++ [x]) := fun i j hj hi => by
  rw [List.length_append, List.length_singleton] at hi
  rw [getD_snoc]
  by_cases e : i * m + j < l.length
  · rw [if_pos e]; exact h i j hj e
  · have e2 : i * m + j = a * m + b := by omega
    obtain ⟨rfl, rfl⟩ := idx_inj hj hb e2
    rw [if_neg e, if_pos (by omega)]; exact hx
theorem idx_of {m k n : Nat} (h : k < n * m) : ∃ i j, i < n ∧ j < m ∧ k = i * m + j := by
  have hm : 0 < m := Nat.pos_of_ne_zero fun e => by subst e; omega
  exact ⟨k / m, k % m, (Nat.div_lt_iff_lt_mul hm).2 h, Nat.mod_lt _ hm, by rw [Nat.mul_comm]; exact (Nat.div_add_mod k m).symm⟩
theorem idx_lt {m i j n : Nat} (hi : i < n) (hj : j < m) : i * m + j < n * m := by
  have : (i + 1) * m ≤ n * m := Nat.mul_le_mul_right m hi
  rw [Nat.succ_mul] at this
  omega
theorem pair_inj {n x y a b : Int} (hy : 0 ≤ y ∧ y < n) (hb : 0 ≤ b ∧ b < n) (e : x * n + y = a * n + b) : x = a ∧ y = b := by
  have h2 := congrArg (· % n) e
  simp only [Int.add_comm (_ * n), Int.add_mul_emod_self_right, Int.emod_eq_of_lt hy.1 hy.2, Int.emod_eq_of_lt hb.1 hb.2] at h2
  refine ⟨?_, h2⟩
  have h3 : (x - a) * n = 0 := by rw [Int.sub_mul]; omega
  rcases Int.mul_eq_zero.1 h3 with h | h <;> omega
theorem lenI {l x : Nat} {o : Int} {y : Nat} (h0 : 0 ≤ o) (h : (l : Int) = (x : Int) * o + y) : l = x * o.toNat + y := by
  have : ((x * o.toNat : Nat) : Int) = x * o := by rw [Int.natCast_mul, Int.toNat_of_nonneg h0]
  omega
def prV (n : Int) (xs ys : List Int) (i j : Nat) : Int := xs.getD i 0 * n + ys.getD j 0
def prC (c d : Cat) (a b f g : Nat) : Int := if 0 ≤ (c.comp.getD a []).getD f 0 ∧ 0 ≤ (d.comp.getD b []).getD g 0 then (c.comp.getD a []).getD f 0 * (d.src.length : Int) + (d.comp.getD b []).getD g 0 else -1
theorem pr_lt {n m x y : Int} (hx : 0 ≤ x ∧ x < m) (hy : 0 ≤ y ∧ y < n) : 0 ≤ x * n + y ∧ x * n + y < m * n := by
  have h1 : 0 ≤ x * n := Int.mul_nonneg hx.1 (by omega)
  have h2 : (x + 1) * n ≤ m * n := Int.mul_le_mul_of_nonneg_right (by omega) (by omega)
  rw [Int.add_mul] at h2
  omega
theorem pr_shp {c d : Cat} (hc : c.Shp) (hd : d.Shp) (ho : 0 ≤ c.obj) (ho' : 0 ≤ d.obj) {ss ts is : List Int} {cs : List (List Int)} (l1 : ss.length = c.src.length * d.src.length) (l2 : ts.length = ss.length) (l3 : (is.length : Int) = c.obj * d.obj) (l4 : cs.length = ss.length) (l5 : ∀ f, f < cs.length → (cs.getD f []).length = ss.length)
    (a1 : AtP d.src.length (prV d.obj c.src d.src) ss) (a2 : AtP d.src.length (prV d.obj c.tgt d.tgt) ts) (a3 : AtP d.obj.toNat (prV d.src.length c.idn d.idn) is) (a4 : AtT d.src.length (fun a b row => AtP d.src.length (prC c d a b) row) cs) : (Cat.mk (c.obj * d.obj) ss ts is cs).Shp := by
  obtain ⟨c1, c2, c3, c4, c5, c6, c7, c8⟩ := hc
  obtain ⟨d1, d2, d3, d4, d5, d6, d7, d8⟩ := hd
  have S : ∀ a b, a < c.src.length → b < d.src.length → ss.getD (a * d.src.length + b) 0 = c.src.getD a 0 * d.obj + d.src.getD b 0 := fun a b ha hb => a1 a b hb (by rw [l1]; exact idx_lt ha hb)
  have T : ∀ a b, a < c.src.length → b < d.src.length → ts.getD (a * d.src.length + b) 0 = c.tgt.getD a 0 * d.obj + d.tgt.getD b 0 := fun a b ha hb => a2 a b hb (by rw [l2, l1]; exact idx_lt ha hb)
  refine .mk' l2 (fun k hk => ?_) (fun k hk => ?_) l3 (fun x hx => ?_) l4 l5 fun k hk => ?_
  · obtain ⟨a, b, ha, hb, rfl⟩ := idx_of (k := k) (n := c.src.length) (m := d.src.length) (by omega)
    have x1 := c2 a ha
    have x2 := d2 b hb
    have := pr_lt (n := d.obj) (m := c.obj) (x := c.src.getD a 0) (y := d.src.getD b 0) (by omega) (by omega)
    rw [S a b ha hb]
    omega
  · obtain ⟨a, b, ha, hb, rfl⟩ := idx_of (k := k) (n := c.src.length) (m := d.src.length) (by omega)
    have x1 := c3 a (by omega)
    have x2 := d3 b (by omega)
    have := pr_lt (n := d.obj) (m := c.obj) (x := c.tgt.getD a 0) (y := d.tgt.getD b 0) (by omega) (by omega)
    rw [T a b ha hb]
    omega
  · have hx' : x < c.obj.toNat * d.obj.toNat := by
      have : ((c.obj.toNat * d.obj.toNat : Nat) : Int) = c.obj * d.obj := by rw [Int.natCast_mul, Int.toNat_of_nonneg ho, Int.toNat_of_nonneg ho']
      omega
    obtain ⟨a, b, ha, hb, rfl⟩ := idx_of hx'
    have h1 := c5 a (by omega)
    have h2 := d5 b (by omega)
    have e := a3 a b hb hx
    unfold prV at e
    have hn : (c.idn.getD a 0 * (d.src.length : Int) + d.idn.getD b 0).toNat = (c.idn.getD a 0).toNat * d.src.length + (d.idn.getD b 0).toNat := by
      have : (((c.idn.getD a 0).toNat * d.src.length + (d.idn.getD b 0).toNat : Nat) : Int) = c.idn.getD a 0 * (d.src.length : Int) + d.idn.getD b 0 := by rw [Int.natCast_add, Int.natCast_mul, Int.toNat_of_nonneg h1.1.1, Int.toNat_of_nonneg h2.1.1]
      omega
    have hlt := pr_lt (n := (d.src.length : Int)) (m := (c.src.length : Int)) h1.1 h2.1
    have hl : (ss.length : Int) = (c.src.length : Int) * (d.src.length : Int) := by rw [l1, Int.natCast_mul]
    rw [e, hn, S _ _ (by omega) (by omega), T _ _ (by omega) (by omega), h1.2.1, h1.2.2, h2.2.1, h2.2.2, Int.natCast_add, Int.natCast_mul, Int.toNat_of_nonneg ho']
    exact ⟨by omega, rfl, rfl⟩
  · obtain ⟨a, b, ha, hb, rfl⟩ := idx_of (k := k) (n := c.src.length) (m := d.src.length) (by omega)
    intro k2 hk2
    rw [l5 _ hk] at hk2
    obtain ⟨f, g, hf, hg, rfl⟩ := idx_of (k := k2) (n := c.src.length) (m := d.src.length) (by omega)
    rw [a4 a b hb hk f g hg (by rw [l5 _ hk]; exact hk2)]
    have v1 := c8 a ha f hf
    have v2 := d8 b hb g hg
    unfold prC
    have x1 := d3 b (by omega)
    have x2 := d2 g hg
    have inj : (ts.getD (a * d.src.length + b) 0 = ss.getD (f * d.src.length + g) 0) ↔ (c.tgt.getD a 0 = c.src.getD f 0 ∧ d.tgt.getD b 0 = d.src.getD g 0) := by
      rw [T a b ha hb, S f g hf hg]
      refine ⟨fun e => pair_inj (by omega) (by omega) e, fun e => by rw [e.1, e.2]⟩
    refine ⟨fun e => ?_, fun e => ?_⟩
    · obtain ⟨e1, e2⟩ := inj.1 e
      have w1 := v1.1 e1
      have w2 := v2.1 e2
      generalize (c.comp.getD a []).getD f 0 = p at *
      generalize (d.comp.getD b []).getD g 0 = q at *
      rw [if_pos ⟨w1.1, w2.1⟩]
      have hn : (p * (d.src.length : Int) + q).toNat = p.toNat * d.src.length + q.toNat := by
        have : ((p.toNat * d.src.length + q.toNat : Nat) : Int) = p * (d.src.length : Int) + q := by rw [Int.natCast_add, Int.natCast_mul, Int.toNat_of_nonneg w1.1, Int.toNat_of_nonneg w2.1]
        omega
      have hlt := pr_lt (n := (d.src.length : Int)) (m := (c.src.length : Int)) ⟨w1.1, w1.2.1⟩ ⟨w2.1, w2.2.1⟩
      have hl : (ss.length : Int) = (c.src.length : Int) * (d.src.length : Int) := by rw [l1, Int.natCast_mul]
      rw [hn, S _ _ (by omega) (by omega), T _ _ (by omega) (by omega), S a b ha hb, T f g hf hg, w1.2.2.1, w1.2.2.2, w2.2.2.1, w2.2.2.2]
      exact ⟨by omega, by omega, rfl, rfl⟩
    · rw [if_neg fun hh => e (inj.2 ⟨Classical.byContradiction fun n => by have := v1.2 n; omega, Classical.byContradiction fun n => by have := v2.2 n; omega⟩)]
def RowP (P : Nat → Int → Prop) (row : List Int) : Prop := ∀ g, g < row.length → P g (row.getD g 0)
theorem RowP.nil (P : Nat → Int → Prop) : RowP P [] := fun g h => by simp at h
theorem RowP.snoc {P : Nat → Int → Prop} {row : List Int} {x : Int} (h : RowP P row) (hx : P row.length x) : RowP P (row ++ [x]) := fun g hg => by
  rw [List.length_append, List.length_singleton] at hg
  rw [getD_snoc]
  by_cases e : g < row.length
  · rw [if_pos e]; exact h g e
  · obtain rfl : g = row.length := by omega
    rw [if_neg e, if_pos rfl]; exact hx
def TabP (P : Nat → Nat → Int → Prop) (cs : List (List Int)) : Prop := ∀ f, f < cs.length → RowP (P f) (cs.getD f [])
theorem TabP.nil (P : Nat → Nat → Int → Prop) : TabP P [] := fun f h => by simp at h
theorem TabP.snoc {P : Nat → Nat → Int → Prop} {row : List Int} {cs : List (List Int)} (h : TabP P cs) (hx : RowP (P cs.length) row) : TabP P (cs ++ [row]) := fun f hf => by
  rw [List.length_append, List.length_singleton] at hf
  rw [getD_snoc]
  by_cases e : f < cs.length
  · rw [if_pos e]; exact h f e
  · obtain rfl : f = cs.length := by omega
    rw [if_neg e, if_pos rfl]; exact hx
def JnV (E : Cat) (ss ts : List Int) (f g : Nat) (h : Int) : Prop := (¬ ts.getD f 0 = ss.getD g 0 → h = -1) ∧ (ts.getD f 0 = ss.getD g 0 → h = if f < E.src.length ∧ g < E.src.length then (E.comp.getD f []).getD g 0 else (E.src.length : Int) + ss.getD f 0 + ts.getD g 0 - 1)
theorem join_shp {c d : Cat} (hc : c.Shp) (hd : d.Shp) (ho : c.obj = 1) (ho' : d.obj = 1) {cs : List (List Int)} (l4 : cs.length = (c.sum d).src.length + 1) (l5 : ∀ f, f < cs.length → (cs.getD f []).length = (c.sum d).src.length + 1)
    (hv : TabP (JnV (c.sum d) ((c.sum d).src ++ [0]) ((c.sum d).tgt ++ [1])) cs) :
    (Cat.mk 2 ((c.sum d).src ++ [0]) ((c.sum d).tgt ++ [1]) (c.sum d).idn cs).Shp := by
  have hE := hc.sum hd
  have hob : (c.sum d).obj = 2 := by show c.obj + d.obj = 2; omega
  have side : ∀ f, f < (c.sum d).src.length → ((c.sum d).src.getD f 0 = (c.sum d).tgt.getD f 0) := by
    rw [sum_len]
    refine parts2 (fun i hi => ?_) fun i hi => ?_
    · rw [sum_S1 hi, sum_T1 (by have := hc.tl; omega)]
      have h1 := hc.src i hi
      have h2 := hc.tgt i (by have := hc.tl; omega)
      omega
    · rw [sum_S2 hi, sum_T2 hc.tl (by have := hd.tl; omega)]
      have h1 := hd.src i hi
      have h2 := hd.tgt i (by have := hd.tl; omega)
      omega
  generalize c.sum d = E at *
  obtain ⟨e1, e2, e3, e4, e5, e6, e7, e8⟩ := hE
  rw [hob] at e2 e3 e4
  have SS : ∀ f, f < E.src.length → (E.src ++ [0]).getD f 0 = E.src.getD f 0 := fun f hf => getD_append_l hf
  have TT : ∀ f, f < E.src.length → (E.tgt ++ [1]).getD f 0 = E.tgt.getD f 0 := fun f hf => getD_append_l (by omega)
  have S1 : (E.src ++ [0]).getD E.src.length 0 = 0 := by rw [getD_snoc, if_neg (by omega), if_pos rfl]
  have T1 : (E.tgt ++ [1]).getD E.src.length 0 = 1 := by rw [getD_snoc, if_neg (by omega), if_pos (by omega)]
  have L : (E.src ++ [0]).length = E.src.length + 1 := by simp
  refine .mk' (by simp; omega) (Bd.snoc e2 (by omega) (by omega)) (Bd.snoc e3 (by omega) (by omega)) e4 (fun x hx => ?_) (by rw [L]; exact l4) (by rw [L]; exact l5) fun f hf g hg => ?_
  · have h := e5 x hx
    rw [SS _ (by omega), TT _ (by omega), L]
    exact ⟨by omega, h.2⟩
  · rw [l5 f hf] at hg
    have h := hv f hf g (by rw [l5 f hf]; exact hg)
    refine ⟨fun e => ?_, h.1⟩
    rw [h.2 e]
    by_cases hi : f < E.src.length ∧ g < E.src.length
    · rw [if_pos hi]
      rw [TT f hi.1, SS g hi.2] at e
      have w := (e8 f hi.1 g hi.2).1 e
      rw [L, SS _ (by omega), TT _ (by omega), SS f hi.1, TT g hi.2]
      exact ⟨w.1, by omega, w.2.2⟩
    · rw [if_neg hi]
      have key : (E.src ++ [0]).getD f 0 = 0 ∧ (E.tgt ++ [1]).getD g 0 = 1 := by
        by_cases hf' : f < E.src.length
        · obtain rfl : g = E.src.length := by omega
          rw [S1, TT f hf'] at e
          have := side f hf'
          rw [SS f hf', T1]
          omega
        · obtain rfl : f = E.src.length := by omega
          by_cases hg' : g < E.src.length
          · rw [T1, SS g hg'] at e
            have := side g hg'
            rw [S1, TT g hg']
            omega
          · obtain rfl : g = E.src.length := by omega
            rw [T1, S1] at e
            omega
      rw [key.1, key.2, show ((E.src.length : Int) + 0 + 1 - 1).toNat = E.src.length by omega, S1, T1, L]
      exact ⟨by omega, by omega, rfl, rfl⟩
end Go.GL
namespace Go.GL
def Chn (xs ys : List Int) : Int → List Int → Int → Prop
  | f, [], t => t = f
  | f, e :: r, t => (0 ≤ e ∧ e < xs.length) ∧ xs.getD e.toNat 0 = f ∧ Chn xs ys (ys.getD e.toNat 0) r t
theorem Chn.uniq {xs ys : List Int} : ∀ {l : List Int} {f t u : Int}, Chn xs ys f l t → Chn xs ys f l u → t = u
  | [], _, _, _, h, k => h.trans k.symm
  | _ :: _, _, _, _, h, k => Chn.uniq h.2.2 k.2.2
theorem Chn.app {xs ys : List Int} : ∀ {l m : List Int} {f t u : Int}, Chn xs ys f l t → Chn xs ys t m u → Chn xs ys f (l ++ m) u
  | [], _, _, _, _, h, k => by cases h; exact k
  | _ :: _, _, _, _, _, h, k => ⟨h.1, h.2.1, Chn.app h.2.2 k⟩
theorem Chn.snoc {xs ys l : List Int} {f t : Int} {e : Nat} (h : Chn xs ys f l t) (he : e < xs.length) (hx : xs.getD e 0 = t) : Chn xs ys f (l ++ [(e : Int)]) (ys.getD e 0) := h.app ⟨⟨by omega, by omega⟩, by rw [Int.toNat_natCast]; exact hx, by rw [Int.toNat_natCast]; rfl⟩
def PHas (ps : List Pth) (f : Int) (e : List Int) : Prop := ∃ q ∈ ps, q.f = f ∧ q.e = e
theorem PHas.app {ps : List Pth} {q : Pth} {f : Int} {e : List Int} (h : PHas ps f e) : PHas (ps ++ [q]) f e := by
  obtain ⟨p, h1, h2⟩ := h
  exact ⟨p, by simp [h1], h2⟩
def PChn (xs ys : List Int) (ps : List Pth) : Prop := ∀ p ∈ ps, Chn xs ys p.f p.e p.t
theorem PChn.nil (xs ys : List Int) : PChn xs ys [] := fun p h => by simp at h
theorem PChn.snoc {xs ys : List Int} {ps : List Pth} {q : Pth} (h : PChn xs ys ps) (hq : Chn xs ys q.f q.e q.t) : PChn xs ys (ps ++ [q]) := fun p hp => by
  rcases List.mem_append.1 hp with hp | hp
  · exact h p hp
  · obtain rfl := List.mem_singleton.1 hp; exact hq
def PIds (n : Nat) (ps : List Pth) : Prop := ∀ x : Nat, x < n → PHas ps x []
theorem PIds.nil : PIds 0 [] := fun x h => by omega
theorem PIds.app {n : Nat} {ps : List Pth} {q : Pth} (h : PIds n ps) : PIds n (ps ++ [q]) := fun x hx => (h x hx).app
theorem PIds.snoc {n g : Nat} {t : Int} {ps : List Pth} (h : PIds n ps) : PIds (n + 1) (ps ++ [⟨(n : Int), t, [], g⟩]) := fun x hx => by
  by_cases e : x < n
  · exact (h x e).app
  · obtain rfl : x = n := by omega
    exact ⟨⟨(x : Int), t, [], g⟩, by simp, rfl, rfl⟩
def PGo (xs : List Int) (p : Pth) (j : Nat) (ps : List Pth) : Prop := ∀ e, e < j → xs.getD e 0 = p.t → PHas ps p.f (p.e ++ [(e : Int)])
theorem PGo.zero (xs : List Int) (p : Pth) (ps : List Pth) : PGo xs p 0 ps := fun e h => by omega
theorem PGo.app {xs : List Int} {p q : Pth} {j : Nat} {ps : List Pth} (h : PGo xs p j ps) : PGo xs p j (ps ++ [q]) := fun e he hx => (h e he hx).app
theorem PGo.skip {xs : List Int} {p : Pth} {j : Nat} {ps : List Pth} (h : PGo xs p j ps) (hn : ¬ xs.getD j 0 = p.t) : PGo xs p (j + 1) ps := fun e he hx => by
  by_cases e' : e < j
  · exact h e e' hx
  · obtain rfl : e = j := by omega
    exact absurd hx hn
theorem PGo.put {xs : List Int} {p q : Pth} {j : Nat} {ps : List Pth} (h : PGo xs p j ps) (h1 : q.f = p.f) (h2 : q.e = p.e ++ [(j : Int)]) : PGo xs p (j + 1) (ps ++ [q]) := fun e he hx => by
  by_cases e' : e < j
  · exact (h e e' hx).app
  · obtain rfl : e = j := by omega
    exact ⟨q, by simp, h1, h2⟩
def PExt (xs : List Int) (k : Nat) (ps : List Pth) : Prop := ∀ i, i < k → PGo xs (ps.getD i pz) xs.length ps
theorem PExt.zero (xs : List Int) (ps : List Pth) : PExt xs 0 ps := fun i h => by omega
theorem PExt.app {xs : List Int} {k : Nat} {ps : List Pth} {q : Pth} (h : PExt xs k ps) (hk : k ≤ ps.length) : PExt xs k (ps ++ [q]) := fun i hi => by
  rw [getD_snoc, if_pos (by omega)]
  exact (h i hi).app
theorem PExt.next {xs : List Int} {k : Nat} {ps : List Pth} {p : Pth} (h : PExt xs k ps) (hp : ps.getD k pz = p) (hg : PGo xs p xs.length ps) : PExt xs (k + 1) ps := fun i hi => by
  by_cases e : i < k
  · exact h i e
  · obtain rfl : i = k := by omega
    rw [hp]; exact hg
structure PathS (xs ys : List Int) (n : Nat) (ps : List Pth) : Prop where
  chn : PChn xs ys ps
  ids : PIds n ps
  cat : ∀ p ∈ ps, ∀ q ∈ ps, p.t = q.f → PHas ps p.f (p.e ++ q.e)
theorem getD_of_mem {α : Type} {xs : List α} {x d : α} (h : x ∈ xs) : ∃ i, i < xs.length ∧ xs.getD i d = x := by
  obtain ⟨i, h1, h2⟩ := List.getElem_of_mem h
  exact ⟨i, h1, by rw [List.getD_eq_getElem?_getD, List.getElem?_eq_getElem h1]; exact h2⟩
theorem PathS.of {xs ys : List Int} {n : Nat} {ps : List Pth} (h1 : PChn xs ys ps) (h2 : PIds n ps) (h3 : PExt xs ps.length ps) : PathS xs ys n ps := by
  refine ⟨h1, h2, fun p hp q hq e => ?_⟩
  have go : ∀ (l : List Int) (p : Pth) (t : Int), p ∈ ps → Chn xs ys p.t l t → PHas ps p.f (p.e ++ l) := by
    intro l
    induction l with
    | nil => exact fun p t hp _ => ⟨p, hp, rfl, by simp⟩
    | cons a r ih =>
      intro p t hp hc
      obtain ⟨⟨a0, a1⟩, a2, a3⟩ := hc
      obtain ⟨k, rfl⟩ : ∃ k : Nat, a = k := ⟨a.toNat, by omega⟩
      rw [Int.toNat_natCast] at a2 a3
      obtain ⟨i, hi, rfl⟩ := getD_of_mem (d := pz) hp
      obtain ⟨q, q1, q2, q3⟩ := h3 i hi k (by omega) a2
      have hq := h1 q q1
      rw [q2, q3] at hq
      have ht : q.t = ys.getD k 0 := hq.uniq ((h1 _ hp).snoc (by omega) a2)
      obtain ⟨z, z1, z2, z3⟩ := ih q t q1 (by rw [ht]; exact a3)
      exact ⟨z, z1, by rw [z2, q2], by rw [z3, q3]; simp⟩
  have hc := h1 q hq
  rw [← e] at hc
  exact go q.e p q.t hp hc
theorem PathS.mem {xs ys : List Int} {n : Nat} {ps qs : List Pth} (h : PathS xs ys n ps) (he : ∀ p, p ∈ qs ↔ p ∈ ps) : PathS xs ys n qs := by
  have up : ∀ {f e}, PHas ps f e → PHas qs f e := fun ⟨q, q1, q2⟩ => ⟨q, (he q).2 q1, q2⟩
  exact ⟨fun p hp => h.chn p ((he p).1 hp), fun x hx => up (h.ids x hx), fun p hp q hq e => up (h.cat p ((he p).1 hp) q ((he q).1 hq) e)⟩
theorem mem_swap {qs : List Pth} {w : Nat} (h : w + 1 < qs.length) (p : Pth) : p ∈ (qs.set (w + 1) (qs.getD w pz)).set w (qs.getD (w + 1) pz) ↔ p ∈ qs := by
  have g : ∀ j, j < qs.length → ((qs.set (w + 1) (qs.getD w pz)).set w (qs.getD (w + 1) pz)).getD j pz = if j = w then qs.getD (w + 1) pz else if j = w + 1 then qs.getD w pz else qs.getD j pz := fun j hj => by
    rw [List.getD_eq_getElem?_getD, List.getElem?_set, List.getElem?_set]
    by_cases e : w = j
    · subst e; rw [if_pos rfl, if_pos rfl, if_pos (by rw [List.length_set]; omega)]; rfl
    · rw [if_neg e, if_neg (Ne.symm e)]
      by_cases e2 : w + 1 = j
      · subst e2; rw [if_pos rfl, if_pos rfl, if_pos h]; rfl
      · rw [if_neg e2, if_neg (Ne.symm e2), ← List.getD_eq_getElem?_getD]
  constructor
  · intro hp
    obtain ⟨j, hj, rfl⟩ := getD_of_mem (d := pz) hp
    simp only [List.length_set] at hj
    rw [g j hj]
    split
    · exact getD_mem_list h
    · split
      · exact getD_mem_list (by omega)
      · exact getD_mem_list hj
  · intro hp
    obtain ⟨j, hj, rfl⟩ := getD_of_mem (d := pz) hp
    have back : ∀ i, i < qs.length → ((qs.set (w + 1) (qs.getD w pz)).set w (qs.getD (w + 1) pz)).getD i pz ∈ (qs.set (w + 1) (qs.getD w pz)).set w (qs.getD (w + 1) pz) := fun i hi => getD_mem_list (by simp only [List.length_set]; exact hi)
    by_cases e : j = w
    · subst e
      have := back (j + 1) h
      rwa [g _ h, if_neg (by omega), if_pos rfl] at this
    · by_cases e2 : j = w + 1
      · subst e2
        have := back w (by omega)
        rwa [g _ (by omega), if_pos rfl] at this
      · have := back j hj
        rwa [g _ hj, if_neg e, if_neg e2] at this
def NewPathsG (eI eP : TypeId) (N : Int) (xs ys : List Int) (n : Nat) (H : GHeap) (v : Value) (H' : GHeap) : Prop := H.Le H' ∧ ∃ g ps, v = .slice (some ⟨g, 0, none⟩) ps.length ps.length ∧ H.next ≤ g ∧ H'.get g = some (.row (pcells ps) eP true) ∧ PthOk H.next eI N H' ps ∧ ps.length ≤ 18 ∧ PathS xs ys n ps
def PIdx (ps : List Pth) (i : Nat) (is : List Int) : Prop := ∀ x j : Nat, x < is.length → j < i → (ps.getD j pz).f = x → (ps.getD j pz).e = [] → (0 ≤ is.getD x 0 ∧ is.getD x 0 < i) ∧ (ps.getD (is.getD x 0).toNat pz).f = x ∧ (ps.getD (is.getD x 0).toNat pz).e = []
theorem PIdx.zero (ps : List Pth) (is : List Int) : PIdx ps 0 is := fun x j _ h => by omega
theorem PIdx.skip {ps : List Pth} {i : Nat} {is : List Int} (h : PIdx ps i is) (hn : ¬ (ps.getD i pz).e = []) : PIdx ps (i + 1) is := fun x j hx hj h1 h2 => by
  by_cases e : j < i
  · have := h x j hx e h1 h2; exact ⟨by omega, this.2⟩
  · obtain rfl : j = i := by omega
    exact absurd h2 hn
theorem PIdx.put {ps : List Pth} {i : Nat} {is : List Int} (h : PIdx ps i is) (he : (ps.getD i pz).e = []) (h0 : 0 ≤ (ps.getD i pz).f) : PIdx ps (i + 1) (is.set (ps.getD i pz).f.toNat (i : Int)) := fun x j hx hj h1 h2 => by
  rw [List.length_set] at hx
  by_cases e : (ps.getD i pz).f.toNat = x
  · have hg : (is.set (ps.getD i pz).f.toNat (i : Int)).getD x 0 = i := by rw [getD_set1 (by omega), if_pos e]
    rw [hg, Int.toNat_natCast]
    exact ⟨by omega, by omega, he⟩
  · have hg : (is.set (ps.getD i pz).f.toNat (i : Int)).getD x 0 = is.getD x 0 := by
      rw [List.getD_eq_getElem?_getD, List.getElem?_set_ne e, ← List.getD_eq_getElem?_getD]
    rw [hg]
    by_cases e' : j < i
    · have := h x j hx e' h1 h2; exact ⟨by omega, this.2⟩
    · obtain rfl : j = i := by omega
      omega
def PEnd (ps : List Pth) (g : Pth → Int) (l : List Int) : Prop := ∀ i, i < l.length → l.getD i 0 = g (ps.getD i pz)
theorem PEnd.nil (ps : List Pth) (g : Pth → Int) : PEnd ps g [] := fun i h => by simp at h
theorem PEnd.snoc {ps : List Pth} {g : Pth → Int} {l : List Int} {i : Nat} (h : PEnd ps g l) (hl : l.length = i) : PEnd ps g (l ++ [g (ps.getD i pz)]) := fun j hj => by
  rw [List.length_append, List.length_singleton] at hj
  rw [getD_snoc]
  by_cases e : j < l.length
  · rw [if_pos e]; exact h j e
  · rw [if_neg e, if_pos (by omega)]; congr 2; omega
theorem path_ids {xs ys ss ts is : List Int} {n : Nat} {ps : List Pth} (h : PathS xs ys n ps) (hs : PEnd ps Pth.f ss) (ht : PEnd ps Pth.t ts) (l1 : ss.length = ps.length) (l2 : ts.length = ps.length) (l3 : is.length = n) (hi : PIdx ps ps.length is) : IdsL ss ts is := fun x hx => by
  obtain ⟨q, q1, q2, q3⟩ := h.ids x (by omega)
  obtain ⟨j, hj, rfl⟩ := getD_of_mem (d := pz) q1
  obtain ⟨h1, h2, h3⟩ := hi x j hx hj q2 q3
  have hc := h.chn _ (getD_mem_list (d := pz) (show (is.getD x 0).toNat < ps.length by omega))
  rw [h3] at hc
  have ht' : (ps.getD (is.getD x 0).toNat pz).t = (ps.getD (is.getD x 0).toNat pz).f := hc
  rw [hs _ (by omega), ht _ (by omega), ht', h2]
  exact ⟨by omega, rfl, rfl⟩
def PLast (ps : List Pth) (f : Int) (e : List Int) (k : Nat) (h : Int) : Prop := (h = -1 ∧ ∀ j, j < k → ¬ ((ps.getD j pz).f = f ∧ (ps.getD j pz).e = e)) ∨ ((0 ≤ h ∧ h < k) ∧ (ps.getD h.toNat pz).f = f ∧ (ps.getD h.toNat pz).e = e)
theorem PLast.zero (ps : List Pth) (f : Int) (e : List Int) : PLast ps f e 0 (-1) := .inl ⟨rfl, fun j h => by omega⟩
theorem PLast.bd {ps : List Pth} {f : Int} {e : List Int} {k : Nat} {h : Int} (p : PLast ps f e k h) : -1 ≤ h ∧ h < k := by
  rcases p with p | p <;> omega
theorem PLast.skip {ps : List Pth} {f : Int} {e : List Int} {k : Nat} {h : Int} (p : PLast ps f e k h) (hn : ¬ ((ps.getD k pz).f = f ∧ (ps.getD k pz).e = e)) : PLast ps f e (k + 1) h := by
  rcases p with ⟨p1, p2⟩ | ⟨p1, p2⟩
  · refine .inl ⟨p1, fun j hj => ?_⟩
    by_cases e' : j < k
    · exact p2 j e'
    · obtain rfl : j = k := by omega
      exact hn
  · exact .inr ⟨by omega, p2⟩
theorem PLast.put {ps : List Pth} {f : Int} {e : List Int} {k : Nat} (h1 : (ps.getD k pz).f = f) (h2 : (ps.getD k pz).e = e) : PLast ps f e (k + 1) (k : Int) := .inr ⟨by omega, by rw [Int.toNat_natCast]; exact ⟨h1, h2⟩⟩
theorem path_cell {xs ys ss ts : List Int} {n i j : Nat} {ps : List Pth} {h3 : Int} (h : PathS xs ys n ps) (hs : PEnd ps Pth.f ss) (ht : PEnd ps Pth.t ts) (l1 : ss.length = ps.length) (l2 : ts.length = ps.length) (hi : i < ps.length) (hj : j < ps.length) (e : (ps.getD i pz).t = (ps.getD j pz).f) (hp : PLast ps (ps.getD i pz).f ((ps.getD i pz).e ++ (ps.getD j pz).e) ps.length h3) : CellV ss ts i j h3 := by
  have mi := getD_mem_list (d := pz) hi
  have mj := getD_mem_list (d := pz) hj
  obtain ⟨q, q1, q2, q3⟩ := h.cat _ mi _ mj e
  obtain ⟨k, hk, rfl⟩ := getD_of_mem (d := pz) q1
  rcases hp with ⟨_, p2⟩ | ⟨p1, p2, p3⟩
  · exact absurd ⟨q2, q3⟩ (p2 k hk)
  · have hc := h.chn _ (getD_mem_list (d := pz) (show h3.toNat < ps.length by omega))
    rw [p2, p3] at hc
    have ci := h.chn _ mi
    have cj := h.chn _ mj
    rw [← e] at cj
    have hu := hc.uniq (ci.app cj)
    refine .pos (by rw [ht _ (by omega), hs _ (by omega)]; exact e) ⟨p1.1, by omega⟩ ?_ ?_
    · rw [hs _ (by omega), hs _ (by omega), p2]
    · rw [ht _ (by omega), ht _ (by omega), hu]
theorem path_neg {ss ts : List Int} {i j : Nat} {ps : List Pth} (hs : PEnd ps Pth.f ss) (ht : PEnd ps Pth.t ts) (l1 : ss.length = ps.length) (l2 : ts.length = ps.length) (hi : i < ps.length) (hj : j < ps.length) (e : ¬ (ps.getD i pz).t = (ps.getD j pz).f) : CellV ss ts i j (-1) := .neg (by rw [ht _ (by omega), hs _ (by omega)]; exact e) rfl
end Go.GL
namespace Go.Proofs.Ytfanjkbaemhbmaa
open Go Go.GL Go.RowKit Go.Proofs
theorem sl_124_Yi : sliceT Try.prog 124 = some (127, 3) := by kernel_rfl
theorem ze_127_Yi : zeroT Try.prog 127 = some ([.int .i64 0, .int .i64 0, .slice none 0 0], 3) := by kernel_rfl
theorem bt_127_Yi : buildT Try.prog 127 = some ([.int .i64 0, .int .i64 0, .slice none 0 0], [(0, 1), (1, 1), (2, 1)]) := by kernel_rfl
theorem by_127_Yi : (Try.prog.info? 127).map (·.bytes) = some 40 := by kernel_rfl
theorem ag_127_Yi : aggT Try.prog 127 = some 3 := by kernel_rfl
set_option maxHeartbeats 8000000 in
theorem l03AllG_c {a b : Option Addr} {xs ys : List Int} {n : Nat} {H : GHeap} (ha : Ints H a xs := by assumption) (hb : Ints H b ys := by assumption) (hl : ys.length = xs.length) (hx : xs.length ≤ 3) (hn : n ≤ 3) (hy : Bd 0 ((n : Int) - 1) ys) (hup : ∀ e, e < xs.length → xs.getD e 0 < ys.getD e 0) :
    GCalls Try.prog 130 [.int .i64 (n : Int), .slice a xs.length xs.length, .slice b ys.length ys.length] H (NewPathsG 2 127 ((n : Int) - 1) xs ys n H) := by
  refine GCalls.body (N := 117) (rs := [.tmp 6]) Try.func130 rfl rfl rfl rfl (fun Qx i2 hend => ?_)
  refine .fg [0, 1, 2] rfl ?_
  have c5 := GHeap.Le.refl H
  have e6 := ha
  have f3 := hb
  refine .seq (fun K1 n8 => .region (.mv rfl (.nil (n8 _ _ (.seq (fun K2 o6 => .region ?_))))))
  refine .R rfl (.litA rfl sl_124_Yi ze_127_Yi rfl rfl rfl rfl) ?_
  rintro _ n7 ⟨n5, rfl, h5, _, k7⟩
  have _ := h5.1
  replace c5 := c5.trans h5
  have _ := GHeap.ltg k7
  refine .mv rfl (.nil (o6 _ _ (.seq (fun K3 o8 => .seq (fun K4 o3 => .region (.mv rfl (.nil (o3 _ _ (.block ?_)))))))))
  refine .loopF (σ := Nat × List Pth × Nat × Nat) [0, 1, 2] (fun (x, ps, e5, g9) => [(8, some (.int .i64 (x : Int))), (7, some (.slice (some ⟨e5, 0, none⟩) g9 g9))]) (fun (x, ps, e5, g9) H' => St [n5] n7 H' ∧ H'.get e5 = some (.row (pcells ps) 127 true) ∧ PL e5 n5 n7.next ∧ g9 = ps.length ∧ (x ≤ n ∧ ps.length = x ∧ pws ps ≤ pwn x) ∧ (PChn xs ys ps ∧ PIds x ps) ∧ PthOk H.next 2 ((n : Int) - 1) H' ps) (fun (x, ps, e5, g9) => n - x) ((0, [], _, _)) rfl (.p rfl) ?_ ?_
  ·
   refine ⟨.refl _ _, by assumption, ⟨.inl rfl⟩, by rfl, ?_⟩
   exact ⟨⟨by omega, rfl, Nat.le_refl _⟩, ⟨.nil _ _, .nil⟩, .nil _ _ _ _⟩
  rintro ⟨x, ps, e5, g9⟩ HL1 ⟨b8, d, h3, _, hI⟩ _ l5
  dsimp only [cA, nA]
  have _ : H.next ≤ e5 := h3.ge (by omega) (by omega)
  have _ := b8.nx
  replace c5 := c5.st b8 (fun k hk => ⟨by omega, trivial⟩)
  have e3 := GHeap.ltg d
  have rk := St.refl [e5] HL1
  obtain ⟨⟨_, hpl, hw⟩, ⟨hCh, hPi⟩, hP⟩ := hI
  have htl := pcells_len ps
  have b9 := d
  refine .seq (fun K5 o5 => .seq (fun K6 o1 => .region (.mv rfl (.mv rfl (.q rfl (.cmp rfl rfl rfl) (.nil (o1 _ _ ?_)))))))
  refine .cond rfl ?_ ?_ <;> intro n2
  ·
   simp only [sps] at n2
   refine .skip (o5 _ _ (.seq (fun K7 o9 => .block (.region (.mv rfl (.mv rfl (.mv rfl ?_)))))))
   refine .R rfl (.litA rfl sl_24_A ze_2_L rfl rfl rfl rfl) ?_
   rintro _ p1 ⟨n6, rfl, g2, _, c7⟩
   replace b8 := b8.le g2
   replace rk := rk.le g2
   replace d := g2.2 _ _ d
   have _ := GHeap.ltg c7
   replace c7 : GHeap.get p1 n6 = some (.row (ints []) 2 true) := c7
   refine .q rfl (.build bt_127_Yi rfl rfl rfl) ?_
   refine .R rfl (.litA rfl sl_124_Yi ze_127_Yi rfl rfl rfl rfl) ?_
   rintro _ _ ⟨_, rfl, e9, _, j1⟩
   replace b8 := b8.le e9
   replace rk := rk.le e9
   replace d := e9.2 _ _ d
   replace c7 := e9.2 _ _ c7
   have _ := GHeap.ltg j1
   refine .R rfl (.appendV rfl sl_124_Yi ze_127_Yi rfl by_127_Yi sl_124_Yi rfl rfl (by assumption) (by assumption) (by first | omega | (simp <;> omega)) rfl rfl (by omega) (by omega)) ?_
   rintro _ _ ⟨_, rfl, g1, _, _⟩
   replace b8 := b8.sP g1
   replace rk := rk.sP g1
   replace c7 := g1.s c7
   refine .mv rfl (.nil (o9 _ _ (.region (.mv rfl (.q rfl (.aD rfl rfl rfl) (.mv rfl (.nil ?_)))))))
   refine l5 ((x + 1, ps ++ [⟨(x : Int), (x : Int), [], n6⟩], _, _)) _ _ ?_ ?_ (.p rfl)
   ·
    refine ⟨b8, by (rw [pcells_snoc]; assumption), by exact ⟨.inr (by omega)⟩, by (simp only [List.length_append, List.length_cons, List.length_nil] <;> omega), ?_⟩
    exact ⟨⟨by omega, by simp; omega, by rw [pws_snoc, ← pwn_succ (by omega)]; exact Nat.add_le_add_right hw _⟩, ⟨hCh.snoc rfl, hPi.snoc⟩, (hP.keep (rk.lasts1 b9 rfl)).snoc ⟨by simp, by simp; omega⟩ ⟨by simp, by simp; omega⟩ (by simp) (by simp; omega) (by assumption)⟩
   (dsimp only; omega)
  try simp only [sps] at n2
  refine .exit (o8 _ _ (.seq (fun K8 n4 => .seq (fun K9 p5 => .region (.mv rfl (.nil (p5 _ _ (.block ?_))))))))
  refine .loopF (σ := Nat × List Pth × Nat × Nat) [1, 2] (fun (k, ps, l, b0) => [(9, some (.int .i64 (k : Int))), (7, some (.slice (some ⟨l, 0, none⟩) b0 b0))]) (fun (k, ps, l, b0) H' => St [e5] HL1 H' ∧ H'.get l = some (.row (pcells ps) 127 true) ∧ PL l e5 HL1.next ∧ b0 = ps.length ∧ (k ≤ ps.length ∧ k + pws (ps.drop k) ≤ 18) ∧ (PChn xs ys ps ∧ PIds n ps ∧ PExt xs k ps) ∧ PthOk H.next 2 ((n : Int) - 1) H' ps) (fun (k, ps, l, b0) => 60 - k) ((0, ps, _, _)) rfl (.p rfl) ?_ ?_
  ·
   refine ⟨.refl _ _, by assumption, ⟨.inl rfl⟩, by assumption, ?_⟩
   exact ⟨⟨by omega, by have := pwn_le x; rw [List.drop_zero]; omega⟩, ⟨hCh, by rw [show n = x by omega]; exact hPi, .zero _ _⟩, hP⟩
  rintro ⟨k, ps, l, b0⟩ HL2 ⟨e2, _, d6, d4, hI⟩ _ m6
  dsimp only [cA, nA]
  have _ : H.next ≤ l := d6.ge (by omega) (by omega)
  have _ := e2.nx
  replace c5 := c5.st e2 (fun k hk => ⟨by omega, trivial⟩)
  obtain ⟨⟨hk, hwk⟩, ⟨hCh, hPi, hPx⟩, hP⟩ := hI
  have hpl := pws_len hk hwk
  refine .seq (fun K10 j2 => .seq (fun K11 h4 => .region (.mv rfl (.mv rfl (.q rfl (.len sl_124_Yi rfl) (.q rfl (.cmp rfl rfl rfl) (.mv rfl ?_)))))))
  refine .split (fun k3 => ?_) (fun k3 => ?_)
  ·
   simp only [sps] at k3
   refine .qg rfl (.move rfl) (.qg rfl (.len sl_124_Yi rfl) (.qg rfl (.cmp rfl rfl rfl) (.q rfl (.pickT rfl rfl) (.nil (h4 _ _ ?_)))))
   refine .cond rfl ?_ ?_ <;> intro n3
   ·
    simp only [sps] at n3
    refine .skip (j2 _ _ (.seq (fun K12 l1 => .block (.seq (fun K13 m9 => .region (.mv rfl (.nil (m9 _ _ (.block ?_)))))))))
    refine .loopF (σ := Nat × List Pth × Nat × Nat) [1, 2, 9, 32, 33, 34] (fun (e, p2, a4, b1) => [(10, some (.int .i64 (e : Int))), (7, some (.slice (some ⟨a4, 0, none⟩) b1 b1))]) (fun (e, p2, a4, b1) H' => St [l] HL2 H' ∧ H'.get a4 = some (.row (pcells p2) 127 true) ∧ PL a4 l HL2.next ∧ b1 = p2.length ∧ (e ≤ xs.length ∧ ps.length ≤ p2.length ∧ p2.getD k pz = ps.getD k pz ∧ k + 1 + pws (p2.drop (k + 1)) + 3 * ((pw (ps.getD k pz).t - 1) / 3) ≤ 18 + e * ((pw (ps.getD k pz).t - 1) / 3)) ∧ (PChn xs ys p2 ∧ PIds n p2 ∧ PExt xs k p2 ∧ PGo xs (ps.getD k pz) e p2) ∧ PthOk H.next 2 ((n : Int) - 1) H' p2) (fun (e, p2, a4, b1) => xs.length - e) ((0, ps, _, _)) rfl (.p rfl) ?_ ?_
    ·
     refine ⟨.refl _ _, by assumption, ⟨.inl rfl⟩, by assumption, ?_⟩
     have _ := pws_drop (ps := ps) (k := k) (by omega)
     have _ := pw_pos (ps.getD k pz).t
     exact ⟨⟨by omega, by omega, rfl, by omega⟩, ⟨hCh, hPi, hPx, .zero _ _ _⟩, hP⟩
    rintro ⟨e, p2, a4, b1⟩ HL3 ⟨d2, g, f1, e7, hI⟩ _ i4
    dsimp only [cA, nA]
    have _ := d2.nx
    replace c5 := c5.st d2 (fun k hk => ⟨by omega, trivial⟩)
    replace e2 := e2.sQ d2
    have _ := GHeap.ltg g
    replace ha := e6.mono c5
    replace hb := f3.mono c5
    obtain ⟨⟨_, _, f5, _⟩, ⟨hCh, hPi, hPx, hGo⟩, hP⟩ := hI
    have _ : p2.length ≤ 18 := by
      have hB := Nat.mul_le_mul_right ((pw (ps.getD k pz).t - 1) / 3) (show e ≤ 3 by omega)
      exact pws_len (k := k + 1) (by omega) (by omega)
    have htl := pcells_len p2
    refine .seq (fun K14 l9 => .seq (fun K15 m5 => .region (.mv rfl (.mv rfl (.q rfl (.len sl_24_A rfl) (.q rfl (.cmp rfl rfl rfl) (.nil (m5 _ _ ?_))))))))
    refine .cond rfl ?_ ?_ <;> intro n0
    ·
     simp only [sps] at n0
     refine .skip (l9 _ _ (.seq (fun K16 h0 => .block (.seq (fun K17 k2 => ?_)))))
     refine .regionD mo_B (.qs [0, 1, 2, 3, 4, 5, 6, 7, 8, 9] (.done)) (by kernel_rfl) ?_
     obtain rfl := e7
     have sA := pcells_slA g
     have mk := pcells_mem g (i := k) (by omega)
     refine .mv rfl rfl (.mv rfl rfl (.q rfl (.iN sl_24_A rfl rfl) (.q rfl (.lI on_2_A rfl) (.mv rfl rfl (.mv rfl rfl ?_)))))
     refine .q rfl (.idx sl_124_Yi (by assumption) (by omega) rfl rfl (by omega) (by omega) rfl) ?_
     refine .q rfl (.fieldAddr fo_127_1_Dg rfl) (.q rfl (.load on_2_A rfl (mk.2 1 _ rfl)) (.q rfl (.cmp rfl rfl rfl) (.done (k2 _ _ ?_))))
     refine .cond rfl ?_ ?_ <;> intro i9
     ·
      simp only [sps] at i9
      have pk := hP.at (i := k) (by omega)
      have iE := Ints.of_get pk.2.2.2.2
      have yb := hy e (by omega)
      have o0 := pk.1
      have hh : ((p2.getD k pz).e ++ [(e : Int)]).length = (p2.getD k pz).e.length + 1 := by rw [List.length_append]; rfl
      refine .regionD mo_B (.qs [0, 1, 2, 3, 4, 5, 6, 7, 8, 9, 10, 11, 12, 13, 14, 16] (.or (.c 15 1 (.c 17 1 (.c 18 1 (.q 19 (.c 20 1 (.c 21 0 (.c 22 0 (.done)))))))) (.c 17 1 (.c 15 1 (.c 18 1 (.q 19 (.c 20 1 (.c 21 0 (.c 22 0 (.done)))))))))) (by kernel_rfl) ?_
      refine .cut [(1, some _), (2, some _), (9, some _), (10, some _), (32, some _), (33, some _), (34, some _), (38, some _), (39, some _), (40, some _), (41, some _), (44, some _), (45, some _), (46, some _), (47, some _), (48, some _), (49, some _), (50, some _), (51, some _), (52, some _), (53, some _)] (.p rfl) (fun rest fr' H' => ∃ (gE : Nat) (gV : Nat), Sub ((7, some (.slice (some ⟨gV, 0, none⟩) (p2.length + 1) (p2.length + 1))) :: rest) fr' ∧ St [a4] HL3 H' ∧ H'.get gE = some (.row (ints ((p2.getD k pz).e ++ [(e : Int)])) 2 true) ∧ HL3.next ≤ gE ∧ H'.get gV = some (.row (pcells (p2 ++ [⟨(p2.getD k pz).f, ys.getD e 0, (p2.getD k pz).e ++ [(e : Int)], gE⟩])) 127 true) ∧ HL3.next ≤ gV) ?_ ?_
      ·
       have a8 := St.refl [a4] HL3
       refine .qB rfl (.refl _) (.move rfl) (.qB rfl (.refl _) (.move rfl) (.qB rfl (.refl _) (.move rfl) ?_))
       refine .q rfl (.idx sl_124_Yi (by assumption) (by omega) rfl rfl (by omega) (by omega) rfl) ?_
       refine .qB rfl (.refl _) (.fieldAddr fo_127_0_Dg rfl) (.q rfl (.load on_2_A rfl (mk.2 0 _ rfl)) (.qB rfl (.refl _) (.move rfl) (.qB rfl (.refl _) (.move rfl) (.q rfl (.iN sl_24_A rfl rfl) (.q rfl (.lI on_2_A rfl) (.qB rfl (.refl _) (.move rfl) (.qB rfl (.refl _) (.move rfl) ?_)))))))
       refine .q rfl (.idx sl_124_Yi (by assumption) (by omega) rfl rfl (by omega) (by omega) rfl) ?_
       refine .qB rfl (.refl _) (.fieldAddr fo_127_2_Dg rfl) (.q rfl (.load on_24_B rfl (mk.2 2 _ rfl)) (.qB rfl (.refl _) (.move rfl) ?_))
       refine .orI ?_ ?_
       ·
        refine .call1 rfl rfl rfl rfl rfl @Try.call108 rfl (l01Own_c (by first | exact iE | exact Ints.mono iE (by assumption))) ?_
        rintro _ _ ⟨f8, _, rfl, g7, _⟩
        have a6 := f8
        refine ⟨a6, ?_⟩
        replace a8 := a8.le f8
        replace g := f8.2 _ _ g
        have _ := GHeap.ltg g7
        refine .c1 rfl rfl rfl rfl (.litA rfl sl_24_A ze_2_L rfl rfl rfl rfl) ?_
        rintro _ _ ⟨_, rfl, f2, _, m7⟩
        replace a6 := a6.trans f2
        refine ⟨a6, ?_⟩
        replace a8 := a8.le f2
        replace g := f2.2 _ _ g
        replace g7 := f2.2 _ _ g7
        have _ := GHeap.ltg m7
        refine .c1 rfl rfl rfl rfl (.apI rfl sl_24_A ze_2_L rfl by_2_L sl_24_A rfl rfl) ?_
        rintro _ _ ⟨_, rfl, f9, _, d7⟩
        replace a6 := a6.st f9 (fun k hk => ⟨by omega, trivial⟩)
        refine ⟨a6, ?_⟩
        replace a8 := a8.sA f9
        replace g := f9.s g
        have _ := GHeap.ltg d7
        refine .qB rfl a6 (.build bt_127_Yi rfl rfl rfl) ?_
        refine .c1 rfl rfl rfl rfl (.litA rfl sl_124_Yi ze_127_Yi rfl rfl rfl rfl) ?_
        rintro _ _ ⟨_, rfl, f4, _, m3⟩
        replace a6 := a6.trans f4
        refine ⟨a6, ?_⟩
        replace a8 := a8.le f4
        replace g := f4.2 _ _ g
        replace d7 := f4.2 _ _ d7
        have _ := GHeap.ltg m3
        refine .c0 rfl rfl rfl rfl (.appendV rfl sl_124_Yi ze_127_Yi rfl by_127_Yi sl_124_Yi rfl rfl (by assumption) (by assumption) (by first | omega | (simp <;> omega)) rfl rfl (by omega) (by omega)) ?_
        rintro _ _ ⟨_, rfl, i0, _, _⟩
        replace a8 := a8.sQ i0
        replace d7 := i0.s d7
        refine .d0 rfl rfl rfl rfl (.quiet (.assign rfl) CIs.mk) (.done ?_)
        exact ⟨_, _, (.p rfl), a8, by assumption, by omega, by (rw [pcells_snoc]; unfold Pth.cs; dsimp only; rw [hh]; assumption), by omega⟩
       refine .c1 rfl rfl rfl rfl (.litA rfl sl_24_A ze_2_L rfl rfl rfl rfl) ?_
       rintro _ _ ⟨_, rfl, c6, _, c9⟩
       have a6 := c6
       refine ⟨a6, ?_⟩
       replace a8 := a8.le c6
       replace g := c6.2 _ _ g
       have _ := GHeap.ltg c9
       refine .call1 rfl rfl rfl rfl rfl @Try.call108 rfl (l01Own_c (by first | exact iE | exact Ints.mono iE (by assumption))) ?_
       rintro _ _ ⟨b5, _, rfl, g0, _⟩
       replace a6 := a6.trans b5
       refine ⟨a6, ?_⟩
       replace a8 := a8.le b5
       replace g := b5.2 _ _ g
       replace c9 := b5.2 _ _ c9
       have _ := GHeap.ltg g0
       refine .c1 rfl rfl rfl rfl (.apI rfl sl_24_A ze_2_L rfl by_2_L sl_24_A rfl rfl) ?_
       rintro _ _ ⟨_, rfl, c8, _, a5⟩
       replace a6 := a6.st c8 (fun k hk => ⟨by omega, trivial⟩)
       refine ⟨a6, ?_⟩
       replace a8 := a8.sA c8
       replace g := c8.s g
       have _ := GHeap.ltg a5
       refine .qB rfl a6 (.build bt_127_Yi rfl rfl rfl) ?_
       refine .c1 rfl rfl rfl rfl (.litA rfl sl_124_Yi ze_127_Yi rfl rfl rfl rfl) ?_
       rintro _ _ ⟨_, rfl, b7, _, g6⟩
       replace a6 := a6.trans b7
       refine ⟨a6, ?_⟩
       replace a8 := a8.le b7
       replace g := b7.2 _ _ g
       replace a5 := b7.2 _ _ a5
       have _ := GHeap.ltg g6
       refine .c0 rfl rfl rfl rfl (.appendV rfl sl_124_Yi ze_127_Yi rfl by_127_Yi sl_124_Yi rfl rfl (by assumption) (by assumption) (by first | omega | (simp <;> omega)) rfl rfl (by omega) (by omega)) ?_
       rintro _ _ ⟨_, rfl, d9, _, _⟩
       replace a8 := a8.sQ d9
       replace a5 := d9.s a5
       refine .d0 rfl rfl rfl rfl (.quiet (.assign rfl) CIs.mk) (.done ?_)
       exact ⟨_, _, (.p rfl), a8, by assumption, by omega, by (rw [pcells_snoc]; unfold Pth.cs; dsimp only; rw [hh]; assumption), by omega⟩
      rintro _ j3 ⟨h2, _, e8, f6, aE, _, i7, _⟩
      have _ := pw_up (t := (ps.getD k pz).t) (u := ys.getD e 0) (by rw [← f5]; exact pk.2.1.1) (by rw [← f5]; have := hup e (by omega); omega) (by omega)
      obtain ⟨p3, i1, p4, m1, o7, k1⟩ : ∃ p3, p3 = p2 ++ [⟨(p2.getD k pz).f, ys.getD e 0, (p2.getD k pz).e ++ [(e : Int)], h2⟩] ∧ p3.length = p2.length + 1 ∧ p3.getD k pz = p2.getD k pz ∧ pws (p3.drop (k + 1)) ≤ pws (p2.drop (k + 1)) + (pw (ps.getD k pz).t - 1) / 3 ∧ PthOk H.next 2 ((n : Int) - 1) j3 p3 := ⟨_, rfl, by simp, by rw [getD_snoc, if_pos (by omega)], by rw [pws_drop_snoc (by omega)]; dsimp only; omega, PthOk.snoc (p := ⟨(p2.getD k pz).f, ys.getD e 0, (p2.getD k pz).e ++ [(e : Int)], h2⟩) (hP.keep (f6.lasts1 g rfl)) o0 yb (by dsimp only; omega) (by dsimp only; omega) aE⟩
      have l2 : PChn xs ys p3 ∧ PIds n p3 ∧ PExt xs k p3 ∧ PGo xs (ps.getD k pz) (e + 1) p3 := by
        rw [i1]
        exact ⟨hCh.snoc ((hCh _ (getD_mem_list (by omega))).snoc (by omega) i9), hPi.app, hPx.app (by omega), hGo.put (by rw [f5]) (by rw [f5])⟩
      rw [← i1] at i7
      replace d2 := d2.sQ f6
      refine h0 _ _ ?_
      refine .forget e8 ?_
      refine .region (.mv rfl (.q rfl (.aD rfl rfl rfl) (.mv rfl (.nil ?_))))
      refine i4 ((e + 1, p3, _, _)) _ _ ?_ ?_ (.p rfl)
      ·
       refine ⟨d2, by assumption, by exact ⟨.inr (by omega)⟩, by omega, ?_⟩
       have e1 := sm e ((pw (ps.getD k pz).t - 1) / 3)
       exact ⟨⟨by omega, by omega, by rw [m1, f5], by omega⟩, l2, k1⟩
      (dsimp only; omega)
     simp only [sps] at i9
     obtain ⟨p3, i1, p4, m1, o7, k1⟩ : ∃ p3, p3 = p2 ∧ p3.length = p2.length ∧ p3.getD k pz = p2.getD k pz ∧ pws (p3.drop (k + 1)) ≤ pws (p2.drop (k + 1)) + (pw (ps.getD k pz).t - 1) / 3 ∧ PthOk H.next 2 ((n : Int) - 1) HL3 p3 := ⟨_, rfl, rfl, rfl, by omega, hP⟩
     have l2 : PChn xs ys p3 ∧ PIds n p3 ∧ PExt xs k p3 ∧ PGo xs (ps.getD k pz) (e + 1) p3 := by
       rw [i1]
       exact ⟨hCh, hPi, hPx, hGo.skip (by rw [← f5]; exact i9)⟩
     refine .skip (h0 _ _ (.region (.mv rfl (.q rfl (.aD rfl rfl rfl) (.mv rfl (.nil ?_))))))
     refine i4 ((e + 1, p3, _, _)) _ _ ?_ ?_ (.p rfl)
     ·
      refine ⟨d2, by (rw [i1]; assumption), by assumption, by omega, ?_⟩
      have e1 := sm e ((pw (ps.getD k pz).t - 1) / 3)
      exact ⟨⟨by omega, by omega, by rw [m1, f5], by omega⟩, l2, k1⟩
     (dsimp only; omega)
    try simp only [sps] at n0
    refine .exit (l1 _ _ (.region (.mv rfl (.q rfl (.aD rfl rfl rfl) (.mv rfl (.nil ?_))))))
    refine m6 ((k + 1, p2, _, _)) _ _ ?_ ?_ (.p rfl)
    ·
     refine ⟨e2, by assumption, by exact f1.trans d6 (by omega), by omega, ?_⟩
     have hB := Nat.mul_le_mul_right ((pw (ps.getD k pz).t - 1) / 3) (show e ≤ 3 by omega)
     have hee : e = xs.length := by omega
     exact ⟨⟨by omega, by omega⟩, ⟨hCh, hPi, hPx.next f5 (by rw [hee] at hGo; exact hGo)⟩, hP⟩
    (dsimp only; omega)
   try simp only [sps] at n3
   refine .exit (n4 _ _ (.seq (fun K18 k9 => .seq (fun K19 m4 => .region ?_))))
   obtain rfl := d4
   have hPS : PathS xs ys n ps := .of hCh hPi (by rw [show ps.length = k by omega]; exact hPx)
   refine .mv rfl (.nil (m4 _ _ (.block ?_)))
   refine .loopF (σ := Nat × List Pth) [7] (fun (i, q4) => [(11, some (.int .i64 (i : Int)))]) (fun (i, q4) H' => St [l] HL2 H' ∧ H'.get l = some (.row (pcells q4) 127 true) ∧ (i ≤ 44 ∧ q4.length = ps.length) ∧ PathS xs ys n q4 ∧ PthOk H.next 2 ((n : Int) - 1) H' q4) (fun (i, q4) => 60 - i) ((1, ps)) rfl (.p rfl) ?_ ?_
   ·
    refine ⟨.refl _ _, by assumption, ?_⟩
    exact ⟨⟨by omega, by omega⟩, hPS, hP⟩
   rintro ⟨i, q4⟩ HL4 ⟨v, d, hI⟩ KL4 e0
   dsimp only [cA, nA]
   replace c5 := c5.st v (fun k hk => ⟨by omega, trivial⟩)
   obtain ⟨⟨o4, hpl⟩, hPS, hP⟩ := hI
   refine .seq (fun K20 l4 => .seq (fun K21 m8 => .region (.mv rfl (.mv rfl (.q rfl (.len sl_124_Yi rfl) (.q rfl (.cmp rfl rfl rfl) (.nil (m8 _ _ ?_))))))))
   refine .cond rfl ?_ ?_ <;> intro i8
   ·
    simp only [sps] at i8
    refine .skip (l4 _ _ (.seq (fun K22 i5 => .block (.seq (fun K23 l8 => .region (.mv rfl (.mv rfl (.nil (l8 _ _ (.block ?_))))))))))
    refine .loopF (σ := Nat × List Pth) [7, 11] (fun (z, qs) => [(12, some (.int .i64 (z : Int)))]) (fun (z, qs) H' => St [l] HL4 H' ∧ H'.get l = some (.row (pcells qs) 127 true) ∧ (z < qs.length ∧ qs.length = ps.length) ∧ PathS xs ys n qs ∧ PthOk H.next 2 ((n : Int) - 1) H' qs) (fun (z, qs) => z) ((i, q4)) rfl (.p rfl) ?_ ?_
    ·
     refine ⟨.refl _ _, by assumption, ?_⟩
     exact ⟨⟨by omega, by omega⟩, hPS, hP⟩
    rintro ⟨z, qs⟩ HL5 ⟨m, d, hI⟩ KL5 g3
    dsimp only [cA, nA]
    replace v := v.sQ m
    have rk := St.refl [l] HL5
    obtain ⟨⟨hz, hql⟩, hPS, hP⟩ := hI
    have b9 := d
    refine .seq (fun K24 l0 => .seq (fun K25 h6 => ?_))
    refine .regionD mo_B (.qs [0, 1, 2, 3, 4, 5, 6, 7, 8, 9, 10, 11] (.c 12 0 (.q 13 (.done)))) (by kernel_rfl) ?_
    refine .mv rfl rfl (.q rfl (.cmp rfl rfl rfl) (.mv rfl rfl ?_))
    refine .split (fun g8 => ?_) (fun g8 => ?_)
    ·
     simp only [sps] at g8
     obtain ⟨w, rfl⟩ : ∃ w, z = w + 1 := ⟨z - 1, by omega⟩
     have sA := pcells_slA d
     rw [hql] at sA
     have mz := pcells_mem d (i := w + 1) (by omega)
     have mw := pcells_mem d (i := w) (by omega)
     have l7 := hP.at (i := w + 1) (by omega)
     have k5 := hP.at (i := w) (by omega)
     refine .qg rfl (.move rfl) (.qg rfl (.move rfl) ?_)
     refine .qg rfl (.idx sl_124_Yi (by assumption) (by omega) rfl rfl (by omega) (by omega) rfl) ?_
     refine .qg rfl (.loadM ag_127_Yi rfl (by assumption)) ?_
     refine .qg rfl (.move rfl) (.qg rfl (.move rfl) ?_)
     refine .qg rfl (.sub (r := (w : Int)) rfl rfl (by omega) (by omega) (by omega)) ?_
     refine .qg rfl (.idx sl_124_Yi (by assumption) (by omega) rfl rfl (by omega) (by omega) rfl) ?_
     refine .qg rfl (.loadM ag_127_Yi rfl (by assumption)) ?_
     refine .call0g rfl rfl rfl rfl rfl rfl rfl @Try.call134 rfl (l03Before_c (Ints.of_get l7.2.2.2.2) (Ints.of_get k5.2.2.2.2) (by omega)) ?_
     rintro _ _ ⟨f0, _, rfl⟩
     replace v := v.le f0
     replace m := m.le f0
     replace rk := rk.le f0
     replace d := f0.2 _ _ d
     refine .q rfl (.pickT rfl rfl) (.done (h6 _ _ ?_))
     refine .cond rfl ?_ ?_ <;> intro n1
     ·
      try simp only [sps] at n1
      refine .skip (l0 _ _ (.seq (fun K26 l3 => .block (.seq (fun K27 j7 => .region ?_)))))
      have mz := pcells_mem d (i := w + 1) (by omega)
      have sA := pcells_slA d
      rw [hql] at sA
      refine .mv rfl (.mv rfl ?_)
      refine .q rfl (.idx sl_124_Yi (by assumption) (by omega) rfl rfl (by omega) (by omega) rfl) ?_
      refine .q rfl (.loadM ag_127_Yi rfl (by assumption)) ?_
      refine .R rfl (.allocR rfl ze_127_Yi rfl) ?_
      rintro _ _ ⟨o2, rfl, f7, _, _⟩
      replace m := m.le f7
      replace rk := rk.le f7
      replace d := f7.2 _ _ d
      refine .r0 rfl rfl (.fillA rfl sz_127_Dg rfl rfl rfl rfl) ?_
      rintro _ _ ⟨rfl, b4, b6⟩
      replace m := m.sA b4
      replace rk := rk.sA b4
      have y : NE l o2 := .a
      replace d := b4.s d y.ne
      refine .nil (j7 _ _ (.seq (fun K28 j9 => .region ?_)))
      have mw := pcells_mem d (i := w) (by omega)
      have sA := pcells_slA d
      rw [hql] at sA
      refine .mv rfl (.mv rfl (.mv rfl (.mv rfl ?_)))
      refine .q rfl (.sub (r := (w : Int)) rfl rfl (by omega) (by omega) (by omega)) ?_
      refine .q rfl (.idx sl_124_Yi (by assumption) (by omega) rfl rfl (by omega) (by omega) rfl) ?_
      refine .q rfl (.loadM ag_127_Yi rfl (by assumption)) ?_
      refine .q rfl (.idx sl_124_Yi (by assumption) (by omega) rfl rfl (by omega) (by omega) rfl) ?_
      refine .r0 rfl rfl (.storeNR rfl sz_127_Dg rfl rfl rfl rfl (by assumption) (by rw [pcells_len]; simp; omega)) ?_
      rintro _ d8 ⟨rfl, b3, c2⟩
      replace m := m.sQ b3
      replace rk := rk.sQ b3
      replace b6 := b3.s b6 (Ne.symm y.ne)
      obtain ⟨q5, g4, g5, n9⟩ : ∃ q5, q5 = qs.set (w + 1) (qs.getD w pz) ∧ q5.length = qs.length ∧ PthOk H.next 2 ((n : Int) - 1) d8 q5 := ⟨_, rfl, by simp, (hP.keep (rk.lasts1 b9 rfl)).set (by omega)⟩
      replace c2 : GHeap.get d8 l = some (.row (pcells q5) 127 true) := by
        have hx := c2
        simp only [Int.toNat_natCast, Nat.zero_add] at hx
        rw [g4, ← pcells_set _ (by omega)]
        exact hx
      have sA := pcells_slA c2
      rw [g5, hql] at sA
      refine .nil (j9 _ _ (.region (.mv rfl (.mv rfl ?_))))
      refine .q rfl (.sub (r := (w : Int)) rfl rfl (by omega) (by omega) (by omega)) ?_
      refine .q rfl (.loadM ag_127_Yi rfl ⟨rfl, Mem.of_get b6⟩) ?_
      refine .q rfl (.idx sl_124_Yi (by assumption) (by omega) rfl rfl (by omega) (by omega) rfl) ?_
      refine .r0 rfl rfl (.storeNR rfl sz_127_Dg rfl rfl rfl rfl (by assumption) (by rw [pcells_len]; simp; omega)) ?_
      rintro _ e4 ⟨rfl, d3, d5⟩
      replace m := m.sQ d3
      replace rk := rk.sQ d3
      obtain ⟨q6, h7, p0, k4⟩ : ∃ q6, q6 = q5.set w (qs.getD (w + 1) pz) ∧ q6.length = qs.length ∧ PthOk H.next 2 ((n : Int) - 1) e4 q6 := ⟨_, rfl, by simp; omega, fun p hp => by
        rcases List.mem_or_eq_of_mem_set hp with h | rfl
        · have h9 := (hP.keep (rk.lasts1 b9 rfl)).set (i := w + 1) (j := w) (by omega) p (by rw [← g4]; exact h)
          rw [List.length_set] at h9 ⊢
          rw [g5]
          exact h9
        · have h9 := (hP.keep (rk.lasts1 b9 rfl)).at (i := w + 1) (by omega)
          rw [List.length_set, g5]
          exact h9⟩
      replace d5 : GHeap.get e4 l = some (.row (pcells q6) 127 true) := by
        have hx := d5
        simp only [Int.toNat_natCast, Nat.zero_add] at hx
        rw [h7, ← pcells_set _ (by omega)]
        exact hx
      refine .nil (l3 _ _ (.region (.mv rfl ?_)))
      refine .q rfl (.sub (r := (w : Int)) rfl rfl (by omega) (by omega) (by omega)) ?_
      refine .mv rfl (.nil ?_)
      refine g3 ((w, q6)) _ _ ?_ ?_ (.p rfl)
      ·
       refine ⟨m, by assumption, ?_⟩
       exact ⟨⟨by omega, by omega⟩, hPS.mem (by rw [h7, g4]; exact mem_swap (by omega)), k4⟩
      (dsimp only; omega)
     refine .exit (i5 _ _ (.region (.mv rfl (.q rfl (.aD rfl rfl rfl) (.mv rfl (.nil ?_))))))
     refine e0 ((i + 1, qs)) _ _ ?_ ?_ (.p rfl)
     ·
      refine ⟨v, by assumption, ?_⟩
      exact ⟨⟨by omega, by omega⟩, hPS, by first | exact hP | exact hP.keep (.of_le (by assumption))⟩
     (dsimp only; omega)
    try simp only [sps] at g8
    refine .z rfl (.z rfl (.z rfl (.z rfl (.z rfl (.z rfl (.z rfl (.z rfl (.z rfl (.sgc rfl rfl rfl rfl rfl rfl (.q rfl (.pickF rfl rfl) (.done (h6 _ _ ?_))))))))))))
    refine .condF rfl ?_
    refine .exit (i5 _ _ (.region (.mv rfl (.q rfl (.aD rfl rfl rfl) (.mv rfl (.nil ?_))))))
    refine e0 ((i + 1, qs)) _ _ ?_ ?_ (.p rfl)
    ·
     refine ⟨v, by assumption, ?_⟩
     exact ⟨⟨by omega, by omega⟩, hPS, by first | exact hP | exact hP.keep (.of_le (by assumption))⟩
    (dsimp only; omega)
   try simp only [sps] at i8
   refine .exit (k9 _ _ (.seq (fun K29 k6 => .region (.mv rfl (.mv rfl (.nil (k6 _ _ (.ret (i2 _ _ (⟨_, rfl, ?_⟩))))))))))
   exact ⟨c5, l, q4, by rw [‹q4.length = _›], by omega, by assumption, hP, by omega, hPS⟩
  try simp only [sps] at k3
  refine .z rfl (.z rfl (.z rfl (.q rfl (.pickF rfl rfl) (.nil (h4 _ _ ?_)))))
  refine .condF rfl ?_
  refine .exit (n4 _ _ (.seq (fun K30 j5 => .seq (fun K31 m2 => .region ?_))))
  obtain rfl := d4
  have hPS : PathS xs ys n ps := .of hCh hPi (by rw [show ps.length = k by omega]; exact hPx)
  refine .mv rfl (.nil (m2 _ _ (.block ?_)))
  refine .loopF (σ := Nat × List Pth) [7] (fun (i, q4) => [(11, some (.int .i64 (i : Int)))]) (fun (i, q4) H' => St [l] HL2 H' ∧ H'.get l = some (.row (pcells q4) 127 true) ∧ (i ≤ 44 ∧ q4.length = ps.length) ∧ PathS xs ys n q4 ∧ PthOk H.next 2 ((n : Int) - 1) H' q4) (fun (i, q4) => 60 - i) ((1, ps)) rfl (.p rfl) ?_ ?_
  ·
   refine ⟨.refl _ _, by assumption, ?_⟩
   exact ⟨⟨by omega, by omega⟩, hPS, hP⟩
  rintro ⟨i, q4⟩ HL4 ⟨v, d, hI⟩ KL4 e0
  dsimp only [cA, nA]
  replace c5 := c5.st v (fun k hk => ⟨by omega, trivial⟩)
  obtain ⟨⟨o4, hpl⟩, hPS, hP⟩ := hI
  refine .seq (fun K32 j8 => .seq (fun K33 j6 => .region (.mv rfl (.mv rfl (.q rfl (.len sl_124_Yi rfl) (.q rfl (.cmp rfl rfl rfl) (.nil (j6 _ _ ?_))))))))
  refine .cond rfl ?_ ?_ <;> intro i8
  ·
   simp only [sps] at i8
   refine .skip (j8 _ _ (.seq (fun K34 i3 => .block (.seq (fun K35 j4 => .region (.mv rfl (.mv rfl (.nil (j4 _ _ (.block ?_))))))))))
   refine .loopF (σ := Nat × List Pth) [7, 11] (fun (z, qs) => [(12, some (.int .i64 (z : Int)))]) (fun (z, qs) H' => St [l] HL4 H' ∧ H'.get l = some (.row (pcells qs) 127 true) ∧ (z < qs.length ∧ qs.length = ps.length) ∧ PathS xs ys n qs ∧ PthOk H.next 2 ((n : Int) - 1) H' qs) (fun (z, qs) => z) ((i, q4)) rfl (.p rfl) ?_ ?_
   ·
    refine ⟨.refl _ _, by assumption, ?_⟩
    exact ⟨⟨by omega, by omega⟩, hPS, hP⟩
   rintro ⟨z, qs⟩ HL5 ⟨m, d, hI⟩ KL5 g3
   dsimp only [cA, nA]
   have _ := m.nx
   replace v := v.sQ m
   have e3 := GHeap.ltg d
   have rk := St.refl [l] HL5
   obtain ⟨⟨hz, hql⟩, hPS, hP⟩ := hI
   have b9 := d
   refine .seq (fun K36 m0 => .seq (fun K37 i6 => ?_))
   refine .regionD mo_B (.qs [0, 1, 2, 3, 4, 5, 6, 7, 8, 9, 10, 11] (.c 12 0 (.q 13 (.done)))) (by kernel_rfl) ?_
   refine .mv rfl rfl (.q rfl (.cmp rfl rfl rfl) (.mv rfl rfl ?_))
   refine .split (fun g8 => ?_) (fun g8 => ?_)
   ·
    simp only [sps] at g8
    obtain ⟨w, rfl⟩ : ∃ w, z = w + 1 := ⟨z - 1, by omega⟩
    have sA := pcells_slA d
    rw [hql] at sA
    have mz := pcells_mem d (i := w + 1) (by omega)
    have mw := pcells_mem d (i := w) (by omega)
    have l7 := hP.at (i := w + 1) (by omega)
    have k5 := hP.at (i := w) (by omega)
    refine .qg rfl (.move rfl) (.qg rfl (.move rfl) ?_)
    refine .qg rfl (.idx sl_124_Yi (by assumption) (by omega) rfl rfl (by omega) (by omega) rfl) ?_
    refine .qg rfl (.loadM ag_127_Yi rfl (by assumption)) ?_
    refine .qg rfl (.move rfl) (.qg rfl (.move rfl) ?_)
    refine .qg rfl (.sub (r := (w : Int)) rfl rfl (by omega) (by omega) (by omega)) ?_
    refine .qg rfl (.idx sl_124_Yi (by assumption) (by omega) rfl rfl (by omega) (by omega) rfl) ?_
    refine .qg rfl (.loadM ag_127_Yi rfl (by assumption)) ?_
    refine .call0g rfl rfl rfl rfl rfl rfl rfl @Try.call134 rfl (l03Before_c (Ints.of_get l7.2.2.2.2) (Ints.of_get k5.2.2.2.2) (by omega)) ?_
    rintro _ _ ⟨a7, _, rfl⟩
    have _ := a7.1
    replace v := v.le a7
    replace m := m.le a7
    replace rk := rk.le a7
    replace d := a7.2 _ _ d
    refine .q rfl (.pickT rfl rfl) (.done (i6 _ _ ?_))
    refine .cond rfl ?_ ?_ <;> intro n1
    ·
     refine .skip (m0 _ _ (.seq (fun K38 j0 => .block (.seq (fun K39 l6 => .region ?_)))))
     have mz := pcells_mem d (i := w + 1) (by omega)
     have sA := pcells_slA d
     rw [hql] at sA
     refine .mv rfl (.mv rfl ?_)
     refine .q rfl (.idx sl_124_Yi (by assumption) (by omega) rfl rfl (by omega) (by omega) rfl) ?_
     refine .q rfl (.loadM ag_127_Yi rfl (by assumption)) ?_
     refine .R rfl (.allocR rfl ze_127_Yi rfl) ?_
     rintro _ _ ⟨h8, rfl, d1, _, _⟩
     replace m := m.le d1
     replace rk := rk.le d1
     replace d := d1.2 _ _ d
     refine .r0 rfl rfl (.fillA rfl sz_127_Dg rfl rfl rfl rfl) ?_
     rintro _ _ ⟨rfl, a3, a0⟩
     replace m := m.sA a3
     replace rk := rk.sA a3
     have o : NE l h8 := .a
     replace d := a3.s d o.ne
     refine .nil (l6 _ _ (.seq (fun K40 k8 => .region ?_)))
     have mw := pcells_mem d (i := w) (by omega)
     have sA := pcells_slA d
     rw [hql] at sA
     refine .mv rfl (.mv rfl (.mv rfl (.mv rfl ?_)))
     refine .q rfl (.sub (r := (w : Int)) rfl rfl (by omega) (by omega) (by omega)) ?_
     refine .q rfl (.idx sl_124_Yi (by assumption) (by omega) rfl rfl (by omega) (by omega) rfl) ?_
     refine .q rfl (.loadM ag_127_Yi rfl (by assumption)) ?_
     refine .q rfl (.idx sl_124_Yi (by assumption) (by omega) rfl rfl (by omega) (by omega) rfl) ?_
     refine .r0 rfl rfl (.storeNR rfl sz_127_Dg rfl rfl rfl rfl (by assumption) (by rw [pcells_len]; simp; omega)) ?_
     rintro _ c4 ⟨rfl, a1, a2⟩
     replace m := m.sQ a1
     replace rk := rk.sQ a1
     replace a0 := a1.s a0 (Ne.symm o.ne)
     obtain ⟨q5, g4, g5, n9⟩ : ∃ q5, q5 = qs.set (w + 1) (qs.getD w pz) ∧ q5.length = qs.length ∧ PthOk H.next 2 ((n : Int) - 1) c4 q5 := ⟨_, rfl, by simp, (hP.keep (rk.lasts1 b9 rfl)).set (by omega)⟩
     replace a2 : GHeap.get c4 l = some (.row (pcells q5) 127 true) := by
       have hx := a2
       simp only [Int.toNat_natCast, Nat.zero_add] at hx
       rw [g4, ← pcells_set _ (by omega)]
       exact hx
     have sA := pcells_slA a2
     rw [g5, hql] at sA
     refine .nil (k8 _ _ (.region (.mv rfl (.mv rfl ?_))))
     refine .q rfl (.sub (r := (w : Int)) rfl rfl (by omega) (by omega) (by omega)) ?_
     refine .q rfl (.loadM ag_127_Yi rfl ⟨rfl, Mem.of_get a0⟩) ?_
     refine .q rfl (.idx sl_124_Yi (by assumption) (by omega) rfl rfl (by omega) (by omega) rfl) ?_
     refine .r0 rfl rfl (.storeNR rfl sz_127_Dg rfl rfl rfl rfl (by assumption) (by rw [pcells_len]; simp; omega)) ?_
     rintro _ c3 ⟨rfl, b2, a9⟩
     replace m := m.sQ b2
     replace rk := rk.sQ b2
     obtain ⟨q6, h7, p0, k4⟩ : ∃ q6, q6 = q5.set w (qs.getD (w + 1) pz) ∧ q6.length = qs.length ∧ PthOk H.next 2 ((n : Int) - 1) c3 q6 := ⟨_, rfl, by simp; omega, fun p hp => by
       rcases List.mem_or_eq_of_mem_set hp with h | rfl
       · have h9 := (hP.keep (rk.lasts1 b9 rfl)).set (i := w + 1) (j := w) (by omega) p (by rw [← g4]; exact h)
         rw [List.length_set] at h9 ⊢
         rw [g5]
         exact h9
       · have h9 := (hP.keep (rk.lasts1 b9 rfl)).at (i := w + 1) (by omega)
         rw [List.length_set, g5]
         exact h9⟩
     replace a9 : GHeap.get c3 l = some (.row (pcells q6) 127 true) := by
       have hx := a9
       simp only [Int.toNat_natCast, Nat.zero_add] at hx
       rw [h7, ← pcells_set _ (by omega)]
       exact hx
     refine .nil (j0 _ _ (.region (.mv rfl ?_)))
     refine .q rfl (.sub (r := (w : Int)) rfl rfl (by omega) (by omega) (by omega)) ?_
     refine .mv rfl (.nil ?_)
     refine g3 ((w, q6)) _ _ ?_ ?_ (.p rfl)
     ·
      refine ⟨m, by assumption, ?_⟩
      exact ⟨⟨by omega, by omega⟩, hPS.mem (by rw [h7, g4]; exact mem_swap (by omega)), k4⟩
     (dsimp only; omega)
    refine .exit (i3 _ _ (.region (.mv rfl (.q rfl (.aD rfl rfl rfl) (.mv rfl (.nil ?_))))))
    refine e0 ((i + 1, qs)) _ _ ?_ ?_ (.p rfl)
    ·
     refine ⟨v, by assumption, ?_⟩
     exact ⟨⟨by omega, by omega⟩, hPS, by first | exact hP | exact hP.keep (.of_le (by assumption))⟩
    (dsimp only; omega)
   refine .z rfl (.z rfl (.z rfl (.z rfl (.z rfl (.z rfl (.z rfl (.z rfl (.z rfl (.sgc rfl rfl rfl rfl rfl rfl (.q rfl (.pickF rfl rfl) (.done (i6 _ _ ?_))))))))))))
   refine .condF rfl ?_
   refine .exit (i3 _ _ (.region (.mv rfl (.q rfl (.aD rfl rfl rfl) (.mv rfl (.nil ?_))))))
   refine e0 ((i + 1, qs)) _ _ ?_ ?_ (.p rfl)
   ·
    refine ⟨v, by assumption, ?_⟩
    exact ⟨⟨by omega, by omega⟩, hPS, by first | exact hP | exact hP.keep (.of_le (by assumption))⟩
   (dsimp only; omega)
  refine .exit (j5 _ _ (.seq (fun K41 k0 => .region (.mv rfl (.mv rfl (.nil (k0 _ _ (.ret (i2 _ _ (⟨_, rfl, ?_⟩))))))))))
  exact ⟨c5, l, q4, by rw [‹q4.length = _›], by omega, by assumption, hP, by omega, hPS⟩
end Go.Proofs.Ytfanjkbaemhbmaa
namespace Go.Proofs.Ytfanjkbaemhbmaa
open Go Go.GL Go.RowKit Go.Proofs
set_option maxHeartbeats 8000000 in
theorem l03PathsG_c {a b : Option Addr} {xs ys : List Int} {n : Nat} {H : GHeap} (ha : Ints H a xs := by assumption) (hb : Ints H b ys := by assumption) (hl : ys.length = xs.length) (hx : xs.length ≤ 3) (hn : n ≤ 3) (hy : Bd 0 ((n : Int) - 1) ys) (hup : ∀ e, e < xs.length → xs.getD e 0 < ys.getD e 0) :
    GCalls Try.prog 121 [.int .i64 (n : Int), .slice a xs.length xs.length, .slice b ys.length ys.length] H (NewGd 2 24 18 n H) := by
  refine GCalls.body (N := 147) (rs := [.cell 6 27]) Try.func121 rfl rfl rfl rfl (fun Qx n0 hend => ?_)
  refine .fg [0, 1, 2] rfl ?_
  have a9 := GHeap.Le.refl H
  have g1 := ha
  have h0 := hb
  refine .seq (fun K1 p6 => .region ?_)
  refine .R rfl (.allocR rfl ze_27_I rfl) ?_
  rintro _ H6 ⟨g6, rfl, p7, _, c5⟩
  replace a9 := a9.trans p7
  have _ := GHeap.ltg c5
  replace ha := g1.mono a9
  replace hb := h0.mono a9
  refine .nil (p6 _ _ (.seq (fun K2 q2 => .region (.mv rfl (.mv rfl (.mv rfl ?_))))))
  refine .call rfl rfl rfl rfl @Try.call130 rfl (l03AllG_c ha hb hl hx hn hy hup) ?_
  rintro _ o1 ⟨k0, gP, ps, rfl, _, aP, p5, _, hPS⟩
  have hK : PthK _ _ _ o1 ps := ⟨p5⟩
  replace a9 := a9.trans k0
  replace c5 := k0.2 _ _ c5
  have _ := GHeap.ltg aP
  have e7 := hK
  have m : Keep H6.next o1 o1 := fun _ _ _ h => h
  refine .mv rfl (.nil (q2 _ _ (.seq (fun K3 q4 => .region (.mv rfl ?_)))))
  refine .R rfl (.litA rfl sl_24_A ze_2_L rfl rfl rfl rfl) ?_
  rintro _ q5 ⟨h7, rfl, g7, _, a7⟩
  replace a9 := a9.trans g7
  replace c5 := g7.2 _ _ c5
  replace aP := g7.2 _ _ aP
  replace m := Keep.le m g7
  have _ := GHeap.ltg a7
  replace a7 : GHeap.get q5 h7 = some (.row (ints []) 2 true) := a7
  refine .R rfl (.litA rfl sl_24_A ze_2_L rfl rfl rfl rfl) ?_
  rintro _ q7 ⟨i2, rfl, f7, _, b2⟩
  replace a9 := a9.trans f7
  replace c5 := f7.2 _ _ c5
  replace aP := f7.2 _ _ aP
  replace a7 := f7.2 _ _ a7
  replace m := Keep.le m f7
  have _ := GHeap.ltg b2
  replace b2 : GHeap.get q7 i2 = some (.row (ints []) 2 true) := b2
  refine .mv rfl ?_
  refine .R rfl (.makeI rfl sl_24_A ze_2_L by_2_L rfl rfl (by omega) (by omega) (by omega) (by omega)) ?_
  rintro _ _ ⟨d6, rfl, e6, _, e0⟩
  have _ := e6.1
  replace a9 := a9.trans e6
  replace c5 := e6.2 _ _ c5
  replace aP := e6.2 _ _ aP
  replace a7 := e6.2 _ _ a7
  replace b2 := e6.2 _ _ b2
  replace m := Keep.le m e6
  have _ := GHeap.ltg e0
  simp only [Int.toNat_natCast] at e0
  refine .R rfl (.litA rfl sl_25_B ze_24_Hj rfl rfl rfl rfl) ?_
  rintro _ _ ⟨f5, rfl, e4, _, d7⟩
  replace a9 := a9.trans e4
  replace c5 := e4.2 _ _ c5
  replace aP := e4.2 _ _ aP
  replace a7 := e4.2 _ _ a7
  replace b2 := e4.2 _ _ b2
  replace e0 := e4.2 _ _ e0
  replace m := Keep.le m e4
  have _ := GHeap.ltg d7
  refine .q rfl (.build bt_27_Hj rfl rfl rfl) ?_
  refine .R rfl (.allocR rfl ze_27_I rfl) ?_
  rintro _ _ ⟨g8, rfl, g2, _, _⟩
  have _ := g2.1
  replace a9 := a9.trans g2
  replace c5 := g2.2 _ _ c5
  replace aP := g2.2 _ _ aP
  replace a7 := g2.2 _ _ a7
  replace b2 := g2.2 _ _ b2
  replace e0 := g2.2 _ _ e0
  replace d7 := g2.2 _ _ d7
  replace m := Keep.le m g2
  refine .r0 rfl rfl (.fillA rfl sz_27_D rfl rfl rfl rfl) ?_
  rintro _ f9 ⟨rfl, w, _⟩
  have _ := w.nx
  replace a9 := a9.st w (fun k hk => ⟨by omega, trivial⟩)
  have a4 : NE g6 g8 := .a
  replace c5 := w.s c5 a4.ne
  have a1 : NE gP g8 := .a
  replace aP := w.s aP a1.ne
  replace a7 := w.s a7
  replace b2 := w.s b2
  replace e0 := w.s e0
  have b9 : NE f5 g8 := .a
  replace d7 := w.s d7 b9.ne
  replace m := Keep.st m w (fun k hb hk => ⟨(by omega), trivial⟩)
  refine .nil (q4 _ _ (.seq (fun K4 q1 => .seq (fun K5 r1 => .region (.mv rfl (.nil (r1 _ _ (.block ?_))))))))
  refine .loopF (σ := Nat × List Int × List Int × List Int × Nat × Nat) [6, 7, 8] (fun (i, ss, ts, is, gLF, gLT) => [(9, some (.int .i64 (i : Int)))]) (fun (i, ss, ts, is, gLF, gLT) H' => St [h7, i2, d6, g8] f9 H' ∧ H'.get gLF = some (.row (ints ss) 2 true) ∧ PL gLF h7 f9.next ∧ H'.get gLT = some (.row (ints ts) 2 true) ∧ PL gLT i2 f9.next ∧ H'.get d6 = some (.row (ints is) 2 true) ∧ H'.get g8 = some (.row ([.int .i64 (n : Int), .slice (some ⟨gLF, 0, none⟩) i i, .slice (some ⟨gLT, 0, none⟩) i i, .slice (some ⟨d6, 0, none⟩) n n, .slice (some ⟨f5, 0, none⟩) 0 0]) 27 true) ∧ gLF ≠ gLT ∧ gLF ≠ d6 ∧ gLF ≠ g8 ∧ gLT ≠ d6 ∧ gLT ≠ g8 ∧ d6 ≠ g8 ∧ (i ≤ ps.length ∧ ss.length = i ∧ ts.length = i ∧ is.length = n) ∧ (PEnd ps Pth.f ss ∧ PEnd ps Pth.t ts ∧ PIdx ps i is) ∧ Bd 0 ((n : Int) - 1) ss ∧ Bd 0 ((n : Int) - 1) ts ∧ Bd 0 18 is) (fun (i, ss, ts, is, gLF, gLT) => ps.length - i) ((0, [], [], List.replicate n 0, h7, i2)) rfl (.p rfl) ?_ ?_
  ·
   refine ⟨.refl _ _, by assumption, ⟨.inl rfl⟩, by assumption, ⟨.inl rfl⟩, by assumption, by assumption, by omega, by omega, by omega, by omega, by omega, by omega, ?_⟩
   exact ⟨⟨by omega, rfl, rfl, by simp⟩, ⟨.nil _ _, .nil _ _, .zero _ _⟩, .nil _ _, .nil _ _, .rep _ (by omega) (by omega)⟩
  rintro ⟨i, ss, ts, is, gLF, gLT⟩ HL1 ⟨u, a5, d1, r, c9, d, l, i8, j0, h5, k1, g0, e9, hI⟩ _ j4
  dsimp only [cA, nA]
  have _ : H.next ≤ gLF := d1.ge (by omega) (by omega)
  have _ : H.next ≤ gLT := c9.ge (by omega) (by omega)
  have _ := u.nx
  replace a9 := a9.st u (fun k hk => ⟨by omega, by omega, by omega, by omega, trivial⟩)
  have c6 : NE g6 h7 := .a
  have c3 : NE g6 i2 := .a
  have d0 : NE g6 d6 := .a
  replace c5 := u.same _ _ ⟨c6.ne, c3.ne, d0.ne, a4.ne, trivial⟩ c5
  have c8 : NE gP h7 := .a
  have c2 : NE gP i2 := .a
  replace aP := u.same _ _ ⟨c8.ne, c2.ne, (by first | assumption | omega), a1.ne, trivial⟩ aP
  have b5 : NE f5 h7 := .a
  have b3 : NE f5 i2 := .a
  have b7 : NE f5 d6 := .a
  replace d7 := u.same _ _ ⟨b5.ne, b3.ne, b7.ne, b9.ne, trivial⟩ d7
  replace m := Keep.st m u (fun k hb hk => ⟨(by omega), (by omega), (by omega), (by omega), trivial⟩)
  replace hK := e7.keep m (Nat.le_refl _)
  have _ := GHeap.ltg a5
  have _ := GHeap.ltg r
  have _ := GHeap.ltg d
  have f4 := GHeap.ltg l
  have hP := hK.ok
  obtain ⟨⟨_, hsl, htl, hil⟩, ⟨hSE, hTE, hIx⟩, hS, hT, hI⟩ := hI
  refine .seq (fun K6 q0 => .seq (fun K7 q6 => .region (.mv rfl (.mv rfl (.q rfl (.len sl_124_Yi rfl) (.q rfl (.cmp rfl rfl rfl) (.nil (q6 _ _ ?_))))))))
  refine .cond rfl ?_ ?_ <;> intro o9
  ·
   simp only [sps] at o9
   have l8 := (hP.at (i := i) (by omega)).1
   have p1 := (hP.at (i := i) (by omega)).2.1
   refine .skip (q0 _ _ (.seq (fun K8 o5 => .block (.seq (fun K9 q9 => ?_)))))
   refine .regionD mo_B (.qs [0, 1, 2, 3, 4, 5, 6] (.c 7 1 (.c 8 0 (.q 9 (.c 10 0 (.done)))))) (by kernel_rfl) ?_
   have sA := pcells_slA aP
   have mk := pcells_mem aP (i := i) (by omega)
   refine .q rfl (.fieldAddr fo_27_1_B rfl) ?_
   refine .q rfl (.load on_24_B rfl (by first | assumption | exact Mem.of_get l 1 _ rfl)) ?_
   refine .mv rfl rfl (.mv rfl rfl ?_)
   refine .q rfl (.idx sl_124_Yi (by assumption) (by omega) rfl rfl (by omega) (by omega) rfl) ?_
   refine .q rfl (.fieldAddr fo_127_0_Dg rfl) (.q rfl (.load on_2_A rfl (mk.2 0 _ rfl)) ?_)
   refine .c1 rfl rfl rfl rfl (.litA rfl sl_24_A ze_2_L rfl rfl rfl rfl) ?_
   rintro _ _ ⟨_, rfl, e5, _, l9⟩
   have j5 := e5
   refine ⟨j5, ?_⟩
   replace u := u.le e5
   replace aP := e5.2 _ _ aP
   replace a5 := e5.2 _ _ a5
   replace r := e5.2 _ _ r
   replace d := e5.2 _ _ d
   replace l := e5.2 _ _ l
   have _ := GHeap.ltg l9
   clear hP
   refine .c0 rfl rfl rfl rfl (.apI rfl sl_24_A ze_2_L rfl by_2_L sl_24_A rfl rfl) ?_
   rintro _ _ ⟨m3, rfl, f8, _, b4⟩
   replace u := u.sP f8
   replace aP := f8.same _ _ ⟨(d1.ne c8.ne (by omega)), trivial⟩ aP
   replace r := f8.same _ _ ⟨(Ne.symm i8), trivial⟩ r
   replace d := f8.same _ _ ⟨(Ne.symm j0), trivial⟩ d
   replace l := f8.same _ _ ⟨(Ne.symm h5), trivial⟩ l
   have _ := GHeap.ltg b4
   refine .q rfl (.fieldAddr fo_27_1_B rfl) ?_
   refine .r0 rfl rfl rfl (.storeR rfl sz_24_Ch rfl rfl rfl (by assumption) (by first | exact Nat.le_of_ble_eq_true rfl | (simp; done) | (simp <;> omega))) ?_
   rintro _ _ ⟨rfl, a6, a8⟩
   have _ := a6.nx
   replace u := u.sA a6
   replace aP := a6.s aP a1.ne
   replace r := a6.same _ _ ⟨g0, trivial⟩ r
   replace d := a6.same _ _ ⟨e9, trivial⟩ d
   have c4 : NE m3 g8 := .a
   replace b4 := a6.s b4 c4.ne
   try simp only [Nat.zero_add, List.set_cons_succ, List.set_cons_zero] at a8
   refine .done (q9 _ _ (.seq (fun K10 k4 => ?_)))
   refine .regionD mo_B (.qs [0, 1, 2, 3, 4, 5, 6] (.c 7 1 (.c 8 0 (.q 9 (.c 10 0 (.done)))))) (by kernel_rfl) ?_
   have sA := pcells_slA aP
   have mk := pcells_mem aP (i := i) (by omega)
   refine .q rfl (.fieldAddr fo_27_2_B rfl) ?_
   refine .q rfl (.load on_24_B rfl (by first | assumption | exact Mem.of_get a8 2 _ rfl)) ?_
   refine .mv rfl rfl (.mv rfl rfl ?_)
   refine .q rfl (.idx sl_124_Yi (by assumption) (by omega) rfl rfl (by omega) (by omega) rfl) ?_
   refine .q rfl (.fieldAddr fo_127_1_Dg rfl) (.q rfl (.load on_2_A rfl (mk.2 1 _ rfl)) ?_)
   refine .c1 rfl rfl rfl rfl (.litA rfl sl_24_A ze_2_L rfl rfl rfl rfl) ?_
   rintro _ _ ⟨_, rfl, e2, _, k5⟩
   have j5 := e2
   refine ⟨j5, ?_⟩
   replace u := u.le e2
   replace aP := e2.2 _ _ aP
   replace r := e2.2 _ _ r
   replace d := e2.2 _ _ d
   replace b4 := e2.2 _ _ b4
   replace a8 := e2.2 _ _ a8
   have _ := GHeap.ltg k5
   refine .c0 rfl rfl rfl rfl (.apI rfl sl_24_A ze_2_L rfl by_2_L sl_24_A rfl rfl) ?_
   rintro _ _ ⟨o7, rfl, f6, _, g9⟩
   replace u := u.sP f6
   replace aP := f6.same _ _ ⟨(c9.ne c2.ne (by omega)), trivial⟩ aP
   replace d := f6.same _ _ ⟨(Ne.symm k1), trivial⟩ d
   replace b4 := f6.s b4
   replace a8 := f6.same _ _ ⟨(Ne.symm g0), trivial⟩ a8
   refine .q rfl (.fieldAddr fo_27_2_B rfl) ?_
   refine .r0 rfl rfl rfl (.storeR rfl sz_24_Ch rfl rfl rfl (by assumption) (by first | exact Nat.le_of_ble_eq_true rfl | (simp; done) | (simp <;> omega))) ?_
   rintro _ _ ⟨rfl, b8, d4⟩
   replace u := u.sA b8
   replace aP := b8.s aP a1.ne
   replace d := b8.same _ _ ⟨e9, trivial⟩ d
   replace b4 := b8.s b4 c4.ne
   replace g9 := b8.s g9
   try simp only [Nat.zero_add, List.set_cons_succ, List.set_cons_zero] at d4
   refine .done (k4 _ _ (.seq (fun K11 l7 => .region ?_)))
   have sA := pcells_slA aP
   have mk := pcells_mem aP (i := i) (by omega)
   refine .mv rfl (.mv rfl ?_)
   refine .q rfl (.idx sl_124_Yi (by assumption) (by omega) rfl rfl (by omega) (by omega) rfl) ?_
   refine .q rfl (.fieldAddr fo_127_2_Dg rfl) (.q rfl (.load on_24_B rfl (mk.2 2 _ rfl)) (.q rfl (.len sl_24_A rfl) (.q rfl (.cmp rfl rfl rfl) (.nil (l7 _ _ ?_)))))
   refine .cond rfl ?_ ?_ <;> intro k7
   ·
    simp only [sps] at k7
    obtain ⟨i9, j9, q3, k6⟩ : ∃ i9, i9 = is.set (ps.getD i pz).f.toNat (i : Int) ∧ i9.length = is.length ∧ Bd 0 18 i9 := ⟨_, rfl, by simp, bd_iff.2 fun x hx => by
      rcases List.mem_or_eq_of_mem_set hx with h | rfl
      · exact bd_iff.1 hI x h
      · omega⟩
    have l0 : PIdx ps (i + 1) i9 := by rw [j9]; exact hIx.put (List.eq_nil_of_length_eq_zero (by omega)) l8.1
    refine .regionD mo_B (.qs [0, 1, 2, 3, 4, 5, 6, 7, 8] (.c 9 0 (.done))) (by kernel_rfl) ?_
    refine .q rfl (.fieldAddr fo_27_3_B rfl) ?_
    refine .q rfl (.load on_24_B rfl (by first | assumption | exact Mem.of_get d4 3 _ rfl)) ?_
    refine .mv rfl rfl (.mv rfl rfl ?_)
    refine .q rfl (.idx sl_124_Yi (by assumption) (by omega) rfl rfl (by omega) (by omega) rfl) ?_
    refine .q rfl (.fieldAddr fo_127_0_Dg rfl) (.q rfl (.load on_2_A rfl (mk.2 0 _ rfl)) (.mv rfl rfl ?_))
    refine .q rfl (.idx1 sl_24_A (by first | assumption | exact SlA.of_row d (by first | rfl | (simp; done) | (simp <;> omega))) rfl rfl (by omega) (by omega)) ?_
    refine .r0 rfl rfl rfl (.storeI rfl sz_2_N rfl rfl (by assumption) (by first | omega | (simp <;> omega))) ?_
    rintro _ _ ⟨rfl, d5, h9⟩
    replace u := u.sA d5
    replace b4 := d5.s b4
    replace g9 := d5.s g9
    replace d4 := d5.same _ _ ⟨(Ne.symm e9), trivial⟩ d4
    rw [Nat.zero_add] at h9
    refine .done (o5 _ _ (.region (.mv rfl (.q rfl (.aD rfl rfl rfl) (.mv rfl (.nil ?_))))))
    refine j4 ((i + 1, ss ++ [(ps.getD i pz).f], ts ++ [(ps.getD i pz).t], i9, m3, o7)) _ _ ?_ ?_ (.p rfl)
    ·
     refine ⟨u, by assumption, by exact ⟨.inr (by omega)⟩, by assumption, by exact ⟨.inr (by omega)⟩, by (rw [j9]; assumption), by assumption, by omega, by omega, by omega, by omega, by omega, by assumption, ?_⟩
     exact ⟨⟨by omega, by simp; omega, by simp; omega, by omega⟩, ⟨hSE.snoc hsl, hTE.snoc htl, l0⟩, hS.snoc l8.1 (by omega), hT.snoc p1.1 (by omega), k6⟩
    (dsimp only; omega)
   simp only [sps] at k7
   obtain ⟨i9, j9, q3, k6⟩ : ∃ i9, i9 = is ∧ i9.length = is.length ∧ Bd 0 18 i9 := ⟨_, rfl, rfl, hI⟩
   have l0 : PIdx ps (i + 1) i9 := by rw [j9]; exact hIx.skip fun e => k7 (by rw [e]; rfl)
   refine .skip (o5 _ _ (.region (.mv rfl (.q rfl (.aD rfl rfl rfl) (.mv rfl (.nil ?_))))))
   refine j4 ((i + 1, ss ++ [(ps.getD i pz).f], ts ++ [(ps.getD i pz).t], i9, m3, o7)) _ _ ?_ ?_ (.p rfl)
   ·
    refine ⟨u, by assumption, by exact ⟨.inr (by omega)⟩, by assumption, by exact ⟨.inr (by omega)⟩, by (rw [j9]; assumption), by assumption, by omega, by omega, by omega, by omega, by omega, by assumption, ?_⟩
    exact ⟨⟨by omega, by simp; omega, by simp; omega, by omega⟩, ⟨hSE.snoc hsl, hTE.snoc htl, l0⟩, hS.snoc l8.1 (by omega), hT.snoc p1.1 (by omega), k6⟩
   (dsimp only; omega)
  try simp only [sps] at o9
  refine .exit (q1 _ _ (.seq (fun K12 m6 => .seq (fun K13 o2 => .region ?_))))
  have p8 : gLF ≠ d6 := d1.ne' (by omega) (by omega)
  have q8 : gLT ≠ d6 := c9.ne' (by omega) (by omega)
  have m4 : (Cat.mk (n : Int) ss ts is []).In HL1 (ownP gLF gLT d6 f5 fun _ => none) := (OwnCat.catR (b := H.next) ⟨a5, r, d, d7, by omega, by omega, by omega, by omega, by omega, by omega, by omega, .nil _ _ _ _, fun _ h => by simp at h, fun _ h => by simp at h, fun _ h => by simp at h⟩).inn
  refine .q rfl (.loadM ag_27_D rfl ⟨rfl, Mem.of_get l⟩) ?_
  refine .callQ rfl rfl rfl rfl @Try.call105 rfl ((by have hh := l02Fits_c (c := Cat.mk (n : Int) ss ts is []) (p := ownP gLF gLT d6 f5 fun _ => none) m4; simp only [Cat.cells, ownP, hsl, htl, hil, List.length_nil] at hh; exact hh)) ?_
  refine .q rfl (.not rfl) (.nil (o2 _ _ ?_))
  refine .cond rfl ?_ ?_ <;> intro o3
  ·
   exact absurd o3 (by simp [B]; omega)
  try simp only [sps] at o3
  refine .skip (m6 _ _ (.seq (fun K14 n2 => .seq (fun K15 n7 => .region ?_))))
  obtain rfl : i = ps.length := by omega
  refine .mv rfl (.nil (n7 _ _ (.block ?_)))
  refine .loopF (σ := Nat × (Nat → Option Addr) × List (List Int) × Nat) [6, 7, 8] (fun (f, rr, cs, gLC) => [(10, some (.int .i64 (f : Int)))]) (fun (f, rr, cs, gLC) H' => St [f5, g8] HL1 H' ∧ H'.get gLC = some (.row ((slsL rr cs)) 24 true) ∧ PL gLC f5 HL1.next ∧ H'.get g8 = some (.row ([.int .i64 (n : Int), .slice (some ⟨gLF, 0, none⟩) ps.length ps.length, .slice (some ⟨gLT, 0, none⟩) ps.length ps.length, .slice (some ⟨d6, 0, none⟩) n n, .slice (some ⟨gLC, 0, none⟩) f f]) 27 true) ∧ gLC ≠ g8 ∧ (f ≤ ps.length ∧ cs.length = f) ∧ Tb (-1) 18 ps.length cs ∧ CellsT ss ts cs ∧ OwnL H.next H' 2 rr cs ∧ (∀ j, j < cs.length → rr j ≠ some ⟨gLF, 0, none⟩) ∧ (∀ j, j < cs.length → rr j ≠ some ⟨gLT, 0, none⟩) ∧ ∀ j, j < cs.length → rr j ≠ some ⟨d6, 0, none⟩) (fun (f, rr, cs, gLC) => ps.length - f) ((0, fun _ => none, [], f5)) rfl (.p rfl) ?_ ?_
  ·
   refine ⟨.refl _ _, by assumption, ⟨.inl rfl⟩, by assumption, by omega, ?_⟩
   exact ⟨⟨by omega, rfl⟩, .nil _ _ _, .nil _ _, .nil _ _ _ _, fun _ h => by simp at h, fun _ h => by simp at h, fun _ h => by simp at h⟩
  rintro ⟨f, rr, cs, gLC⟩ HL2 ⟨a0, a2, h4, l, k2, hI⟩ _ n8
  dsimp only [cA, nA]
  have _ : H.next ≤ gLC := h4.ge (by omega) (by omega)
  have _ := a0.nx
  replace a9 := a9.st a0 (fun k hk => ⟨by omega, by omega, trivial⟩)
  have d2 : NE g6 f5 := .a
  replace c5 := a0.same _ _ ⟨d2.ne, a4.ne, trivial⟩ c5
  replace aP := a0.same _ _ ⟨(by first | assumption | omega), a1.ne, trivial⟩ aP
  replace a5 := a0.same _ _ ⟨(Ne.symm (d1.ne b5.ne (by omega))), h5, trivial⟩ a5
  replace r := a0.same _ _ ⟨(Ne.symm (c9.ne b3.ne (by omega))), g0, trivial⟩ r
  replace d := a0.same _ _ ⟨(Ne.symm b7.ne), e9, trivial⟩ d
  replace m := Keep.st m a0 (fun k hb hk => ⟨(by omega), (by omega), trivial⟩)
  have _ := GHeap.ltg a2
  have f4 := GHeap.ltg l
  have rk := St.refl [gLC, g8] HL2
  obtain ⟨⟨hf, hcl⟩, hC, hCT, hR, p3, p2, p4⟩ := hI
  have hatC := a2
  have k8 := l
  have _ : (slsL rr cs).length = cs.length := length_slsL _ _
  refine .seq (fun K16 l3 => .seq (fun K17 l6 => .region (.mv rfl (.mv rfl (.q rfl (.len sl_124_Yi rfl) (.q rfl (.cmp rfl rfl rfl) (.nil (l6 _ _ ?_))))))))
  refine .cond rfl ?_ ?_ <;> intro o4
  ·
   simp only [sps] at o4
   refine .skip (l3 _ _ (.seq (fun K18 m5 => .block (.seq (fun K19 n6 => .region ?_)))))
   refine .R rfl (.litA rfl sl_24_A ze_2_L rfl rfl rfl rfl) ?_
   rintro _ m8 ⟨k3, rfl, e3, _, i3⟩
   have _ := e3.1
   replace a0 := a0.le e3
   replace rk := rk.le e3
   replace aP := e3.2 _ _ aP
   replace a2 := e3.2 _ _ a2
   replace l := e3.2 _ _ l
   replace m := Keep.le m e3
   have _ := GHeap.ltg i3
   replace i3 : GHeap.get m8 k3 = some (.row (ints []) 2 true) := i3
   refine .mv rfl (.nil (n6 _ _ (.seq (fun K20 m7 => .seq (fun K21 o0 => .region (.mv rfl (.nil (o0 _ _ (.block ?_)))))))))
   refine .loopF (σ := Nat × List Int × Nat × Nat) [6, 7, 8, 10] (fun (g, row, b0, f3) => [(12, some (.int .i64 (g : Int))), (11, some (.slice (some ⟨b0, 0, none⟩) f3 f3))]) (fun (g, row, b0, f3) H' => St [k3] m8 H' ∧ H'.get b0 = some (.row (ints row) 2 true) ∧ PL b0 k3 m8.next ∧ f3 = row.length ∧ (g ≤ ps.length ∧ row.length = g) ∧ CellsR ss ts f row ∧ Bd (-1) 18 row) (fun (g, row, b0, f3) => ps.length - g) ((0, [], _, _)) rfl (.p rfl) ?_ ?_
   ·
    refine ⟨.refl _ _, by assumption, ⟨.inl rfl⟩, by rfl, ?_⟩
    exact ⟨⟨by omega, rfl⟩, .nil _ _ _, .nil _ _⟩
   rintro ⟨g, row, b0, f3⟩ _ ⟨v, o, a3, i0, hI⟩ _ j8
   dsimp only [cA, nA]
   have _ : H.next ≤ b0 := a3.ge (by omega) (by omega)
   have _ := v.nx
   replace a0 := a0.sA v
   replace rk := rk.sA v
   replace aP := v.s aP
   have b6 : NE gLC k3 := .a
   replace a2 := v.s a2 b6.ne
   have c7 : NE g8 k3 := .a
   replace l := v.s l c7.ne
   replace m := Keep.st m v (fun k hb hk => ⟨(by omega), trivial⟩)
   replace hK := e7.keep m (Nat.le_refl _)
   have _ := GHeap.ltg o
   have hP := hK.ok
   obtain ⟨⟨_, hrl⟩, hCR, hW⟩ := hI
   refine .seq (fun K22 n4 => .seq (fun K23 m9 => .region (.mv rfl (.mv rfl (.q rfl (.len sl_124_Yi rfl) (.q rfl (.cmp rfl rfl rfl) (.nil (m9 _ _ ?_))))))))
   refine .cond rfl ?_ ?_ <;> intro o8
   ·
    simp only [sps] at o8
    refine .skip (n4 _ _ (.seq (fun K24 j2 => .block (.seq (fun K25 m2 => .region (.mv rfl (.nil (m2 _ _ (.seq (fun K26 j3 => .seq (fun K27 l4 => ?_)))))))))))
    refine .regionD mo_B (.qs [0, 1, 2, 3, 4, 5, 6, 7, 8, 9, 10] (.done)) (by kernel_rfl) ?_
    have sA := pcells_slA aP
    have mf := pcells_mem aP (i := f) (by omega)
    have mg := pcells_mem aP (i := g) (by omega)
    refine .mv rfl rfl (.mv rfl rfl ?_)
    refine .q rfl (.idx sl_124_Yi (by assumption) (by omega) rfl rfl (by omega) (by omega) rfl) ?_
    refine .q rfl (.fieldAddr fo_127_1_Dg rfl) (.q rfl (.load on_2_A rfl (mf.2 1 _ rfl)) (.mv rfl rfl (.mv rfl rfl ?_)))
    refine .q rfl (.idx sl_124_Yi (by assumption) (by omega) rfl rfl (by omega) (by omega) rfl) ?_
    refine .q rfl (.fieldAddr fo_127_0_Dg rfl) (.q rfl (.load on_2_A rfl (mg.2 0 _ rfl)) (.q rfl (.cmp rfl rfl rfl) (.done (l4 _ _ ?_))))
    refine .cond rfl ?_ ?_ <;> intro i4
    ·
     simp only [sps] at i4
     refine .seq (fun K28 l5 => ?_)
     refine .regionD mo_B (.qs [0, 1, 2, 3, 4, 6, 7, 8, 9, 10] (.c 5 1 (.c 11 0 (.q 12 (.done))))) (by kernel_rfl) ?_
     have pf := hP.at (i := f) (by omega)
     have _ := hP.at (i := g) (by omega)
     refine .mv rfl rfl (.mv rfl rfl ?_)
     refine .q rfl (.idx sl_124_Yi (by assumption) (by omega) rfl rfl (by omega) (by omega) rfl) ?_
     refine .q rfl (.fieldAddr fo_127_2_Dg rfl) (.q rfl (.load on_24_B rfl (mf.2 2 _ rfl)) (.mv rfl rfl (.mv rfl rfl ?_)))
     refine .q rfl (.idx sl_124_Yi (by assumption) (by omega) rfl rfl (by omega) (by omega) rfl) ?_
     refine .q rfl (.fieldAddr fo_127_2_Dg rfl) (.q rfl (.load on_24_B rfl (mg.2 2 _ rfl)) ?_)
     refine .call1 rfl rfl rfl rfl rfl @Try.call108 rfl (l01Own_c (Ints.of_get pf.2.2.2.2)) ?_
     rintro _ _ ⟨d8, _, rfl, j1, _⟩
     have j5 := d8
     refine ⟨j5, ?_⟩
     replace v := v.le d8
     replace aP := d8.2 _ _ aP
     replace o := d8.2 _ _ o
     replace m := Keep.le m d8
     replace hK := e7.keep m (Nat.le_refl _)
     have _ := GHeap.ltg j1
     clear hP
     have hP := hK.ok
     have _ := Ints.of_get (hP.at (i := g) (by omega)).2.2.2.2
     refine .c0 rfl rfl rfl rfl (.appendL rfl sl_24_A ze_2_L rfl by_2_L sl_24_A rfl rfl (by assumption) (by first | assumption | exact Ints.of_get (by assumption)) (by first | omega | (simp <;> omega)) (by omega) (by omega)) ?_
     rintro _ m0 ⟨_, rfl, f1, _, h1⟩
     replace v := v.sA f1
     replace aP := f1.s aP
     replace o := f1.s o
     replace m := Keep.st m f1 (fun k hb hk => ⟨(by omega), trivial⟩)
     replace hK := e7.keep m (Nat.le_refl _)
     have _ := GHeap.ltg h1
     clear hP
     have hP := hK.ok
     refine .mv rfl rfl (.done (l5 _ _ (.seq (fun K29 m1 => .region (.mv rfl (.nil (m1 _ _ (.block ?_))))))))
     refine .loopF (σ := Nat × Int) [6, 7, 8, 10, 11, 12, 14] (fun (k, h3) => [(15, some (.int .i64 (k : Int))), (13, some (.int .i64 h3))]) (fun (k, h3) H' => m0 = H' ∧ k ≤ ps.length ∧ PLast ps (ps.getD f pz).f ((ps.getD f pz).e ++ (ps.getD g pz).e) k h3) (fun (k, h3) => ps.length - k) ((0, -1)) rfl (.p rfl) ?_ ?_
     ·
      refine ⟨rfl, ?_⟩
      exact ⟨by omega, .zero _ _ _⟩
     rintro ⟨k, h3⟩ _ ⟨rfl, hI⟩ _ i1
     dsimp only [cA, nA]
     obtain ⟨hk, hPL⟩ := hI
     have n3 : -1 ≤ h3 ∧ h3 ≤ 18 := by have := hPL.bd; omega
     refine .seq (fun K30 l2 => .seq (fun K31 n5 => .region (.mv rfl (.mv rfl (.q rfl (.len sl_124_Yi rfl) (.q rfl (.cmp rfl rfl rfl) (.nil (n5 _ _ ?_))))))))
     refine .cond rfl ?_ ?_ <;> intro j7
     ·
      simp only [sps] at j7
      refine .skip (l2 _ _ (.seq (fun K32 h8 => .block (.seq (fun K33 i5 => ?_)))))
      refine .regionD mo_B (.qs [0, 1, 2, 3, 4, 5, 6, 7, 8, 9, 10, 11, 12, 13, 14, 15, 16, 17] (.c 18 0 (.q 19 (.done)))) (by kernel_rfl) ?_
      have sA := pcells_slA aP
      have mk := pcells_mem aP (i := k) (by omega)
      have mf := pcells_mem aP (i := f) (by omega)
      have pk := hP.at (i := k) (by omega)
      refine .mv rfl rfl (.mv rfl rfl ?_)
      refine .q rfl (.idx sl_124_Yi (by assumption) (by omega) rfl rfl (by omega) (by omega) rfl) ?_
      refine .q rfl (.fieldAddr fo_127_0_Dg rfl) (.q rfl (.load on_2_A rfl (mk.2 0 _ rfl)) (.mv rfl rfl (.mv rfl rfl ?_)))
      refine .q rfl (.idx sl_124_Yi (by assumption) (by omega) rfl rfl (by omega) (by omega) rfl) ?_
      refine .q rfl (.fieldAddr fo_127_0_Dg rfl) (.q rfl (.load on_2_A rfl (mf.2 0 _ rfl)) (.q rfl (.cmp rfl rfl rfl) (.mv rfl rfl ?_)))
      refine .split (fun d3 => ?_) (fun d3 => ?_)
      ·
       simp only [sps] at d3
       refine .qg rfl (.move rfl) (.qg rfl (.move rfl) ?_)
       refine .qg rfl (.idx sl_124_Yi (by assumption) (by omega) rfl rfl (by omega) (by omega) rfl) ?_
       refine .qg rfl (.fieldAddr fo_127_2_Dg rfl) (.qg rfl (.load on_24_B rfl (mk.2 2 _ rfl)) (.qg rfl (.move rfl) ?_))
       refine .callQ0g rfl rfl rfl rfl rfl rfl rfl @Try.call131 rfl ((by have hh := l01Same_c (h := Ints.of_get pk.2.2.2.2) (h' := Ints.of_get h1) (hy := by rw [List.length_append]; omega); rw [List.length_append] at hh; exact hh)) ?_
       refine .q rfl (.pickT rfl rfl) (.done (i5 _ _ ?_))
       refine .cond rfl ?_ ?_ <;> intro d9
       ·
        simp only [sps] at d9
        refine .region (.mv rfl (.mv rfl (.nil (h8 _ _ (.region (.mv rfl (.q rfl (.aD rfl rfl rfl) (.mv rfl (.nil ?_)))))))))
        refine i1 ((k + 1, _)) _ _ ?_ ?_ (.p rfl)
        ·
         refine ⟨rfl, ?_⟩
         first
         | exact ⟨by omega, .put d3 d9⟩
         | exact ⟨by omega, hPL.skip fun hh => d9 hh.2⟩
         | exact ⟨by omega, hPL.skip fun hh => d3 hh.1⟩
        (dsimp only; omega)
       simp only [sps] at d9
       refine .skip (h8 _ _ (.region (.mv rfl (.q rfl (.aD rfl rfl rfl) (.mv rfl (.nil ?_))))))
       refine i1 ((k + 1, _)) _ _ ?_ ?_ (.p rfl)
       ·
        refine ⟨rfl, ?_⟩
        first
        | exact ⟨by omega, .put d3 d9⟩
        | exact ⟨by omega, hPL.skip fun hh => d9 hh.2⟩
        | exact ⟨by omega, hPL.skip fun hh => d3 hh.1⟩
       (dsimp only; omega)
      simp only [sps] at d3
      refine .z rfl (.z rfl (.z rfl (.z rfl (.z rfl (.z rfl (.sgc rfl rfl rfl rfl rfl rfl (.q rfl (.pickF rfl rfl) (.done (i5 _ _ ?_)))))))))
      refine .condF rfl ?_
      refine .skip (h8 _ _ (.region (.mv rfl (.q rfl (.aD rfl rfl rfl) (.mv rfl (.nil ?_))))))
      refine i1 ((k + 1, _)) _ _ ?_ ?_ (.p rfl)
      ·
       refine ⟨rfl, ?_⟩
       first
       | exact ⟨by omega, .put d3 d9⟩
       | exact ⟨by omega, hPL.skip fun hh => d9 hh.2⟩
       | exact ⟨by omega, hPL.skip fun hh => d3 hh.1⟩
      (dsimp only; omega)
     try simp only [sps] at j7
     refine .exit (j3 _ _ (.region (.mv rfl (.mv rfl ?_))))
     refine .R rfl (.litA rfl sl_24_A ze_2_L rfl rfl rfl rfl) ?_
     rintro _ _ ⟨_, rfl, h6, _, j6⟩
     replace v := v.le h6
     replace o := h6.2 _ _ o
     have _ := GHeap.ltg j6
     clear hP
     refine .R rfl (.apI rfl sl_24_A ze_2_L rfl by_2_L sl_24_A rfl rfl) ?_
     rintro _ _ ⟨_, rfl, i7, _, _⟩
     replace v := v.sP i7
     refine .mv rfl (.nil (j2 _ _ (.region (.mv rfl (.q rfl (.aD rfl rfl rfl) (.mv rfl (.nil ?_)))))))
     refine j8 ((g + 1, row ++ [h3], _, _)) _ _ ?_ ?_ (.p rfl)
     ·
      refine ⟨v, by assumption, by exact ⟨.inr (by omega)⟩, by (simp only [List.length_append, List.length_cons, List.length_nil] <;> omega), ?_⟩
      have k9 : CellV ss ts f g h3 := by
        first
          | exact p0
          | exact path_cell hPS hSE hTE hsl htl (by omega) (by omega) i4 ((show k = ps.length by omega) ▸ hPL)
      exact ⟨⟨by omega, by simp; omega⟩, hCR.snoc (by rw [hrl]; exact k9), hW.snoc (by omega) (by omega)⟩
     (dsimp only; omega)
    simp only [sps] at i4
    obtain ⟨h3, o6, n3⟩ : ∃ h3 : Int, h3 = -1 ∧ -1 ≤ h3 ∧ h3 ≤ 18 := ⟨_, rfl, by omega, by omega⟩
    have p0 : CellV ss ts f g h3 := by rw [o6]; exact path_neg hSE hTE hsl htl (by omega) (by omega) i4
    refine .skip (j3 _ _ (.region (.mv rfl (.mv rfl ?_))))
    refine .R rfl (.litA rfl sl_24_A ze_2_L rfl rfl rfl rfl) ?_
    rintro _ _ ⟨_, rfl, e8, _, g5⟩
    replace v := v.le e8
    replace o := e8.2 _ _ o
    have _ := GHeap.ltg g5
    refine .R rfl (.apI rfl sl_24_A ze_2_L rfl by_2_L sl_24_A rfl rfl) ?_
    rintro _ _ ⟨_, rfl, g4, _, _⟩
    replace v := v.sP g4
    refine .mv rfl (.nil (j2 _ _ (.region (.mv rfl (.q rfl (.aD rfl rfl rfl) (.mv rfl (.nil ?_)))))))
    refine j8 ((g + 1, row ++ [h3], _, _)) _ _ ?_ ?_ (.p rfl)
    ·
     refine ⟨v, by (rw [o6]; assumption), by exact ⟨.inr (by omega)⟩, by (simp only [List.length_append, List.length_cons, List.length_nil] <;> omega), ?_⟩
     have k9 : CellV ss ts f g h3 := by
       first
         | exact p0
         | exact path_cell hPS hSE hTE hsl htl (by omega) (by omega) i4 ((show k = ps.length by omega) ▸ hPL)
     exact ⟨⟨by omega, by simp; omega⟩, hCR.snoc (by rw [hrl]; exact k9), hW.snoc (by omega) (by omega)⟩
    (dsimp only; omega)
   try simp only [sps] at o8
   refine .exit (m7 _ _ (.region ?_))
   obtain rfl : g = ps.length := by omega
   obtain rfl := i0
   refine .q rfl (.fieldAddr fo_27_4_B rfl) ?_
   refine .q rfl (.load on_25_B rfl (by first | assumption | exact Mem.of_get l 4 _ rfl)) ?_
   refine .mv rfl ?_
   refine .R rfl (.litA rfl sl_25_B ze_24_Hj rfl rfl rfl rfl) ?_
   rintro _ _ ⟨_, rfl, e1, _, i6⟩
   replace a0 := a0.le e1
   replace rk := rk.le e1
   replace a2 := e1.2 _ _ a2
   replace l := e1.2 _ _ l
   replace o := e1.2 _ _ o
   have _ := GHeap.ltg i6
   refine .R rfl (.appendV rfl sl_25_B ze_24_Hj rfl by_24_Hj sl_25_B rfl rfl (by assumption) (by assumption) (by first | omega | (simp <;> omega)) rfl rfl (by omega) (by omega)) ?_
   rintro _ _ ⟨n9, rfl, f2, _, h2⟩
   replace a0 := a0.sP f2
   replace rk := rk.sP f2
   replace l := f2.same _ _ ⟨(Ne.symm k2), trivial⟩ l
   replace o := f2.same _ _ ⟨(Ne.symm (a3.ne b6.ne (by omega))), trivial⟩ o
   refine .q rfl (.fieldAddr fo_27_4_B rfl) ?_
   refine .r0 rfl rfl (.storeR rfl sz_25_Ch rfl rfl rfl (by assumption) (by first | exact Nat.le_of_ble_eq_true rfl | (simp; done) | (simp <;> omega))) ?_
   rintro _ _ ⟨rfl, b1, g3⟩
   replace a0 := a0.sA b1
   replace rk := rk.sA b1
   replace o := b1.same _ _ ⟨(Ne.symm (a3.ne c7.ne (by omega))), trivial⟩ o
   replace h2 := b1.s h2
   try simp only [Nat.zero_add, List.set_cons_succ, List.set_cons_zero] at g3
   refine .nil (m5 _ _ (.region (.mv rfl (.q rfl (.aD rfl rfl rfl) (.mv rfl (.nil ?_))))))
   refine n8 ((f + 1, upd rr cs.length (some ⟨b0, 0, none⟩), cs ++ [row], n9)) _ _ ?_ ?_ (.p rfl)
   ·
    refine ⟨a0, by (rw [slsL_snoc]; assumption), by exact ⟨.inr (by omega)⟩, by assumption, by omega, ?_⟩
    have hR' := hR.st rk (.cons (hR.neT hatC rfl) (.cons (hR.neT k8 rfl) (.nil _ _)))
    have p9 := hR.ne (g := b0) (a3.ge (by omega) (by omega))
    have _ : b0 ≠ gLF := a3.ne' (by omega) (by omega)
    have _ : b0 ≠ gLT := a3.ne' (by omega) (by omega)
    have _ : b0 ≠ d6 := a3.ne' (by omega) (by omega)
    exact ⟨⟨by omega, by simp; omega⟩, hC.snoc (by omega) hW, hCT.snoc (by rw [hcl]; exact hCR), hR'.snoc2 (by assumption) p9 (by omega), ne_snoc p3 (by omega), ne_snoc p2 (by omega), ne_snoc p4 (by omega)⟩
   (dsimp only; omega)
  try simp only [sps] at o4
  refine .exit (n2 _ _ (.seq (fun K34 n1 => .region ?_)))
  refine .q rfl (.loadM ag_27_D rfl ⟨rfl, Mem.of_get l⟩) ?_
  refine .r0 rfl rfl (.fillA rfl sz_27_D rfl rfl rfl rfl) ?_
  rintro _ _ ⟨rfl, y, f0⟩
  replace a9 := a9.st y (fun k hk => ⟨by omega, trivial⟩)
  replace a5 := y.same _ _ ⟨(Ne.symm (d1.ne c6.ne (by omega))), trivial⟩ a5
  replace r := y.same _ _ ⟨(Ne.symm (c9.ne c3.ne (by omega))), trivial⟩ r
  replace d := y.s d (Ne.symm d0.ne)
  replace a2 := y.same _ _ ⟨(Ne.symm (h4.ne d2.ne (by omega))), trivial⟩ a2
  replace l := y.s l (Ne.symm a4.ne)
  have _ : MemN _ _ _ _ _ := ⟨rfl, Mem.of_get f0⟩
  refine .nil (n1 _ _ (.ret (n0 _ _ (⟨_, _, _, _, rfl, ag_27_D, (by rfl), (Mem.of_get f0), ?_⟩))))
  obtain rfl : f = ps.length := by omega
  have p8 : gLF ≠ d6 := d1.ne' (by omega) (by omega)
  have q8 : gLT ≠ d6 := c9.ne' (by omega) (by omega)
  have l1 := c5
  have hR' := hR.st y (.cons (hR.neT l1 rfl) (.nil _ _))
  exact ⟨⟨n, ss, ts, is, cs⟩, ⟨⟨rect_mk (by omega) (by omega) (by omega) (hS.mono (by omega) (by omega)) (hT.mono (by omega) (by omega)) (by omega) (hI.mono (by omega) (by omega)) (by omega) (by rw [hsl]; exact hC.mono (by omega) (by omega)), .mk' (by omega) hS hT (by omega) (path_ids hPS hSE hTE hsl htl hil hIx) (by omega) (fun f hf => by rw [(hC f hf).1, hsl]) hCT⟩, rfl⟩, a9, gLF, gLT, d6, gLC, rr, by simp [Cat.cells, ownP, hsl, htl, hil, hcl], ⟨a5, r, d, a2, by omega, by omega, by omega, by omega, by omega, by omega, by omega, hR', p3, p2, p4⟩⟩
end Go.Proofs.Ytfanjkbaemhbmaa
