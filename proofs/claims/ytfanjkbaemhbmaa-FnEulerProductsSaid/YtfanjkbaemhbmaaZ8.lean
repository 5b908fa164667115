/- Small parts of collages, and the sum of two categories. No condition but those of each statement. -/
import Derived.Test.YtfanjkbaemhbmaaZ7
namespace Go.Proofs.Ytfanjkbaemhbmaa
open Go Go.GL Go.RowKit Go.Proofs
theorem sz_2_Cg : (Try.prog.info? 2).map (·.size) = some 1 := by kernel_rfl
theorem repeated_c {x n : Int} {H : GHeap} (h0 : 0 ≤ n := by omega) (hn : n ≤ 1048576 := by omega) :
    GCalls Try.prog 72 [.int .i64 x, .int .i64 n] H (NewInts 2 H ((List.range n.toNat).map fun _ => x)) := by
  refine GCalls.body (N := 20) (rs := [.tmp 4]) Try.func72 rfl rfl rfl rfl (fun Qx h hend => ?_)
  refine .fg [0, 1] rfl ?_
  have f := GHeap.Le.refl H
  refine .seq (fun K1 w => .region (.mv rfl (.nil (w _ _ (.seq (fun K2 s => .region (.mv rfl ?_)))))))
  refine .R rfl (.makeI rfl sl_24_A ze_2_Pa by_2_Pa rfl rfl (by omega) (by omega) (by omega) (by omega)) ?_
  rintro _ H8 ⟨g8, rfl, u, ge8, j⟩
  replace f := f.trans u
  have lt_at8 := GHeap.ltg j
  refine .mv rfl (.nil (s _ _ (.seq (fun K3 v => .seq (fun K4 o => .region (.mv rfl (.q rfl (.len sl_24_A rfl) (.mv rfl (.nil (o _ _ ?_))))))))))
  refine .block ?_
  refine .loopR (σ := Nat) [(0, some _), (5, some _), (10, some _)] (fun k => [(11, some (.int .i64 (k : Int)))]) (fun k H' => St [g8] H8 H' ∧ H'.get g8 = some (.row (ints (fillI (fun _ => x) n.toNat k)) 2 true) ∧ k ≤ n.toNat) (fun k => n.toNat - k) (0) ⟨rfl, rfl, rfl, trivial⟩ ⟨rfl, trivial⟩ ?_ ?_
  ·
   refine ⟨.refl _ _, by (rw [fillI_zero]; simpa using j), ?_⟩
   omega
  rintro k HL1 ⟨e, a, hI⟩ KL1 i
  refine .forget (fr' := [(11, some (.int .i64 (k : Int))), (0, some _), (5, some _), (10, some _)]) ⟨rfl, rfl, rfl, rfl, trivial⟩ ?_
  replace f := f.st e (fun k hk => ⟨by omega, trivial⟩)
  have lt_at_L5 := GHeap.ltg a
  refine .seq (fun K5 r => .region (.q rfl (.cmp rfl rfl rfl) (.nil (r _ _ (.seq (fun K6 p => ?_))))))
  refine .cond rfl (fun g => ?_) (fun g => ?_)
  ·
   simp only [sps] at g
   refine .skip ?_
   refine p _ _ (.seq (fun K7 l => ?_))
   refine .block ?_
   refine .seq (fun K8 m => .region (.mv rfl (.mv rfl (.nil (m _ _ (.region (.mv rfl (.mv rfl (.mv rfl ?_)))))))))
   refine .q rfl (.idxN sl_24_A (by first | assumption | exact SlA.of_row a (by first | rfl | (simp; done) | (simp <;> omega))) rfl rfl (by omega)) ?_
   refine .r0 rfl rfl (.storeI rfl sz_2_Cg rfl rfl (by assumption) (by first | omega | (simp <;> omega))) ?_
   rintro _ H5004 ⟨rfl, d, b⟩
   replace f := f.st d (fun k hk => ⟨by omega, trivial⟩)
   replace e := e.sA d
   have lt_at5004 := GHeap.ltg b
   refine .nil (l _ _ (.region ?_))
   refine .q rfl (.add rfl rfl rfl (by omega) (by omega)) ?_
   refine .mv rfl (.nil ?_)
   refine i (k + 1) _ _ ?_ ?_ ⟨rfl, rfl, rfl, rfl, trivial⟩
   ·
    refine ⟨e, by (rw [← fillI_set (c := fun _ => x) (by omega) rfl]; simpa using b), ?_⟩
    omega
   omega
  try simp only [sps] at g
  refine .exit ?_
  refine v _ _ (.seq (fun K9 t => .region (.mv rfl (.mv rfl (.nil (t _ _ ?_))))))
  refine .ret ?_
  refine h _ _ ?_
  refine ⟨_, rfl, ?_⟩
  obtain rfl : k = n.toNat := by omega
  rw [fillI_all] at a
  exact ⟨f, _, by simp, a, by omega⟩
theorem l02Fits_c {c : Cat} {p : CatP} {H : GHeap} (hin : c.In H p := by assumption) :
    GCalls Try.prog 105 [.agg (c.cells p).toArray] H (Ret (.bool (B (c.obj ≤ 8 ∧ c.src.length ≤ 40))) H) := by
  refine GCalls.ret rfl ?_
  refine GCalls.body (N := 12) (rs := [.tmp 2]) Try.func105 rfl rfl rfl rfl (fun Qx b hend => ?_)
  refine .fg [0] rfl ?_
  have d := GHeap.Le.refl H
  have a := hin
  refine .seq (fun K1 h => .region ?_)
  refine .R rfl (.boxR rfl sz_27_D rfl) ?_
  rintro _ H1 ⟨g1, rfl, i, ge1, e⟩
  replace d := d.trans i
  replace hin := a.mono d
  have g : Cat.At _ g1 0 c p := ⟨Mem.of_get e, hin⟩
  obtain ⟨c01, c11, -, -, -, -, -, -, -⟩ := g.get
  refine .mv rfl (.nil (h _ _ (.seq (fun K2 f => .region (.q rfl (.fieldAddr fo_27_0_B rfl) ?_)))))
  refine .q rfl (.load on_2_A rfl (by first | assumption | exact Mem.of_get e 0 _ rfl)) ?_
  refine .q rfl (.cmp rfl rfl rfl) (.mv rfl ?_)
  refine .split (fun h6 => ?_) (fun h6 => ?_)
  ·
   try simp only [sps] at h6
   refine .qg rfl (.fieldAddr fo_27_1_B rfl) ?_
   refine .qg rfl (.load on_24_B rfl (by first | assumption | exact Mem.of_get e 1 _ rfl)) ?_
   refine .qg rfl (.len sl_24_A rfl) (.qg rfl (.cmp rfl rfl rfl) (.q rfl (.pickT rfl rfl) (.mv rfl (.nil (f _ _ ?_)))))
   refine .ret ?_
   refine b _ _ ?_
   refine ⟨_, rfl, ?_⟩
   exact ⟨congrArg _ (by unfold B; first | (rw [decide_eq_decide]; omega) | (rw [decide_eq_false_iff_not]; omega)), d⟩
  try simp only [sps] at h6
  refine .z rfl (.z rfl (.z rfl (.z rfl (.q rfl (.pickF rfl rfl) (.mv rfl (.nil (f _ _ ?_)))))))
  refine .ret ?_
  refine b _ _ ?_
  refine ⟨_, rfl, ?_⟩
  exact ⟨congrArg _ (by unfold B; first | (rw [decide_eq_decide]; omega) | (rw [decide_eq_false_iff_not]; omega)), d⟩
set_option maxHeartbeats 4000000 in
theorem l01Own2O_c {a : Option Addr} {pss : List (List Int)} {r : Nat → Option Addr} {H : GHeap} (h : Intss H a pss r := by assumption) (hl : pss.length ≤ 1048576 := by omega) (hl2 : ∀ i, (pss.getD i []).length ≤ 1048576) :
    GCalls Try.prog 109 [.slice a pss.length pss.length] H (fun v H' => H.Le H' ∧ ∃ g rr, v = .slice (some ⟨g, 0, none⟩) pss.length pss.length ∧ H'.get g = some (.row (slsL rr pss) 24 true) ∧ H.next ≤ g ∧ OwnL H.next H' 2 rr pss) := by
  refine GCalls.body (N := 21) (rs := [.tmp 2]) Try.func109 rfl rfl rfl rfl (fun Qx u hend => ?_)
  refine .fg [0] rfl ?_
  have p := GHeap.Le.refl H
  have o := h
  refine .seq (fun K1 a9 => .region (.mv rfl (.nil (a9 _ _ (.seq (fun K2 a6 => .region ?_))))))
  refine .R rfl (.litA rfl sl_25_B ze_24_Hj rfl rfl rfl rfl) ?_
  rintro _ H5 ⟨g5, rfl, a7, ge5, t⟩
  replace p := p.trans a7
  have lt_at5 := GHeap.ltg t
  refine .mv rfl (.nil (a6 _ _ (.seq (fun K3 a8 => .seq (fun K4 a2 => .region (.mv rfl (.nil (a2 _ _ ?_))))))))
  refine .block ?_
  refine .loopR (σ := Nat × (Nat → Option Addr) × Nat × Nat) [(0, some _)] (fun (i, rr, d, l) => [(4, some (.int .i64 (i : Int))), (3, some (.slice (some ⟨d, 0, none⟩) l l))]) (fun (i, rr, d, l) H' => St [g5] H5 H' ∧ H'.get d = some (.row ((slsL rr (pss.take i))) 24 true) ∧ (d = g5 ∨ H5.next ≤ d) ∧ l = (slsL rr (pss.take i)).length ∧ i ≤ pss.length ∧ OwnL H.next H' 2 rr (pss.take i)) (fun (i, rr, d, l) => pss.length - i) ((0, fun _ => none, _, _)) ⟨rfl, trivial⟩ ⟨rfl, rfl, trivial⟩ ?_ ?_
  ·
   refine ⟨.refl _ _, by first | assumption | exact t | simpa using t, .inl rfl, by first | rfl | assumption | simp | omega, ?_⟩
   exact ⟨by omega, .nil _ _ _ _⟩
  rintro ⟨i, rr, d, l⟩ HL1 ⟨c, b, pl_L3, j, hI⟩ KL1 w
  refine .forget (fr' := [(4, some (.int .i64 (i : Int))), (3, some (.slice (some ⟨d, 0, none⟩) l l)), (0, some _)]) ⟨rfl, rfl, rfl, trivial⟩ ?_
  have ge_L3 : H.next ≤ d := by omega
  have nx_HL1 := c.nx
  replace p := p.st c (fun k hk => ⟨by omega, trivial⟩)
  have lt_at_L3 := GHeap.ltg b
  replace h := o.mono p
  have rk := St.refl [d] HL1
  obtain ⟨hi, hR⟩ := hI
  have z := b
  have htk : (pss.take i).length = i := by rw [List.length_take]; omega
  have hfl : (slsL rr (pss.take i)).length = (pss.take i).length := length_slsL _ _
  have hli := hl2 i
  refine .seq (fun K5 a5 => .seq (fun K6 a3 => .region (.mv rfl (.mv rfl (.q rfl (.len sl_25_B rfl) (.q rfl (.cmp rfl rfl rfl) (.nil (a3 _ _ ?_))))))))
  refine .cond rfl (fun h9 => ?_) (fun h9 => ?_)
  ·
   simp only [sps] at h9
   have u1 := h.2 i (by omega)
   refine .skip ?_
   refine a5 _ _ (.seq (fun K7 a0 => ?_))
   refine .block ?_
   refine .region (.mv rfl (.mv rfl (.mv rfl ?_)))
   refine .q rfl (.idxN sl_25_B (Intss.sl (by assumption)) rfl rfl (by omega)) ?_
   refine .q rfl (.loadR on_24_B (by assumption) rfl (by omega)) ?_
   refine .call rfl rfl rfl rfl @Try.call108 rfl (l01Own_c) ?_
   rintro _ H17 ⟨n, a4, rfl, e, ge17⟩
   replace c := c.le n
   replace rk := rk.le n
   replace b := n.2 _ _ b
   have lt_at17 := GHeap.ltg e
   clear u1
   refine .R rfl (.litA rfl sl_25_B ze_24_Hj rfl rfl rfl rfl) ?_
   rintro _ H18 ⟨g18, rfl, f, ge18, y⟩
   replace c := c.le f
   replace rk := rk.le f
   replace b := f.2 _ _ b
   replace e := f.2 _ _ e
   have lt_at18 := GHeap.ltg y
   refine .R rfl (.appendV rfl sl_25_B ze_24_Hj rfl by_24_Hj sl_25_B rfl rfl (by assumption) (by assumption) (by first | omega | (simp <;> omega)) rfl rfl (by omega) (by omega)) ?_
   rintro _ H19 ⟨g19, rfl, m, ge19, at19⟩
   replace c := c.sA m
   replace rk := rk.sA m
   replace e := m.s e
   refine .mv rfl (.nil (a0 _ _ (.region (.mv rfl ?_))))
   refine .q rfl (.add rfl rfl rfl (by omega) (by omega)) ?_
   refine .mv rfl (.nil ?_)
   refine w ((i + 1, upd rr (pss.take i).length (some ⟨a4, 0, none⟩), _, _)) _ _ ?_ ?_ ⟨rfl, rfl, rfl, trivial⟩
   ·
    refine ⟨c, by first | assumption | (rw [take_snocZ (by omega), slsL_snoc]; assumption), by omega, by first | omega | (simp only [List.length_append, List.length_cons, List.length_nil] <;> omega) | (rw [take_snocZ (by omega), slsL_snoc] <;> (first | omega | (simp only [List.length_append, List.length_cons, List.length_nil] <;> omega))), ?_⟩
    exact ⟨by omega, by rw [take_snocZ (by omega)]; exact hR.snoc (x := pss.getD i []) (rk.lasts1 z rfl) (by assumption) (by omega) (by omega)⟩
   (dsimp only; omega)
  try simp only [sps] at h9
  refine .exit ?_
  refine a8 _ _ (.seq (fun K8 a1 => .region (.mv rfl (.mv rfl (.nil (a1 _ _ ?_))))))
  refine .ret ?_
  refine u _ _ ?_
  refine ⟨_, rfl, ?_⟩
  obtain rfl : i = pss.length := by omega
  rw [List.take_length] at hR b j
  exact ⟨p, d, rr, by rw [j, length_slsL], b, by omega, hR⟩
set_option maxHeartbeats 4000000 in
theorem l02OwnO_c {c : Cat} {p : CatP} {H : GHeap} (hin : c.In H p := by assumption) (hs : c.Small := by assumption) :
    GCalls Try.prog 83 [.agg (c.cells p).toArray] H (NewCatO 2 24 H c) := by
  obtain ⟨n1, n2, n3, n4, n5, -⟩ := hs
  refine GCalls.body (N := 18) (rs := [.cell 2 27]) Try.func83 rfl rfl rfl rfl (fun Qx y hend => ?_)
  refine .fg [0] rfl ?_
  have e := GHeap.Le.refl H
  have a := hin
  refine .seq (fun K1 b4 => .region ?_)
  refine .R rfl (.boxR rfl sz_27_D rfl) ?_
  rintro _ H1 ⟨g1, rfl, a2, ge1, d⟩
  replace e := e.trans a2
  have lt_at1 := GHeap.ltg d
  replace hin := a.mono e
  have g : Cat.At _ g1 0 c p := ⟨Mem.of_get d, hin⟩
  refine .R rfl (.allocR rfl ze_27_Hj rfl) ?_
  rintro _ H2 ⟨g2, rfl, a0, ge2, r⟩
  replace e := e.trans a0
  replace d := a0.2 _ _ d
  have lt_at2 := GHeap.ltg r
  replace hin := a.mono e
  clear g
  have g : Cat.At _ g1 0 c p := ⟨Mem.of_get d, hin⟩
  obtain ⟨b5, b1, a3, a1, a7, b3, -, -, -⟩ := g.get
  refine .nil (b4 _ _ (.seq (fun K2 a5 => ?_)))
  refine .regionD mo_B (.q 0 (.q 1 (.q 2 (.q 3 (.q 5 (.q 6 (.q 8 (.q 9 (.q 11 (.q 12 (.c 4 1 (.c 7 1 (.c 10 1 (.c 13 1 (.q 14 (.c 15 0 (.done))))))))))))))))) (by kernel_rfl) ?_
  refine .q rfl (.fieldAddr fo_27_0_B rfl) ?_
  refine .q rfl (.load on_2_A rfl (by first | assumption | exact Mem.of_get d 0 _ rfl)) ?_
  refine .q rfl (.fieldAddr fo_27_1_B rfl) ?_
  refine .q rfl (.load on_24_B rfl (by first | assumption | exact Mem.of_get d 1 _ rfl)) ?_
  refine .q rfl (.fieldAddr fo_27_2_B rfl) ?_
  refine .q rfl (.load on_24_B rfl (by first | assumption | exact Mem.of_get d 2 _ rfl)) ?_
  refine .q rfl (.fieldAddr fo_27_3_B rfl) ?_
  refine .q rfl (.load on_24_B rfl (by first | assumption | exact Mem.of_get d 3 _ rfl)) ?_
  refine .q rfl (.fieldAddr fo_27_4_B rfl) ?_
  refine .q rfl (.load on_25_B rfl (by first | assumption | exact Mem.of_get d 4 _ rfl)) ?_
  refine .call1 rfl rfl rfl rfl rfl @Try.call108 rfl (l01Own_c) ?_
  rintro _ H7 ⟨w, g7, rfl, o, ge7⟩
  have l := w
  refine ⟨l, ?_⟩
  replace e := e.trans w
  replace d := w.2 _ _ d
  replace r := w.2 _ _ r
  have lt_at7 := GHeap.ltg o
  replace hin := a.mono e
  clear g b5 b1 a3 a1 a7 b3
  have g : Cat.At _ g1 0 c p := ⟨Mem.of_get d, hin⟩
  obtain ⟨-, -, -, -, -, -, a8, -, -⟩ := g.get
  refine .call1 rfl rfl rfl rfl rfl @Try.call108 rfl (l01Own_c) ?_
  rintro _ H10 ⟨n, a6, rfl, f, ge10⟩
  replace l := l.trans n
  refine ⟨l, ?_⟩
  replace e := e.trans n
  replace d := n.2 _ _ d
  replace r := n.2 _ _ r
  replace o := n.2 _ _ o
  have lt_at10 := GHeap.ltg f
  replace hin := a.mono e
  clear g a8
  have g : Cat.At _ g1 0 c p := ⟨Mem.of_get d, hin⟩
  obtain ⟨-, -, -, -, -, -, -, a9, -⟩ := g.get
  refine .call1 rfl rfl rfl rfl rfl @Try.call108 rfl (l01Own_c) ?_
  rintro _ H13 ⟨h, a4, rfl, j, ge13⟩
  replace l := l.trans h
  refine ⟨l, ?_⟩
  have nx_H13 := h.1
  replace e := e.trans h
  replace d := h.2 _ _ d
  replace r := h.2 _ _ r
  replace o := h.2 _ _ o
  replace f := h.2 _ _ f
  have lt_at13 := GHeap.ltg j
  replace hin := a.mono e
  clear g a9
  have g : Cat.At _ g1 0 c p := ⟨Mem.of_get d, hin⟩
  obtain ⟨-, -, -, -, -, -, -, -, b2⟩ := g.get
  refine .call1 rfl rfl rfl rfl rfl @Try.call109 rfl (l01Own2O_c (hl2 := n5)) ?_
  rintro _ H16 ⟨i, b0, z, rfl, u, ge16, v⟩
  replace l := l.trans i
  refine ⟨l, ?_⟩
  replace e := e.trans i
  replace d := i.2 _ _ d
  replace r := i.2 _ _ r
  replace o := i.2 _ _ o
  replace f := i.2 _ _ f
  replace j := i.2 _ _ j
  replace hin := a.mono e
  clear g b2
  have g : Cat.At _ g1 0 c p := ⟨Mem.of_get d, hin⟩
  refine .m rfl rfl rfl rfl l (.build bt_27_Hj rfl rfl rfl) ?_
  have x := r
  refine .r0 rfl rfl rfl (.fillA rfl sz_27_D rfl rfl rfl rfl) ?_
  rintro _ H1015 ⟨rfl, b, t⟩
  replace e := e.st b (fun k hk => ⟨by omega, trivial⟩)
  replace d := b.s d
  replace o := b.s o
  replace f := b.s f
  replace j := b.s j
  replace u := b.s u
  replace hin := a.mono e
  clear g
  have g : Cat.At _ g1 0 c p := ⟨Mem.of_get d, hin⟩
  refine .done ?_
  refine a5 _ _ ?_
  refine .ret ?_
  refine y _ _ ?_
  refine ⟨_, _, _, _, rfl, ag_27_D, (by rfl), (Mem.of_get t), ?_⟩
  exact ⟨e, g7, a6, a4, b0, z, rfl, o, f, j, u, by omega, by omega, by omega, by omega, by omega, by omega, by omega, (v.st b (.cons (v.neT x rfl) (.nil _ _))).low (by omega), v.lowNe (by omega), v.lowNe (by omega), v.lowNe (by omega)⟩
end Go.Proofs.Ytfanjkbaemhbmaa
namespace Go.Proofs.Ytfanjkbaemhbmaa
open Go Go.GL Go.RowKit Go.Proofs
theorem sz_24_Ch : (Try.prog.info? 24).map (·.size) = some 1 := by kernel_rfl
theorem sz_25_Ch : (Try.prog.info? 25).map (·.size) = some 1 := by kernel_rfl
set_option maxHeartbeats 8000000 in
theorem l03Sum_c {c d : Cat} {p q : CatP} {N : Nat} {H : GHeap} (hin : c.In H p := by assumption) (hin1 : d.In H q := by assumption) (hc : c.Rect N) (hd : d.Rect N) (hN : N ≤ 100000) :
    GCalls Try.prog 103 [.agg (c.cells p).toArray, .agg (d.cells q).toArray] H (NewCatO 2 24 H (c.sum d)) := by
  obtain ⟨a1, a2, a3, -, -, a6, -, a8, a9, -⟩ := id hc
  obtain ⟨b1, b2, b3, b4, b5, b6, b7, b8, b9, y0⟩ := id hd
  refine GCalls.body (N := 142) (rs := [.cell 4 27]) Try.func103 rfl rfl rfl rfl (fun Qx s1 hend => ?_)
  refine .fg [0, 1] rfl ?_
  have h := GHeap.Le.refl H
  have l := hin
  have b := hin1
  refine .seq (fun K1 y5 => .region ?_)
  refine .R rfl (.boxR rfl sz_27_D rfl) ?_
  rintro _ H2 ⟨g2, rfl, x6, ge2, d4⟩
  replace h := h.trans x6
  have lt_at2 := GHeap.ltg d4
  replace hin := l.mono h
  have h7 : Cat.At _ g2 0 c p := ⟨Mem.of_get d4, hin⟩
  refine .R rfl (.boxR rfl sz_27_D rfl) ?_
  rintro _ H3 ⟨g3, rfl, w5, ge3, d6⟩
  replace h := h.trans w5
  replace d4 := w5.2 _ _ d4
  have lt_at3 := GHeap.ltg d6
  replace hin := l.mono h
  replace hin1 := b.mono h
  clear h7
  have h7 : Cat.At _ g2 0 c p := ⟨Mem.of_get d4, hin⟩
  have r : Cat.At _ g3 0 d q := ⟨Mem.of_get d6, hin1⟩
  refine .R rfl (.allocR rfl ze_27_Hj rfl) ?_
  rintro _ H4 ⟨g4, rfl, r7, ge4, k6⟩
  have nx_H4 := r7.1
  replace h := h.trans r7
  replace d4 := r7.2 _ _ d4
  replace d6 := r7.2 _ _ d6
  have lt_at4 := GHeap.ltg k6
  replace hin := l.mono h
  replace hin1 := b.mono h
  clear h7
  have h7 : Cat.At _ g2 0 c p := ⟨Mem.of_get d4, hin⟩
  obtain ⟨x7, x1, -, -, -, -, -, -, -⟩ := h7.get
  have y8 := h7.2
  clear r
  have r : Cat.At _ g3 0 d q := ⟨Mem.of_get d6, hin1⟩
  refine .nil (y5 _ _ (.seq (fun K2 y7 => ?_)))
  refine .regionD mo_B (.q 0 (.q 1 (.q 2 (.q 3 (.q 4 (.q 5 (.q 6 (.done)))))))) (by kernel_rfl) ?_
  refine .q rfl (.fieldAddr fo_27_0_B rfl) ?_
  refine .q rfl (.load on_2_A rfl (by first | assumption | exact Mem.of_get d4 0 _ rfl)) ?_
  refine .q rfl (.fieldAddr fo_27_1_B rfl) ?_
  refine .q rfl (.load on_24_B rfl (by first | assumption | exact Mem.of_get d4 1 _ rfl)) ?_
  refine .q rfl (.len sl_24_A rfl) (.mv rfl rfl (.mv rfl rfl ?_))
  refine .done ?_
  refine y7 _ _ (.seq (fun K3 z0 => .region ?_))
  refine .q rfl (.loadM ag_27_D rfl ⟨rfl, Mem.of_get d4⟩) ?_
  refine .call rfl rfl rfl rfl @Try.call83 rfl (l02OwnO_c (hs := hc.small (by omega))) ?_
  rintro _ y1 ⟨m5, gF, gT, gI, gC, rr, rfl, j3⟩
  have aF := j3.a1
  have aT := j3.a2
  have aI := j3.a3
  have aC := j3.a4
  have bF := j3.b1
  have bT := j3.b2
  have bI := j3.b3
  have bC := j3.b4
  have n12 := j3.n12
  have w7 := j3.n13
  have w9 := j3.n23
  have n4 := row_ne aC aF rfl
  have n5 := row_ne aC aT rfl
  have n6 := row_ne aC aI rfl
  have rk := St.refl [gI] y1
  replace h := h.trans m5
  replace d4 := m5.2 _ _ d4
  replace d6 := m5.2 _ _ d6
  replace k6 := m5.2 _ _ k6
  have o6 := GHeap.ltg aF
  have lt_aT := GHeap.ltg aT
  have p9 := GHeap.ltg aI
  have lt_aC := GHeap.ltg aC
  replace hin := l.mono h
  replace hin1 := b.mono h
  clear h7 x7 x1 y8
  have h7 : Cat.At _ g2 0 c p := ⟨Mem.of_get d4, hin⟩
  clear r
  have r : Cat.At _ g3 0 d q := ⟨Mem.of_get d6, hin1⟩
  refine .R rfl (.allocR rfl ze_27_Hj rfl) ?_
  rintro _ H7 ⟨g7, rfl, l4, ge7, at7⟩
  have nx_H7 := l4.1
  replace h := h.trans l4
  replace rk := rk.le l4
  replace d4 := l4.2 _ _ d4
  replace d6 := l4.2 _ _ d6
  replace k6 := l4.2 _ _ k6
  replace aF := l4.2 _ _ aF
  replace aT := l4.2 _ _ aT
  replace aI := l4.2 _ _ aI
  replace aC := l4.2 _ _ aC
  replace hin := l.mono h
  replace hin1 := b.mono h
  clear h7
  have h7 : Cat.At _ g2 0 c p := ⟨Mem.of_get d4, hin⟩
  clear r
  have r : Cat.At _ g3 0 d q := ⟨Mem.of_get d6, hin1⟩
  refine .r0 rfl rfl (.fillA rfl sz_27_D rfl rfl rfl rfl) ?_
  rintro _ H2003 ⟨rfl, c2, at2003⟩
  have nx_H2003 := c2.nx
  replace h := h.st c2 (fun k hk => ⟨by omega, trivial⟩)
  replace rk := rk.sA c2
  have e3 : NE g2 g7 := .a
  replace d4 := c2.s d4 e3.ne
  have v : NE g3 g7 := .a
  replace d6 := c2.s d6 v.ne
  have c7 : NE g4 g7 := .a
  replace k6 := c2.s k6 c7.ne
  have f5 : NE gF g7 := .a
  replace aF := c2.s aF f5.ne
  have h4 : NE gT g7 := .a
  replace aT := c2.s aT h4.ne
  have i9 : NE gI g7 := .a
  replace aI := c2.s aI i9.ne
  have f7 : NE gC g7 := .a
  replace aC := c2.s aC f7.ne
  replace hin := l.mono h
  replace hin1 := b.mono h
  clear h7
  have h7 : Cat.At _ g2 0 c p := ⟨Mem.of_get d4, hin⟩
  clear r
  have r : Cat.At _ g3 0 d q := ⟨Mem.of_get d6, hin1⟩
  obtain ⟨l8, -, -, -, -, -, -, -, -⟩ := r.get
  refine .nil (z0 _ _ (.seq (fun K4 w8 => .region (.mv rfl (.q rfl (.fieldAddr fo_27_0_B rfl) ?_)))))
  refine .q rfl (.load on_2_A rfl (by first | assumption | exact Mem.of_get d6 0 _ rfl)) ?_
  refine .q rfl (.add rfl rfl rfl (by omega) (by omega)) ?_
  refine .q rfl (.fieldAddr fo_27_0_B rfl) ?_
  refine .r0 rfl rfl (.storeR rfl sz_2_Cg rfl rfl rfl (by assumption) (by first | exact Nat.le_of_ble_eq_true rfl | (simp; done) | (simp <;> omega))) ?_
  rintro _ n0 ⟨rfl, c4, l3⟩
  have nx_H3005 := c4.nx
  replace h := h.st c4 (fun k hk => ⟨by omega, trivial⟩)
  replace rk := rk.sA c4
  replace d4 := c4.s d4 e3.ne
  replace d6 := c4.s d6 v.ne
  replace k6 := c4.s k6 c7.ne
  replace aF := c4.s aF f5.ne
  replace aT := c4.s aT h4.ne
  replace aI := c4.s aI i9.ne
  replace aC := c4.s aC f7.ne
  have lt_at3005 := GHeap.ltg l3
  replace hin := l.mono h
  replace hin1 := b.mono h
  clear h7
  have h7 : Cat.At _ g2 0 c p := ⟨Mem.of_get d4, hin⟩
  clear r l8
  have r : Cat.At _ g3 0 d q := ⟨Mem.of_get d6, hin1⟩
  try simp only [Nat.zero_add, List.set_cons_succ, List.set_cons_zero] at l3
  refine .nil (w8 _ _ (.seq (fun K5 x0 => .seq (fun K6 x5 => .region (.mv rfl (.nil (x5 _ _ ?_)))))))
  refine .block ?_
  refine .loopR (σ := Nat × Nat) [(3, some _), (4, some _), (5, some _), (6, some _), (7, some _)] (fun (y, gLI) => [(8, some (.int .i64 (y : Int)))]) (fun (y, gLI) H' => St [gI, g7] n0 H' ∧ H'.get gLI = some (.row (ints (c.idn ++ (d.idn.take y).map (· + (c.src.length : Int)))) 2 true) ∧ PL gLI gI n0.next ∧ H'.get g7 = some (.row ([.int .i64 (c.obj + d.obj), .slice (some ⟨gF, 0, none⟩) c.src.length c.src.length, .slice (some ⟨gT, 0, none⟩) c.tgt.length c.tgt.length, .slice (some ⟨gLI, 0, none⟩) (c.idn.length + y) (c.idn.length + y), .slice (some ⟨gC, 0, none⟩) c.comp.length c.comp.length]) 27 true) ∧ gLI ≠ g7 ∧ (y : Int) ≤ d.obj) (fun (y, gLI) => (d.obj - y : Int).toNat) ((0, gI)) ⟨rfl, rfl, rfl, rfl, rfl, trivial⟩ ⟨rfl, trivial⟩ ?_ ?_
  ·
   refine ⟨.refl _ _, by simpa using aI, ⟨.inl rfl⟩, by assumption, by omega, ?_⟩
   omega
  rintro ⟨y, gLI⟩ HL1 ⟨d5, j4, i4, t, p7, hI⟩ KL1 t3
  refine .forget (fr' := [(8, some (.int .i64 (y : Int))), (3, some _), (4, some _), (5, some _), (6, some _), (7, some _)]) ⟨rfl, rfl, rfl, rfl, rfl, rfl, trivial⟩ ?_
  have q8 : H.next ≤ gLI := i4.ge (by omega) (by omega)
  have nx_HL1 := d5.nx
  replace h := h.st d5 (fun k hk => ⟨by omega, by omega, trivial⟩)
  replace rk := rk.st d5 (fun k hk ho => by simp only [out, and_true] at ho ⊢ <;> exact ⟨by first | exact ho | exact ho.1 | exact ho.2 | exact ho.2.1 | exact ho.2.2 | exact ho.2.2.1 | exact ho.2.2.2 | omega, by first | exact ho | exact ho.1 | exact ho.2 | exact ho.2.1 | exact ho.2.2 | exact ho.2.2.1 | exact ho.2.2.2 | omega⟩)
  have j0 : NE g2 gI := .a
  replace d4 := d5.same _ _ ⟨j0.ne, e3.ne, trivial⟩ d4
  have j1 : NE g3 gI := .a
  replace d6 := d5.same _ _ ⟨j1.ne, v.ne, trivial⟩ d6
  replace k6 := d5.same _ _ ⟨(by first | assumption | omega), c7.ne, trivial⟩ k6
  replace aF := d5.same _ _ ⟨(by first | assumption | omega), f5.ne, trivial⟩ aF
  replace aT := d5.same _ _ ⟨(by first | assumption | omega), h4.ne, trivial⟩ aT
  replace aC := d5.same _ _ ⟨(by first | assumption | omega), f7.ne, trivial⟩ aC
  have k5 := GHeap.ltg t
  replace hin := l.mono h
  replace hin1 := b.mono h
  clear h7
  have h7 : Cat.At _ g2 0 c p := ⟨Mem.of_get d4, hin⟩
  clear r
  have r : Cat.At _ g3 0 d q := ⟨Mem.of_get d6, hin1⟩
  obtain ⟨l8, -, -, o0, -, -, -, n7, -⟩ := r.get
  have hfl : (c.idn ++ (d.idn.take y).map (· + (c.src.length : Int))).length = c.idn.length + y := by simp; omega
  refine .seq (fun K7 y6 => .seq (fun K8 w6 => .region (.mv rfl (.q rfl (.fieldAddr fo_27_0_B rfl) ?_))))
  refine .q rfl (.load on_2_A rfl (by first | assumption | exact Mem.of_get d6 0 _ rfl)) ?_
  refine .q rfl (.cmp rfl rfl rfl) (.nil (w6 _ _ ?_))
  refine .cond rfl (fun t7 => ?_) (fun t7 => ?_)
  ·
   simp only [sps] at t7
   have r1 := b7 y (by omega)
   refine .skip ?_
   refine y6 _ _ (.seq (fun K9 x9 => ?_))
   refine .block ?_
   refine .regionD mo_B (.q 0 (.q 1 (.q 2 (.q 3 (.q 4 (.q 5 (.q 6 (.q 7 (.q 8 (.c 9 1 (.c 10 0 (.q 11 (.c 12 0 (.done)))))))))))))) (by kernel_rfl) ?_
   refine .q rfl (.fieldAddr fo_27_3_B rfl) ?_
   refine .q rfl (.load on_24_B rfl (by first | assumption | exact Mem.of_get t 3 _ rfl)) ?_
   refine .q rfl (.fieldAddr fo_27_3_B rfl) ?_
   refine .q rfl (.load on_24_B rfl (by first | assumption | exact Mem.of_get d6 3 _ rfl)) ?_
   refine .mv rfl rfl ?_
   refine .q rfl (.idxN sl_24_A (by assumption) rfl rfl (by omega)) ?_
   refine .q rfl (.loadI on_2_A (by assumption) rfl (by omega)) ?_
   refine .mv rfl rfl ?_
   refine .q rfl (.add rfl rfl rfl (by omega) (by omega)) ?_
   refine .c1 rfl rfl rfl rfl (.litA rfl sl_24_A ze_2_Pa rfl rfl rfl rfl) ?_
   rintro _ H43 ⟨g43, rfl, j7, ge43, v4⟩
   have h8 := j7
   refine ⟨h8, ?_⟩
   replace h := h.trans j7
   replace d5 := d5.le j7
   replace d4 := j7.2 _ _ d4
   replace d6 := j7.2 _ _ d6
   replace j4 := j7.2 _ _ j4
   replace t := j7.2 _ _ t
   have lt_at43 := GHeap.ltg v4
   replace hin := l.mono h
   replace hin1 := b.mono h
   clear h7
   have h7 : Cat.At _ g2 0 c p := ⟨Mem.of_get d4, hin⟩
   clear r l8 o0 n7
   have r : Cat.At _ g3 0 d q := ⟨Mem.of_get d6, hin1⟩
   refine .c0 rfl rfl rfl rfl (.appendI rfl sl_24_A ze_2_Pa rfl by_2_Pa sl_24_A rfl rfl (by assumption) (by assumption) (by first | omega | (simp <;> omega)) (by omega) (by omega)) ?_
   rintro _ H44 ⟨y2, rfl, l1, ge44, o5⟩
   replace h := h.st l1 (fun k hk => ⟨by omega, trivial⟩)
   replace d5 := d5.sP l1
   replace d4 := l1.same _ _ ⟨(i4.ne j0.ne (by omega)), trivial⟩ d4
   replace d6 := l1.same _ _ ⟨(i4.ne j1.ne (by omega)), trivial⟩ d6
   replace t := l1.same _ _ ⟨(Ne.symm p7), trivial⟩ t
   replace hin := l.mono h
   replace hin1 := b.mono h
   clear h7
   have h7 : Cat.At _ g2 0 c p := ⟨Mem.of_get d4, hin⟩
   clear r
   have r : Cat.At _ g3 0 d q := ⟨Mem.of_get d6, hin1⟩
   refine .q rfl (.fieldAddr fo_27_3_B rfl) ?_
   refine .r0 rfl rfl rfl (.storeR rfl sz_24_Ch rfl rfl rfl (by assumption) (by first | exact Nat.le_of_ble_eq_true rfl | (simp; done) | (simp <;> omega))) ?_
   rintro _ H7012 ⟨rfl, h6, o4⟩
   replace h := h.st h6 (fun k hk => ⟨by omega, trivial⟩)
   replace d5 := d5.sA h6
   replace d4 := h6.s d4 e3.ne
   replace d6 := h6.s d6 v.ne
   replace o5 := h6.s o5
   replace hin := l.mono h
   replace hin1 := b.mono h
   clear h7
   have h7 : Cat.At _ g2 0 c p := ⟨Mem.of_get d4, hin⟩
   clear r
   have r : Cat.At _ g3 0 d q := ⟨Mem.of_get d6, hin1⟩
   try simp only [Nat.zero_add, List.set_cons_succ, List.set_cons_zero] at o4
   refine .done ?_
   refine x9 _ _ (.region (.mv rfl ?_))
   refine .q rfl (.add rfl rfl rfl (by omega) (by omega)) ?_
   refine .mv rfl (.nil ?_)
   refine t3 ((y + 1, y2)) _ _ ?_ ?_ ⟨rfl, rfl, rfl, rfl, rfl, rfl, trivial⟩
   ·
    refine ⟨d5, by (rw [take_map_snoc (d := 0) (by omega), ← List.append_assoc]; assumption), by exact ⟨.inr (by omega)⟩, by assumption, by omega, ?_⟩
    omega
   (dsimp only; omega)
  try simp only [sps] at t7
  refine .exit ?_
  refine x0 _ _ (.seq (fun K10 s4 => .seq (fun K11 u0 => .region ?_)))
  obtain rfl : y = d.obj.toNat := by omega
  have x4 : (d.idn.take d.obj.toNat) = d.idn := List.take_of_length_le (by omega)
  rw [x4] at j4
  have k1 := row_ne aC j4 rfl
  have k3 : gF ≠ gLI := i4.ne w7 (by omega)
  have k4 : gT ≠ gLI := i4.ne w9 (by omega)
  refine .mv rfl (.nil (u0 _ _ ?_))
  refine .block ?_
  refine .loopR (σ := Nat × (Nat → Option Addr)) [(3, some _), (4, some _), (5, some _), (6, some _), (7, some _)] (fun (f, rr) => [(9, some (.int .i64 (f : Int)))]) (fun (f, rr) H' => f ≤ c.comp.length ∧ SumSt 2 24 27 H H' c d q g3 g4 g7 gF gT gLI gC [.int .i64 0, .slice none 0 0, .slice none 0 0, .slice none 0 0, .slice none 0 0] rr f 0) (fun (f, rr) => c.comp.length - f) ((0, rr)) ⟨rfl, rfl, rfl, rfl, rfl, trivial⟩ ⟨rfl, trivial⟩ ?_ ?_
  ·
   refine ⟨by omega, h, by omega, ?_, k6, t, aF, aT, j4, by rw [extL_zero]; exact aC, by rw [extL_zero]; exact (j3.rows.st rk (.cons j3.r3 (.nil _ _))).low (by omega), j3.r1, j3.r2, ?_⟩
   · assumption
   · exact fun i hi e => by
       obtain ⟨x, h1, h2, h3⟩ := j3.rows.row i hi
       rw [h1] at e
       cases e
       have := GHeap.ltg h3
       exact i4.ne (fun e => j3.r3 i hi (by rw [h1, e])) (by omega) rfl
  rintro ⟨f, rr⟩ HL2 hI KL2 t5
  refine .forget (fr' := [(9, some (.int .i64 (f : Int))), (3, some _), (4, some _), (5, some _), (6, some _), (7, some _)]) ⟨rfl, rfl, rfl, rfl, rfl, rfl, trivial⟩ ?_
  obtain ⟨hf, hS⟩ := hI
  obtain ⟨h, bC, aD, aR, aS, aF, aT, aI, aC, hR, z1, y3, x8⟩ := id hS
  have nx_HL2 := h.1
  have lt_aD := GHeap.ltg aD
  have lt_aR := GHeap.ltg aR
  have o6 := GHeap.ltg aF
  have p9 := GHeap.ltg aI
  replace hin1 := b.mono h
  have r : Cat.At _ g3 0 d q := ⟨Mem.of_get aD, hin1⟩
  refine .seq (fun K12 t6 => .seq (fun K13 u3 => .region (.mv rfl (.q rfl (.fieldAddr fo_27_4_B rfl) ?_))))
  refine .q rfl (.load on_25_B rfl (by first | assumption | exact Mem.of_get aS 4 _ rfl)) ?_
  refine .q rfl (.len sl_25_B rfl) (.q rfl (.cmp rfl rfl rfl) (.nil (u3 _ _ ?_)))
  refine .cond rfl (fun v8 => ?_) (fun v8 => ?_)
  ·
   simp only [sps] at v8
   refine .skip ?_
   refine t6 _ _ (.seq (fun K14 v3 => ?_))
   refine .block ?_
   refine .seq (fun K15 r8 => .region (.mv rfl (.nil (r8 _ _ ?_))))
   refine .block ?_
   refine .loopR (σ := Nat × (Nat → Option Addr)) [(3, some _), (4, some _), (5, some _), (6, some _), (7, some _), (9, some _)] (fun (j, r2) => [(10, some (.int .i64 (j : Int)))]) (fun (j, r2) H' => j ≤ d.src.length ∧ SumSt 2 24 27 H H' c d q g3 g4 g7 gF gT gLI gC [.int .i64 0, .slice none 0 0, .slice none 0 0, .slice none 0 0, .slice none 0 0] r2 f j) (fun (j, r2) => d.src.length - j) ((0, rr)) ⟨rfl, rfl, rfl, rfl, rfl, rfl, trivial⟩ ⟨rfl, trivial⟩ ?_ ?_
   ·
    exact ⟨by omega, hS⟩
   rintro ⟨j, r2⟩ HL3 hI KL3 s6
   refine .forget (fr' := [(10, some (.int .i64 (j : Int))), (3, some _), (4, some _), (5, some _), (6, some _), (7, some _), (9, some _)]) ⟨rfl, rfl, rfl, rfl, rfl, rfl, rfl, trivial⟩ ?_
   obtain ⟨hj, hS⟩ := hI
   obtain ⟨-, -, aD, aR, aS, -, -, aI, aC, hR, -, -, -⟩ := id hS
   have hel := extL_len (xss := c.comp) (k := d.src.length) (f := f) (j := j) (i := f) hj (by omega)
   have hrow := a9 f (by omega)
   refine .seq (fun K16 v6 => .seq (fun K17 u7 => .region (.mv rfl (.q rfl (.fieldAddr fo_27_1_B rfl) ?_))))
   refine .q rfl (.load on_24_B rfl (by first | assumption | exact Mem.of_get aD 1 _ rfl)) ?_
   refine .q rfl (.len sl_24_A rfl) (.q rfl (.cmp rfl rfl rfl) (.nil (u7 _ _ ?_)))
   refine .cond rfl (fun v5 => ?_) (fun v5 => ?_)
   ·
    simp only [sps] at v5
    obtain ⟨gi, hgi, -, m7⟩ := hR.row f (by rw [length_extL]; omega)
    have hati := m7
    have m1 := row_ne aS hati rfl
    have m3 := row_ne aC hati rfl
    refine .skip ?_
    refine v6 _ _ (.seq (fun K18 w3 => ?_))
    refine .block ?_
    refine .regionDB mo_B (.q 0 (.q 1 (.q 2 (.q 3 (.q 4 (.q 5 (.q 6 (.q 7 (.c 8 1 (.c 9 1 (.q 10 (.c 11 0 (.done))))))))))))) (by kernel_rfl) (GHeap.le_erase HL3 gi) ?_
    have h8 := GHeap.le_erase HL3 gi
    have aSB := GHeap.get_erase_of aS m1
    have aCB := GHeap.get_erase_of aC m3
    have cC := slsL_cell aCB (i := f) (by rw [length_extL]; omega)
    rw [hgi] at cC
    refine .qB rfl h8 (.fieldAddr fo_27_4_B rfl) (.qB rfl h8 (.load on_25_B rfl (Mem.of_get aSB 4 _ rfl)) (.qB rfl h8 (.move rfl) (.qB rfl h8 (.fieldAddr fo_27_4_B rfl) (.qB rfl h8 (.load on_25_B rfl (Mem.of_get aSB 4 _ rfl)) (.qB rfl h8 (.move rfl) ?_)))))
    refine .qB rfl h8 (.idxN sl_25_B (SlA.of_row aCB (by simp)) rfl rfl (by omega)) ?_
    refine .qB rfl h8 (.load on_24_B rfl cC) ?_
    refine .c1 rfl rfl rfl rfl (.litA rfl sl_24_A ze_2_Pa rfl rfl rfl rfl) ?_
    rintro _ H68 ⟨g68, rfl, l9, ge68, at68⟩
    replace h8 := h8.trans l9
    refine ⟨h8, ?_⟩
    replace aC := l9.2 _ _ aC
    replace hati := l9.2 _ _ hati
    refine .c1 rfl rfl rfl rfl (.appendI rfl sl_24_A ze_2_Pa rfl by_2_Pa sl_24_A rfl rfl (by assumption) (by assumption) (by first | omega | (simp <;> omega)) (by omega) (by omega)) ?_
    rintro _ H69 ⟨y4, rfl, m2, u5, v9⟩
    refine ⟨(h8.erase_st m2), ?_⟩
    replace aC := m2.s aC
    replace h8 := h8.erase_st m2
    refine .qB rfl h8 (.idxN sl_25_B (SlA.of_row aCB (by simp)) rfl rfl (by omega)) ?_
    have o8 := v9
    refine .r0 rfl rfl rfl (.storeR rfl sz_24_Ch rfl rfl rfl (by assumption) (by first | exact Nat.le_of_ble_eq_true rfl | (simp; done) | (simp <;> omega))) ?_
    rintro _ H14011 ⟨rfl, m6, k2⟩
    rw [Nat.zero_add] at k2
    refine .done ?_
    refine w3 _ _ (.region (.mv rfl ?_))
    refine .q rfl (.add rfl rfl rfl (by omega) (by omega)) ?_
    refine .mv rfl (.nil ?_)
    refine s6 ((j + 1, upd r2 f (some ⟨y4, 0, none⟩))) _ _ ?_ ?_ ⟨rfl, rfl, rfl, rfl, rfl, rfl, rfl, trivial⟩
    ·
     exact ⟨by omega, hS.app rfl rfl rfl (by omega) m7 hgi l9 m2 u5 o8 m6 k2 rfl⟩
    (dsimp only; omega)
   try simp only [sps] at v5
   refine .exit ?_
   refine v3 _ _ (.region (.mv rfl ?_))
   refine .q rfl (.add rfl rfl rfl (by omega) (by omega)) ?_
   refine .mv rfl (.nil ?_)
   refine t5 ((f + 1, r2)) _ _ ?_ ?_ ⟨rfl, rfl, rfl, rfl, rfl, rfl, trivial⟩
   ·
    obtain rfl : j = d.src.length := by omega
    exact ⟨by omega, hS.next⟩
   (dsimp only; omega)
  try simp only [sps] at v8
  refine .exit ?_
  refine s4 _ _ (.seq (fun K19 v7 => .seq (fun K20 u8 => .region ?_)))
  obtain rfl : f = c.comp.length := by omega
  rw [Cat.extL_all] at aC hR
  have g9 := row_ne aD aF rfl
  have f8 := row_ne aD aT rfl
  have g1 := row_ne aD aC rfl
  have d9 := row_ne aR aF rfl
  have i2 := row_ne aI aR rfl
  have h0 := row_ne aR aT rfl
  have g5 := row_ne aR aC rfl
  have ne_g7_gF := row_ne aS aF rfl
  have ne_g7_gT := row_ne aS aT rfl
  have ne_g7_gC := row_ne aS aC rfl
  refine .mv rfl (.nil (u8 _ _ ?_))
  refine .block ?_
  refine .loopR (σ := Nat × (Nat → Option Addr) × Nat × Nat × Nat) [(3, some _), (4, some _), (5, some _), (6, some _), (7, some _)] (fun (i, r3, gLF, gLT, gLC) => [(11, some (.int .i64 (i : Int)))]) (fun (i, r3, gLF, gLT, gLC) H' => St [gF, gT, gC, g7] HL2 H' ∧ H'.get gLF = some (.row (ints (c.src ++ (d.src.take i).map (· + c.obj))) 2 true) ∧ PL gLF gF HL2.next ∧ H'.get gLT = some (.row (ints (c.tgt ++ (d.tgt.take i).map (· + c.obj))) 2 true) ∧ PL gLT gT HL2.next ∧ H'.get gLC = some (.row ((slsL r3 (c.sumL d ++ (d.comp.take i).map (sumRow c.src.length)))) 24 true) ∧ PL gLC gC HL2.next ∧ H'.get g7 = some (.row ([.int .i64 (c.obj + d.obj), .slice (some ⟨gLF, 0, none⟩) (c.src.length + i) (c.src.length + i), .slice (some ⟨gLT, 0, none⟩) (c.tgt.length + i) (c.tgt.length + i), .slice (some ⟨gLI, 0, none⟩) (c.idn.length + d.obj.toNat) (c.idn.length + d.obj.toNat), .slice (some ⟨gLC, 0, none⟩) (c.comp.length + i) (c.comp.length + i)]) 27 true) ∧ gLF ≠ gLT ∧ gLF ≠ gLC ∧ gLF ≠ g7 ∧ gLT ≠ gLC ∧ gLT ≠ g7 ∧ gLC ≠ g7 ∧ i ≤ d.src.length ∧ OwnL H.next H' 2 r3 (c.sumL d ++ (d.comp.take i).map (sumRow c.src.length)) ∧ (∀ j, j < (c.sumL d ++ (d.comp.take i).map (sumRow c.src.length)).length → r3 j ≠ some ⟨gLF, 0, none⟩) ∧ (∀ j, j < (c.sumL d ++ (d.comp.take i).map (sumRow c.src.length)).length → r3 j ≠ some ⟨gLT, 0, none⟩) ∧ ∀ j, j < (c.sumL d ++ (d.comp.take i).map (sumRow c.src.length)).length → r3 j ≠ some ⟨gLI, 0, none⟩) (fun (i, r3, gLF, gLT, gLC) => d.src.length - i) ((0, rr, gF, gT, gC)) ⟨rfl, rfl, rfl, rfl, rfl, trivial⟩ ⟨rfl, trivial⟩ ?_ ?_
  ·
   refine ⟨.refl _ _, by simpa using aF, ⟨.inl rfl⟩, by simpa using aT, ⟨.inl rfl⟩, by simpa using aC, ⟨.inl rfl⟩, by assumption, by omega, by omega, by omega, by omega, by omega, by omega, ?_⟩
   have e0 : c.sumL d ++ (d.comp.take 0).map (sumRow c.src.length) = c.sumL d := by simp
   rw [e0]
   have e1 : (c.sumL d).length = c.comp.length := by simp [Cat.sumL]
   exact ⟨by omega, hR, fun j hj => z1 j (by omega), fun j hj => y3 j (by omega), fun j hj => x8 j (by omega)⟩
  rintro ⟨i, r3, gLF, gLT, gLC⟩ HL4 ⟨u, g6, i1, c6, k0, m, k8, t, p2, p0, r4, p5, m8, k9, hI⟩ KL4 w0
  refine .forget (fr' := [(11, some (.int .i64 (i : Int))), (3, some _), (4, some _), (5, some _), (6, some _), (7, some _)]) ⟨rfl, rfl, rfl, rfl, rfl, rfl, trivial⟩ ?_
  have q7 : H.next ≤ gLF := i1.ge (by omega) (by omega)
  have o9 : H.next ≤ gLT := k0.ge (by omega) (by omega)
  have q5 : H.next ≤ gLC := k8.ge (by omega) (by omega)
  have nx_HL4 := u.nx
  replace h := h.st u (fun k hk => ⟨by omega, by omega, by omega, by omega, trivial⟩)
  have g9 : NE g3 gF := .a
  have f8 : NE g3 gT := .a
  have g1 : NE g3 gC := .a
  have v : NE g3 g7 := .a
  replace aD := u.same _ _ ⟨g9.ne, f8.ne, g1.ne, v.ne, trivial⟩ aD
  have d9 : NE g4 gF := .a
  have h0 : NE g4 gT := .a
  have g5 : NE g4 gC := .a
  have c7 : NE g4 g7 := .a
  replace aR := u.same _ _ ⟨d9.ne, h0.ne, g5.ne, c7.ne, trivial⟩ aR
  have i5 : NE gLI gF := .a
  have i3 : NE gLI g7 := .a
  replace aI := u.same _ _ ⟨i5.ne, (by first | assumption | omega), (by first | assumption | omega), i3.ne, trivial⟩ aI
  have lt_at_LF := GHeap.ltg g6
  have lt_at_LT := GHeap.ltg c6
  have lt_at_LC := GHeap.ltg m
  have k5 := GHeap.ltg t
  replace hin1 := b.mono h
  clear r
  have r : Cat.At _ g3 0 d q := ⟨Mem.of_get aD, hin1⟩
  obtain ⟨-, l7, -, -, -, o3, -, -, -⟩ := r.get
  have rk := St.refl [gLF, gLT, gLC, g7] HL4
  obtain ⟨hi, hR, hF, hT, hId⟩ := hI
  have hatC := m
  have nFI : gLI ≠ gLF := i1.ne (Ne.symm k3) (by omega)
  have nTI : gLI ≠ gLT := k0.ne (Ne.symm k4) (by omega)
  have t2 := t
  have hql : (c.sumL d ++ (d.comp.take i).map (sumRow c.src.length)).length = c.comp.length + i := by simp [Cat.sumL]; omega
  have hl1 : (c.src ++ (d.src.take i).map (· + c.obj)).length = c.src.length + i := by simp; omega
  have hl2 : (c.tgt ++ (d.tgt.take i).map (· + c.obj)).length = c.tgt.length + i := by simp; omega
  have hfl : (slsL r3 (c.sumL d ++ (d.comp.take i).map (sumRow c.src.length))).length = c.comp.length + i := by rw [length_slsL, hql]
  refine .seq (fun K21 s0 => .seq (fun K22 t1 => .region (.mv rfl (.q rfl (.fieldAddr fo_27_1_B rfl) ?_))))
  refine .q rfl (.load on_24_B rfl (by first | assumption | exact Mem.of_get aD 1 _ rfl)) ?_
  refine .q rfl (.len sl_24_A rfl) (.q rfl (.cmp rfl rfl rfl) (.nil (t1 _ _ ?_)))
  refine .cond rfl (fun s9 => ?_) (fun s9 => ?_)
  ·
   simp only [sps] at s9
   have q1 := b4 i (by omega)
   have q2 := b5 i (by omega)
   have q3 := b9 i (by omega)
   refine .skip ?_
   refine s0 _ _ (.seq (fun K23 s7 => ?_))
   refine .block ?_
   refine .seq (fun K24 s5 => ?_)
   refine .regionD mo_B (.q 0 (.q 1 (.q 2 (.q 3 (.q 4 (.q 5 (.q 6 (.q 7 (.q 8 (.c 9 1 (.c 10 0 (.q 11 (.c 12 0 (.done)))))))))))))) (by kernel_rfl) ?_
   refine .q rfl (.fieldAddr fo_27_1_B rfl) ?_
   refine .q rfl (.load on_24_B rfl (by first | assumption | exact Mem.of_get t 1 _ rfl)) ?_
   refine .q rfl (.fieldAddr fo_27_1_B rfl) ?_
   refine .q rfl (.load on_24_B rfl (by first | assumption | exact Mem.of_get aD 1 _ rfl)) ?_
   refine .mv rfl rfl ?_
   refine .q rfl (.idxN sl_24_A (by assumption) rfl rfl (by omega)) ?_
   refine .q rfl (.loadI on_2_A (by assumption) rfl (by omega)) ?_
   refine .mv rfl rfl ?_
   refine .q rfl (.add rfl rfl rfl (by omega) (by omega)) ?_
   refine .c1 rfl rfl rfl rfl (.litA rfl sl_24_A ze_2_Pa rfl rfl rfl rfl) ?_
   rintro _ H87 ⟨g87, rfl, h5, ge87, j5⟩
   have h8 := h5
   refine ⟨h8, ?_⟩
   replace h := h.trans h5
   replace u := u.le h5
   replace rk := rk.le h5
   replace aD := h5.2 _ _ aD
   replace aR := h5.2 _ _ aR
   replace aI := h5.2 _ _ aI
   replace g6 := h5.2 _ _ g6
   replace c6 := h5.2 _ _ c6
   replace m := h5.2 _ _ m
   replace t := h5.2 _ _ t
   have lt_at87 := GHeap.ltg j5
   replace hin1 := b.mono h
   clear r l7 o3
   have r : Cat.At _ g3 0 d q := ⟨Mem.of_get aD, hin1⟩
   refine .c0 rfl rfl rfl rfl (.appendI rfl sl_24_A ze_2_Pa rfl by_2_Pa sl_24_A rfl rfl (by assumption) (by assumption) (by first | omega | (simp <;> omega)) (by omega) (by omega)) ?_
   rintro _ H88 ⟨r6, rfl, i0, ge88, c3⟩
   replace h := h.st i0 (fun k hk => ⟨by omega, trivial⟩)
   replace u := u.sP i0
   replace rk := rk.sP i0
   replace aD := i0.same _ _ ⟨(i1.ne g9.ne (by omega)), trivial⟩ aD
   have e6 : NE g4 gLF := ⟨i1.ne d9.ne (by omega)⟩
   replace aR := i0.s aR e6.ne
   replace aI := i0.same _ _ ⟨(i1.ne i5.ne (by omega)), trivial⟩ aI
   replace c6 := i0.same _ _ ⟨(Ne.symm p2), trivial⟩ c6
   replace m := i0.same _ _ ⟨(Ne.symm p0), trivial⟩ m
   replace t := i0.same _ _ ⟨(Ne.symm r4), trivial⟩ t
   replace j5 := i0.s j5
   have lt_at88 := GHeap.ltg c3
   replace hin := l.mono h
   replace hin1 := b.mono h
   clear r
   have r : Cat.At _ g3 0 d q := ⟨Mem.of_get aD, hin1⟩
   obtain ⟨l8, l7, p3, o0, n2, o3, q9, n7, n1⟩ := r.get
   have q6 : MemN _ _ _ _ _ := ⟨rfl, r.1⟩
   have r5 := r.2
   refine .q rfl (.fieldAddr fo_27_1_B rfl) ?_
   refine .r0 rfl rfl rfl (.storeR rfl sz_24_Ch rfl rfl rfl (by assumption) (by first | exact Nat.le_of_ble_eq_true rfl | (simp; done) | (simp <;> omega))) ?_
   rintro _ H18012 ⟨rfl, w, c9⟩
   have nx_H18012 := w.nx
   replace h := h.st w (fun k hk => ⟨by omega, trivial⟩)
   replace u := u.sA w
   replace rk := rk.sA w
   replace aD := w.s aD v.ne
   replace aR := w.s aR c7.ne
   replace aI := w.s aI i3.ne
   replace c6 := w.same _ _ ⟨m8, trivial⟩ c6
   replace m := w.same _ _ ⟨k9, trivial⟩ m
   replace j5 := w.s j5
   have e8 : NE r6 g7 := .a
   replace c3 := w.s c3 e8.ne
   have lt_at18012 := GHeap.ltg c9
   replace hin := l.mono h
   replace hin1 := b.mono h
   clear r l8 l7 p3 o0 n2 o3 q9 n7 n1 q6 r5
   have r : Cat.At _ g3 0 d q := ⟨Mem.of_get aD, hin1⟩
   obtain ⟨l8, l7, p3, o0, n2, o3, q9, n7, n1⟩ := r.get
   have q6 : MemN _ _ _ _ _ := ⟨rfl, r.1⟩
   have r5 := r.2
   try simp only [Nat.zero_add, List.set_cons_succ, List.set_cons_zero] at c9
   refine .done ?_
   refine s5 _ _ (.seq (fun K25 s2 => ?_))
   refine .regionD mo_B (.q 0 (.q 1 (.q 2 (.q 3 (.q 4 (.q 5 (.q 6 (.q 7 (.q 8 (.c 9 1 (.c 10 0 (.q 11 (.c 12 0 (.done)))))))))))))) (by kernel_rfl) ?_
   refine .q rfl (.fieldAddr fo_27_2_B rfl) ?_
   refine .q rfl (.load on_24_B rfl (by first | assumption | exact Mem.of_get c9 2 _ rfl)) ?_
   refine .q rfl (.fieldAddr fo_27_2_B rfl) ?_
   refine .q rfl (.load on_24_B rfl (by first | assumption | exact Mem.of_get aD 2 _ rfl)) ?_
   refine .mv rfl rfl ?_
   refine .q rfl (.idxN sl_24_A (by assumption) rfl rfl (by omega)) ?_
   refine .q rfl (.loadI on_2_A (by assumption) rfl (by omega)) ?_
   refine .mv rfl rfl ?_
   refine .q rfl (.add rfl rfl rfl (by omega) (by omega)) ?_
   refine .c1 rfl rfl rfl rfl (.litA rfl sl_24_A ze_2_Pa rfl rfl rfl rfl) ?_
   rintro _ H99 ⟨g99, rfl, e7, ge99, v0⟩
   have h8 := e7
   refine ⟨h8, ?_⟩
   have nx_H99 := e7.1
   replace h := h.trans e7
   replace u := u.le e7
   replace rk := rk.le e7
   replace aD := e7.2 _ _ aD
   replace aR := e7.2 _ _ aR
   replace aI := e7.2 _ _ aI
   replace c6 := e7.2 _ _ c6
   replace m := e7.2 _ _ m
   replace j5 := e7.2 _ _ j5
   replace c3 := e7.2 _ _ c3
   replace c9 := e7.2 _ _ c9
   have lt_at99 := GHeap.ltg v0
   replace hin := l.mono h
   replace hin1 := b.mono h
   clear r l8 l7 p3 o0 n2 o3 q9 n7 n1 q6 r5
   have r : Cat.At _ g3 0 d q := ⟨Mem.of_get aD, hin1⟩
   obtain ⟨l8, l7, p3, o0, n2, o3, q9, n7, n1⟩ := r.get
   have q6 : MemN _ _ _ _ _ := ⟨rfl, r.1⟩
   have r5 := r.2
   refine .c0 rfl rfl rfl rfl (.appendI rfl sl_24_A ze_2_Pa rfl by_2_Pa sl_24_A rfl rfl (by assumption) (by assumption) (by first | omega | (simp <;> omega)) (by omega) (by omega)) ?_
   rintro _ H100 ⟨m4, rfl, f9, ge100, a0⟩
   replace h := h.st f9 (fun k hk => ⟨by omega, trivial⟩)
   replace u := u.sP f9
   replace rk := rk.sP f9
   replace aD := f9.same _ _ ⟨(k0.ne f8.ne (by omega)), trivial⟩ aD
   replace m := f9.same _ _ ⟨(Ne.symm p5), trivial⟩ m
   replace c3 := f9.s c3
   replace c9 := f9.same _ _ ⟨(Ne.symm m8), trivial⟩ c9
   have lt_at100 := GHeap.ltg a0
   replace hin1 := b.mono h
   clear r l8 l7 p3 o0 n2 o3 q9 n7 n1 q6 r5
   have r : Cat.At _ g3 0 d q := ⟨Mem.of_get aD, hin1⟩
   refine .q rfl (.fieldAddr fo_27_2_B rfl) ?_
   refine .r0 rfl rfl rfl (.storeR rfl sz_24_Ch rfl rfl rfl (by assumption) (by first | exact Nat.le_of_ble_eq_true rfl | (simp; done) | (simp <;> omega))) ?_
   rintro _ H19012 ⟨rfl, b0, o⟩
   have nx_H19012 := b0.nx
   replace h := h.st b0 (fun k hk => ⟨by omega, trivial⟩)
   replace u := u.sA b0
   replace rk := rk.sA b0
   replace aD := b0.s aD v.ne
   replace m := b0.same _ _ ⟨k9, trivial⟩ m
   replace c3 := b0.s c3 e8.ne
   have f6 : NE m4 g7 := .a
   replace a0 := b0.s a0 f6.ne
   have lt_at19012 := GHeap.ltg o
   replace hin1 := b.mono h
   clear r
   have r : Cat.At _ g3 0 d q := ⟨Mem.of_get aD, hin1⟩
   try simp only [Nat.zero_add, List.set_cons_succ, List.set_cons_zero] at o
   refine .done ?_
   refine s2 _ _ (.seq (fun K26 w2 => .region ?_))
   refine .R rfl (.litA rfl sl_24_A ze_2_Pa rfl rfl rfl rfl) ?_
   rintro _ n3 ⟨i8, rfl, f2, ge102, k7⟩
   replace h := h.trans f2
   replace u := u.le f2
   replace rk := rk.le f2
   replace aD := f2.2 _ _ aD
   replace m := f2.2 _ _ m
   replace c3 := f2.2 _ _ c3
   replace a0 := f2.2 _ _ a0
   replace o := f2.2 _ _ o
   have lt_at102 := GHeap.ltg k7
   replace hin1 := b.mono h
   clear r
   have r : Cat.At _ g3 0 d q := ⟨Mem.of_get aD, hin1⟩
   replace k7 : GHeap.get n3 i8 = some (.row (ints []) 2 true) := k7
   refine .mv rfl (.nil (w2 _ _ (.seq (fun K27 t4 => .seq (fun K28 t0 => .region (.mv rfl (.nil (t0 _ _ ?_))))))))
   refine .block ?_
   refine .loopR (σ := Nat × Nat × Nat) [(3, some _), (4, some _), (5, some _), (6, some _), (7, some _), (11, some _)] (fun (j, e4, i6) => [(13, some (.int .i64 (j : Int))), (12, some (.slice (some ⟨e4, 0, none⟩) i6 i6))]) (fun (j, e4, i6) H' => St [i8] n3 H' ∧ H'.get e4 = some (.row (ints (List.replicate j (-1))) 2 true) ∧ PL e4 i8 n3.next ∧ i6 = (List.replicate j (-1)).length ∧ j ≤ c.src.length) (fun (j, e4, i6) => c.src.length - j) ((0, _, _)) ⟨rfl, rfl, rfl, rfl, rfl, rfl, trivial⟩ ⟨rfl, rfl, trivial⟩ ?_ ?_
   ·
    refine ⟨.refl _ _, by assumption, ⟨.inl rfl⟩, by rfl, ?_⟩
    omega
   rintro ⟨j, e4, i6⟩ HL5 ⟨e2, j6, d3, n9, hI⟩ KL5 w1
   refine .forget (fr' := [(13, some (.int .i64 (j : Int))), (12, some (.slice (some ⟨e4, 0, none⟩) i6 i6)), (3, some _), (4, some _), (5, some _), (6, some _), (7, some _), (11, some _)]) ⟨rfl, rfl, rfl, rfl, rfl, rfl, rfl, rfl, trivial⟩ ?_
   have ge_L12 : H.next ≤ e4 := d3.ge (by omega) (by omega)
   have nx_HL5 := e2.nx
   replace h := h.st e2 (fun k hk => ⟨by omega, trivial⟩)
   replace u := u.sA e2
   replace rk := rk.sA e2
   have d7 : NE g3 i8 := .a
   replace aD := e2.s aD d7.ne
   have f3 : NE gLC i8 := .a
   replace m := e2.s m f3.ne
   have f1 : NE r6 i8 := .a
   replace c3 := e2.s c3 f1.ne
   have d8 : NE m4 i8 := .a
   replace a0 := e2.s a0 d8.ne
   have g8 : NE g7 i8 := .a
   replace o := e2.s o g8.ne
   have lt_at_L12 := GHeap.ltg j6
   replace hin1 := b.mono h
   clear r
   have r : Cat.At _ g3 0 d q := ⟨Mem.of_get aD, hin1⟩
   have hz : (List.replicate j (-1 : Int)).length = j := List.length_replicate
   refine .seq (fun K29 s3 => .seq (fun K30 v2 => .region (.mv rfl (.mv rfl (.q rfl (.cmp rfl rfl rfl) (.nil (v2 _ _ ?_)))))))
   refine .cond rfl (fun o2 => ?_) (fun o2 => ?_)
   ·
    simp only [sps] at o2
    refine .skip ?_
    refine s3 _ _ (.seq (fun K31 t8 => ?_))
    refine .block ?_
    refine .region (.mv rfl ?_)
    refine .R rfl (.litA rfl sl_24_A ze_2_Pa rfl rfl rfl rfl) ?_
    rintro _ H109 ⟨g109, rfl, j8, ge109, o7⟩
    replace h := h.trans j8
    replace e2 := e2.le j8
    replace aD := j8.2 _ _ aD
    replace j6 := j8.2 _ _ j6
    have lt_at109 := GHeap.ltg o7
    replace hin1 := b.mono h
    clear r
    have r : Cat.At _ g3 0 d q := ⟨Mem.of_get aD, hin1⟩
    refine .R rfl (.appendI rfl sl_24_A ze_2_Pa rfl by_2_Pa sl_24_A rfl rfl (by assumption) (by assumption) (by first | omega | (simp <;> omega)) (by omega) (by omega)) ?_
    rintro _ H110 ⟨g110, rfl, l0, ge110, at110⟩
    replace h := h.st l0 (fun k hk => ⟨by omega, trivial⟩)
    replace e2 := e2.sP l0
    have a5 : NE g3 e4 := ⟨d3.ne d7.ne (by omega)⟩
    replace aD := l0.s aD a5.ne
    replace hin1 := b.mono h
    clear r
    have r : Cat.At _ g3 0 d q := ⟨Mem.of_get aD, hin1⟩
    refine .mv rfl (.nil (t8 _ _ (.region (.mv rfl ?_))))
    refine .q rfl (.add rfl rfl rfl (by omega) (by omega)) ?_
    refine .mv rfl (.nil ?_)
    refine w1 ((j + 1, _, _)) _ _ ?_ ?_ ⟨rfl, rfl, rfl, rfl, rfl, rfl, rfl, rfl, trivial⟩
    ·
     refine ⟨e2, by (rw [List.replicate_succ']; assumption), by exact ⟨.inr (by omega)⟩, by (rw [List.replicate_succ'] <;> (first | omega | (simp only [List.length_append, List.length_cons, List.length_nil] <;> omega))), ?_⟩
     omega
    (dsimp only; omega)
   try simp only [sps] at o2
   refine .exit ?_
   refine t4 _ _ (.seq (fun K32 u2 => .seq (fun K33 u6 => .region ?_)))
   obtain rfl : j = c.src.length := by omega
   have h9 : i6 = (sumRow c.src.length ((d.comp.getD i []).take 0)).length := by rw [length_sumRow, n9]; simp
   refine .mv rfl (.nil (u6 _ _ ?_))
   refine .block ?_
   refine .loopR (σ := Nat × Nat × Nat) [(3, some _), (4, some _), (5, some _), (6, some _), (7, some _), (11, some _)] (fun (j, z, d2) => [(14, some (.int .i64 (j : Int))), (12, some (.slice (some ⟨z, 0, none⟩) d2 d2))]) (fun (j, z, d2) H' => St [e4] HL5 H' ∧ H'.get z = some (.row (ints (sumRow c.src.length ((d.comp.getD i []).take j))) 2 true) ∧ PL z e4 HL5.next ∧ d2 = (sumRow c.src.length ((d.comp.getD i []).take j)).length ∧ j ≤ d.src.length) (fun (j, z, d2) => d.src.length - j) ((0, _, _)) ⟨rfl, rfl, rfl, rfl, rfl, rfl, trivial⟩ ⟨rfl, rfl, trivial⟩ ?_ ?_
   ·
    refine ⟨.refl _ _, by (rw [List.take_zero, sumRow_nil]; assumption), ⟨.inl rfl⟩, by assumption, ?_⟩
    omega
   rintro ⟨j, z, d2⟩ HL6 ⟨c8, n, c5, j2, hI⟩ KL6 p6
   refine .forget (fr' := [(14, some (.int .i64 (j : Int))), (12, some (.slice (some ⟨z, 0, none⟩) d2 d2)), (3, some _), (4, some _), (5, some _), (6, some _), (7, some _), (11, some _)]) ⟨rfl, rfl, rfl, rfl, rfl, rfl, rfl, rfl, trivial⟩ ?_
   have ge_L12v6 : H.next ≤ z := c5.ge (by omega) (by omega)
   have nx_HL6 := c8.nx
   replace h := h.st c8 (fun k hk => ⟨by omega, trivial⟩)
   replace u := u.sP c8
   replace rk := rk.sP c8
   have a5 : NE g3 e4 := ⟨d3.ne d7.ne (by omega)⟩
   replace aD := c8.s aD a5.ne
   have f0 : NE gLC e4 := ⟨d3.ne f3.ne (by omega)⟩
   replace m := c8.s m f0.ne
   replace c3 := c8.same _ _ ⟨(d3.ne f1.ne (by omega)), trivial⟩ c3
   replace a0 := c8.same _ _ ⟨(d3.ne d8.ne (by omega)), trivial⟩ a0
   have g0 : NE g7 e4 := ⟨d3.ne g8.ne (by omega)⟩
   replace o := c8.s o g0.ne
   replace hin1 := b.mono h
   have r : Cat.At _ g3 0 d q := ⟨Mem.of_get aD, hin1⟩
   obtain ⟨-, l7, -, -, n2, -, -, -, n1⟩ := r.get
   have hz : (sumRow c.src.length ((d.comp.getD i []).take j)).length = c.src.length + j := by rw [length_sumRow, List.length_take]; omega
   refine .seq (fun K34 u4 => .seq (fun K35 u9 => .region (.mv rfl (.q rfl (.fieldAddr fo_27_1_B rfl) ?_))))
   refine .q rfl (.load on_24_B rfl (by first | assumption | exact Mem.of_get aD 1 _ rfl)) ?_
   refine .q rfl (.len sl_24_A rfl) (.q rfl (.cmp rfl rfl rfl) (.nil (u9 _ _ ?_)))
   refine .cond rfl (fun o1 => ?_) (fun o1 => ?_)
   ·
    simp only [sps] at o1
    have q4 := y0 i (by omega) j (by omega)
    have hz2 : (sumRow c.src.length ((d.comp.getD i []).take (j + 1))).length = c.src.length + (j + 1) := by rw [length_sumRow, List.length_take]; omega
    have u1 := n1.2 i (by omega)
    refine .skip ?_
    refine u4 _ _ (.seq (fun K36 p4 => ?_))
    refine .block ?_
    refine .seq (fun K37 v1 => .region (.q rfl (.fieldAddr fo_27_4_B rfl) ?_))
    refine .q rfl (.load on_25_B rfl (by first | assumption | exact Mem.of_get aD 4 _ rfl)) ?_
    refine .mv rfl ?_
    refine .q rfl (.idxN sl_25_B (Intss.sl (by assumption)) rfl rfl (by omega)) ?_
    refine .q rfl (.loadR on_24_B (by assumption) rfl (by omega)) ?_
    refine .mv rfl ?_
    refine .q rfl (.idxN sl_24_A (by assumption) rfl rfl (by omega)) ?_
    refine .q rfl (.loadI on_2_A (by assumption) rfl (by omega)) ?_
    refine .mv rfl (.nil (v1 _ _ (.seq (fun K38 p8 => .seq (fun K39 r9 => .region (.mv rfl (.q rfl (.cmp rfl rfl rfl) (.nil (r9 _ _ ?_)))))))))
    refine .cond rfl (fun n8 => ?_) (fun n8 => ?_)
    ·
     simp only [sps] at n8
     refine .region (.mv rfl (.mv rfl ?_))
     refine .q rfl (.add rfl rfl rfl (by omega) (by omega)) ?_
     refine .mv rfl (.nil (p8 _ _ (.region (.mv rfl (.mv rfl ?_)))))
     refine .R rfl (.litA rfl sl_24_A ze_2_Pa rfl rfl rfl rfl) ?_
     rintro _ H133 ⟨g133, rfl, j9, ge133, p1⟩
     replace h := h.trans j9
     replace c8 := c8.le j9
     replace aD := j9.2 _ _ aD
     replace n := j9.2 _ _ n
     have lt_at133 := GHeap.ltg p1
     replace hin1 := b.mono h
     clear r l7 n2 n1
     have r : Cat.At _ g3 0 d q := ⟨Mem.of_get aD, hin1⟩
     clear u1
     refine .R rfl (.appendI rfl sl_24_A ze_2_Pa rfl by_2_Pa sl_24_A rfl rfl (by assumption) (by assumption) (by first | omega | (simp <;> omega)) (by omega) (by omega)) ?_
     rintro _ H134 ⟨g134, rfl, l2, ge134, at134⟩
     replace h := h.st l2 (fun k hk => ⟨by omega, trivial⟩)
     replace c8 := c8.sQ l2
     have d1 : NE g3 z := ⟨c5.ne a5.ne (by omega)⟩
     replace aD := l2.s aD d1.ne
     replace hin1 := b.mono h
     clear r
     have r : Cat.At _ g3 0 d q := ⟨Mem.of_get aD, hin1⟩
     refine .mv rfl (.nil (p4 _ _ (.region (.mv rfl ?_))))
     refine .q rfl (.add rfl rfl rfl (by omega) (by omega)) ?_
     refine .mv rfl (.nil ?_)
     refine p6 ((j + 1, _, _)) _ _ ?_ ?_ ⟨rfl, rfl, rfl, rfl, rfl, rfl, rfl, rfl, trivial⟩
     ·
      refine ⟨c8, by (rw [sumRow_take (by omega), if_pos (by omega)]; assumption), by exact ⟨.inr (by omega)⟩, by omega, ?_⟩
      omega
     (dsimp only; omega)
    simp only [sps] at n8
    refine .skip ?_
    refine p8 _ _ (.region (.mv rfl (.mv rfl ?_)))
    refine .R rfl (.litA rfl sl_24_A ze_2_Pa rfl rfl rfl rfl) ?_
    rintro _ H133x2 ⟨g133x2, rfl, f4, ge133x2, l6⟩
    replace h := h.trans f4
    replace c8 := c8.le f4
    replace aD := f4.2 _ _ aD
    replace n := f4.2 _ _ n
    have lt_at133x2 := GHeap.ltg l6
    replace hin1 := b.mono h
    have r : Cat.At _ g3 0 d q := ⟨Mem.of_get aD, hin1⟩
    refine .R rfl (.appendI rfl sl_24_A ze_2_Pa rfl by_2_Pa sl_24_A rfl rfl (by assumption) (by assumption) (by first | omega | (simp <;> omega)) (by omega) (by omega)) ?_
    rintro _ H134x2 ⟨g134x2, rfl, i7, ge134x2, at134x2⟩
    replace h := h.st i7 (fun k hk => ⟨by omega, trivial⟩)
    replace c8 := c8.sQ i7
    have d1 : NE g3 z := ⟨c5.ne a5.ne (by omega)⟩
    replace aD := i7.s aD d1.ne
    replace hin1 := b.mono h
    clear r
    have r : Cat.At _ g3 0 d q := ⟨Mem.of_get aD, hin1⟩
    refine .mv rfl (.nil (p4 _ _ (.region (.mv rfl ?_))))
    refine .q rfl (.add rfl rfl rfl (by omega) (by omega)) ?_
    refine .mv rfl (.nil ?_)
    refine p6 ((j + 1, _, _)) _ _ ?_ ?_ ⟨rfl, rfl, rfl, rfl, rfl, rfl, rfl, rfl, trivial⟩
    ·
     refine ⟨c8, by (rw [sumRow_take (by omega), if_neg (by omega)]; assumption), by exact ⟨.inr (by omega)⟩, by omega, ?_⟩
     omega
    (dsimp only; omega)
   try simp only [sps] at o1
   refine .exit ?_
   refine u2 _ _ (.region ?_)
   obtain rfl : j = d.src.length := by omega
   rw [show (d.comp.getD i []).take d.src.length = d.comp.getD i [] from List.take_of_length_le (by omega)] at n j2
   obtain rfl := j2
   refine .q rfl (.fieldAddr fo_27_4_B rfl) ?_
   refine .q rfl (.load on_25_B rfl (by first | assumption | exact Mem.of_get o 4 _ rfl)) ?_
   refine .mv rfl ?_
   refine .R rfl (.litA rfl sl_25_B ze_24_Hj rfl rfl rfl rfl) ?_
   rintro _ H138 ⟨g138, rfl, e5, ge138, q0⟩
   replace h := h.trans e5
   replace u := u.le e5
   replace rk := rk.le e5
   replace aD := e5.2 _ _ aD
   replace m := e5.2 _ _ m
   replace c3 := e5.2 _ _ c3
   replace a0 := e5.2 _ _ a0
   replace o := e5.2 _ _ o
   replace n := e5.2 _ _ n
   have lt_at138 := GHeap.ltg q0
   replace hin1 := b.mono h
   have r : Cat.At _ g3 0 d q := ⟨Mem.of_get aD, hin1⟩
   refine .R rfl (.appendV rfl sl_25_B ze_24_Hj rfl by_24_Hj sl_25_B rfl rfl (by assumption) (by assumption) (by first | omega | (simp <;> omega)) rfl rfl (by omega) (by omega)) ?_
   rintro _ H139 ⟨t9, rfl, e9, ge139, m9⟩
   replace h := h.st e9 (fun k hk => ⟨by omega, trivial⟩)
   replace u := u.sP e9
   replace rk := rk.sP e9
   replace aD := e9.same _ _ ⟨(k8.ne g1.ne (by omega)), trivial⟩ aD
   replace c3 := e9.s c3
   replace a0 := e9.s a0
   replace o := e9.same _ _ ⟨(Ne.symm k9), trivial⟩ o
   replace n := e9.same _ _ ⟨(Ne.symm (c5.ne f0.ne (by omega))), trivial⟩ n
   replace hin1 := b.mono h
   clear r
   have r : Cat.At _ g3 0 d q := ⟨Mem.of_get aD, hin1⟩
   refine .q rfl (.fieldAddr fo_27_4_B rfl) ?_
   refine .r0 rfl rfl (.storeR rfl sz_25_Ch rfl rfl rfl (by assumption) (by first | exact Nat.le_of_ble_eq_true rfl | (simp; done) | (simp <;> omega))) ?_
   rintro _ H32006 ⟨rfl, a7, l5⟩
   replace h := h.st a7 (fun k hk => ⟨by omega, trivial⟩)
   replace u := u.sA a7
   replace rk := rk.sA a7
   replace aD := a7.s aD v.ne
   replace c3 := a7.s c3 e8.ne
   replace a0 := a7.s a0 f6.ne
   replace n := a7.same _ _ ⟨(Ne.symm (c5.ne g0.ne (by omega))), trivial⟩ n
   replace m9 := a7.s m9
   replace hin1 := b.mono h
   clear r
   have r : Cat.At _ g3 0 d q := ⟨Mem.of_get aD, hin1⟩
   try simp only [Nat.zero_add, List.set_cons_succ, List.set_cons_zero] at l5
   refine .nil (s7 _ _ (.region (.mv rfl ?_)))
   refine .q rfl (.add rfl rfl rfl (by omega) (by omega)) ?_
   refine .mv rfl (.nil ?_)
   refine w0 ((i + 1, upd r3 (c.sumL d ++ (d.comp.take i).map (sumRow c.src.length)).length (some ⟨z, 0, none⟩), r6, m4, t9)) _ _ ?_ ?_ ⟨rfl, rfl, rfl, rfl, rfl, rfl, trivial⟩
   ·
    refine ⟨u, by (rw [take_map_snoc (d := 0) (by omega), ← List.append_assoc]; assumption), by exact ⟨.inr (by omega)⟩, by (rw [take_map_snoc (d := 0) (by omega), ← List.append_assoc]; assumption), by exact ⟨.inr (by omega)⟩, by (rw [take_map_snoc (d := []) (by omega), ← List.append_assoc, slsL_snoc]; assumption), by exact ⟨.inr (by omega)⟩, by assumption, by omega, by omega, by omega, by omega, by omega, by omega, ?_⟩
    have hg9 : i8 ≤ z := c5.ge (d3.ge (Nat.le_refl _) (by omega)) (by omega)
    have hR' := hR.st rk (.cons hF (.cons hT (.cons (hR.neT hatC rfl) (.cons (hR.neT t2 rfl) (.nil _ _)))))
    have x2 := hR.ne (g := z) (by omega)
    have x3 := hR.ne (g := r6) (by omega)
    have y9 := hR.ne (g := m4) (by omega)
    have hrow := n
    rw [take_map_snoc (d := []) (by omega), ← List.append_assoc]
    exact ⟨by omega, hR'.snoc2 hrow x2 (by omega), ne_snoc x3 (by omega), ne_snoc y9 (by omega), ne_snoc hId (by omega)⟩
   (dsimp only; omega)
  try simp only [sps] at s9
  refine .exit ?_
  refine v7 _ _ (.seq (fun K40 s8 => .region ?_))
  obtain rfl : i = d.src.length := by omega
  rw [List.take_length] at g6
  rw [show d.tgt.take d.src.length = d.tgt from List.take_of_length_le (by omega)] at c6
  rw [show d.comp.take d.src.length = d.comp from List.take_of_length_le (by omega)] at m hR hF hT hId
  refine .q rfl (.loadM ag_27_D rfl ⟨rfl, Mem.of_get t⟩) ?_
  have w4 := aR
  refine .r0 rfl rfl (.fillA rfl sz_27_D rfl rfl rfl rfl) ?_
  rintro _ H33001 ⟨rfl, d0, m0⟩
  replace h := h.st d0 (fun k hk => ⟨by omega, trivial⟩)
  replace aD := d0.s aD
  have i2 : NE gLI g4 := .a
  replace aI := d0.s aI i2.ne
  have e6 : NE g4 gLF := ⟨i1.ne d9.ne (by omega)⟩
  replace g6 := d0.s g6 (Ne.symm e6.ne)
  replace c6 := d0.same _ _ ⟨(Ne.symm (k0.ne h0.ne (by omega))), trivial⟩ c6
  replace m := d0.same _ _ ⟨(Ne.symm (k8.ne g5.ne (by omega))), trivial⟩ m
  replace hin1 := b.mono h
  have r : Cat.At _ g3 0 d q := ⟨Mem.of_get aD, hin1⟩
  refine .nil (s8 _ _ ?_)
  refine .ret ?_
  refine s1 _ _ ?_
  refine ⟨_, _, _, _, rfl, ag_27_D, (by rfl), (Mem.of_get m0), ?_⟩
  exact ⟨h, gLF, gLT, gLI, gLC, r3, by simp [Cat.cells, Cat.sum, ownP, Cat.sumL, b3, b8, show d.idn.length = d.obj.toNat by omega], ⟨g6, c6, aI, m, q7, o9, q8, q5, by assumption, Ne.symm nFI, Ne.symm nTI, hR.st d0 (.cons (hR.neT w4 rfl) (.nil _ _)), hF, hT, hId⟩⟩
end Go.Proofs.Ytfanjkbaemhbmaa
namespace Go.Proofs.Ytfanjkbaemhbmaa
open Go Go.GL Go.RowKit Go.Proofs
theorem us_84_Da : (Try.prog.underlying 84).isSome = true := by kernel_rfl
theorem it_2_Da : intT Try.prog 2 = some .i64 := by kernel_rfl
theorem fo_86_2_Da : fieldOff Try.prog 86 2 = some 2 := by kernel_rfl
theorem on_84_Da : oneT Try.prog 84 = true := by kernel_rfl
theorem sz_84_Da : (Try.prog.info? 84).map (·.size) = some 1 := by kernel_rfl
theorem fo_86_1_Da : fieldOff Try.prog 86 1 = some 1 := by kernel_rfl
theorem on_3_Da : oneT Try.prog 3 = true := by kernel_rfl
theorem fo_86_0_Da : fieldOff Try.prog 86 0 = some 0 := by kernel_rfl
theorem on_22_Da : oneT Try.prog 22 = true := by kernel_rfl
theorem sl_22_Da : sliceT Try.prog 22 = some (5, 1) := by kernel_rfl
theorem on_5_Da : oneT Try.prog 5 = true := by kernel_rfl
theorem us_5_Da : (Try.prog.underlying 5).isSome = true := by kernel_rfl
theorem sz_3_Da : (Try.prog.info? 3).map (·.size) = some 1 := by kernel_rfl
theorem us_3_Da : (Try.prog.underlying 3).isSome = true := by kernel_rfl
theorem it_84_Da : intT Try.prog 84 = some .u64 := by kernel_rfl
theorem bt_86_Da : buildT Try.prog 86 = some ([.slice none 0 0, .int .i64 0, .int .u64 0], [(0, 1), (1, 1), (2, 1)]) := by kernel_rfl
theorem sz_86_Da : (Try.prog.info? 86).map (·.size) = some 3 := by kernel_rfl
theorem l01Next_c {gS : Nat} {n : Int} {H : GHeap} (hs : DSrc 86 H gS := by assumption) :
    GCalls Try.prog 30 [.pointer (some ⟨gS, 0, none⟩), .int .i64 n] H (Drawn 86 gS n H) := by
  obtain ⟨a, xs, p, hh, hg, ⟨p0, p1⟩, hx, hb, hlt⟩ := hs
  have hx0 := andU_le ((IntKind.wrap .u64 (IntKind.wrap .u64 (hh * 6364136223846793005) + 1442695040888963407)).fdiv (2 ^ 33))
  have hlo : ∀ b o t, a = some ⟨b, o, t⟩ → out [gS] b := fun b o t ha => ⟨by have := hlt b o t ha; omega, trivial⟩
  refine GCalls.body (N := 58) (rs := [.tmp 4]) Try.func30 rfl rfl rfl rfl (fun Qx i hend => ?_)
  refine .fg [0, 1] rfl ?_
  have f := St.refl [gS] H
  have hbs := hb.st f hlo
  refine .seq (fun K1 a1 => .region (.mv rfl (.nil (a1 _ _ (.seq (fun K2 y => .seq (fun K3 v => .region (.mv rfl (.q rfl (.cmp rfl rfl rfl) (.nil (v _ _ ?_)))))))))))
  refine .cond rfl (fun h7 => ?_) (fun h7 => ?_)
  ·
   try simp only [sps] at h7
   refine .seq (fun K4 a0 => .region (.mv rfl (.nil (a0 _ _ ?_))))
   refine .ret ?_
   refine i _ _ ?_
   refine ⟨_, rfl, ?_⟩
   exact ⟨0, rfl, by omega, fun h => by omega, fun _ => rfl, f, a, xs, p, hh, hg, ⟨p0, p1⟩, hx, hbs, hlt⟩
  try simp only [sps] at h7
  refine .skip ?_
  refine y _ _ (.seq (fun K5 w => .region (.mv rfl (.mv rfl (.q rfl (.nilCheck rfl) (.q rfl (.fieldAddr fo_86_2_Da rfl) ?_))))))
  refine .q rfl (.load on_84_Da rfl (by first | assumption | exact Mem.of_get hg 2 _ rfl)) ?_
  refine .q rfl (.arith rfl rfl rfl) (.q rfl (.arith rfl rfl rfl) (.q rfl (.nilCheck rfl) (.q rfl (.fieldAddr fo_86_2_Da rfl) ?_)))
  refine .r0 rfl rfl (.storeR rfl sz_84_Da rfl rfl rfl (by assumption) (by first | exact Nat.le_of_ble_eq_true rfl | (simp; done) | (simp <;> omega))) ?_
  rintro _ H3009 ⟨rfl, g, d⟩
  replace f := f.sA g
  clear hbs
  have hbs := hb.st f hlo
  have c0 := hbs.1
  have c1 := hbs.2 p.toNat
  try simp only [Nat.zero_add, List.set_cons_succ, List.set_cons_zero] at d
  refine .nil (w _ _ (.seq (fun K6 s => .region (.mv rfl (.q rfl (.nilCheck rfl) (.q rfl (.fieldAddr fo_86_2_Da rfl) ?_))))))
  refine .q rfl (.load on_84_Da rfl (by first | assumption | exact Mem.of_get d 2 _ rfl)) ?_
  refine .q rfl (.shrU rfl rfl) (.q rfl (.andU rfl rfl) ?_)
  refine .q rfl (.conv64 us_84_Da it_2_Da rfl (Int.le_trans (by decide) (andU_le _).1) (Int.le_trans (andU_le _).2 (by decide))) ?_
  refine .mv rfl (.nil (s _ _ (.seq (fun K7 r => .seq (fun K8 z => ?_)))))
  refine .regionD mo_B (.q 0 (.q 1 (.q 2 (.q 3 (.q 4 (.q 5 (.q 6 (.q 7 (.q 8 (.q 9 (.done))))))))))) (by kernel_rfl) ?_
  refine .mv rfl rfl (.q rfl (.nilCheck rfl) (.q rfl (.fieldAddr fo_86_1_Da rfl) ?_))
  refine .q rfl (.load on_3_Da rfl (by first | assumption | exact Mem.of_get d 1 _ rfl)) ?_
  refine .mv rfl rfl (.q rfl (.nilCheck rfl) (.q rfl (.fieldAddr fo_86_0_Da rfl) ?_))
  refine .q rfl (.load on_22_Da rfl (by first | assumption | exact Mem.of_get d 0 _ rfl)) ?_
  refine .q rfl (.len sl_22_Da rfl) (.q rfl (.cmp rfl rfl rfl) ?_)
  refine .done ?_
  refine z _ _ ?_
  refine .cond rfl (fun m => ?_) (fun m => ?_)
  ·
   try simp only [sps] at m
   refine .seq (fun K9 u => ?_)
   refine .regionD mo_B (.q 0 (.q 1 (.q 2 (.q 3 (.q 4 (.q 5 (.q 6 (.q 7 (.q 8 (.q 9 (.q 10 (.q 11 (.q 12 (.c 13 0 (.done))))))))))))))) (by kernel_rfl) ?_
   refine .mv rfl rfl (.mv rfl rfl (.q rfl (.nilCheck rfl) (.q rfl (.fieldAddr fo_86_0_Da rfl) ?_)))
   refine .q rfl (.load on_22_Da rfl (by first | assumption | exact Mem.of_get d 0 _ rfl)) ?_
   refine .mv rfl rfl (.q rfl (.nilCheck rfl) (.q rfl (.fieldAddr fo_86_1_Da rfl) ?_))
   refine .q rfl (.load on_3_Da rfl (by first | assumption | exact Mem.of_get d 1 _ rfl)) ?_
   refine .q rfl (.idx1 sl_22_Da (by assumption) rfl rfl (by omega) (by omega)) ?_
   refine .q rfl (.loadE on_5_Da (by assumption) rfl (by omega)) ?_
   refine .q rfl (.conv64 us_5_Da it_2_Da rfl (by omega) (by omega)) ?_
   refine .q rfl (.add rfl rfl rfl (by omega) (by omega)) ?_
   refine .d0 rfl rfl rfl rfl (.quiet (.assign rfl) CIs.mk) ?_
   refine .done ?_
   refine u _ _ (.region (.mv rfl (.mv rfl (.q rfl (.nilCheck rfl) (.q rfl (.fieldAddr fo_86_1_Da rfl) ?_)))))
   refine .q rfl (.load on_3_Da rfl (by first | assumption | exact Mem.of_get d 1 _ rfl)) ?_
   refine .q rfl (.add rfl rfl rfl (by omega) (by omega)) ?_
   refine .q rfl (.nilCheck rfl) (.q rfl (.fieldAddr fo_86_1_Da rfl) ?_)
   refine .r0 rfl rfl (.storeR rfl sz_3_Da rfl rfl rfl (by assumption) (by first | exact Nat.le_of_ble_eq_true rfl | (simp; done) | (simp <;> omega))) ?_
   rintro _ H7008 ⟨rfl, j, e⟩
   replace f := f.sA j
   clear hbs c0 c1
   have hbs := hb.st f hlo
   have c1 := hbs.2 p.toNat
   try simp only [Nat.zero_add, List.set_cons_succ, List.set_cons_zero] at e
   refine .nil (r _ _ (.seq (fun K10 l => .region (.mv rfl (.mv rfl ?_)))))
   refine .q rfl (.rem rfl rfl (by omega)) ?_
   refine .mv rfl (.nil (l _ _ ?_))
   refine .ret ?_
   refine i _ _ ?_
   refine ⟨_, rfl, ?_⟩
   have hm := tmod_bd (x := Go.GL.andU ((IntKind.wrap .u64 (IntKind.wrap .u64 (hh * 6364136223846793005) + 1442695040888963407)).fdiv (2 ^ 33)) 16777215 + xs.getD p.toNat 0) (n := n) (by omega) (by omega)
   exact ⟨_, rfl, hm.1, fun _ => hm.2, fun h => by omega, f, a, xs, p + 1, _, e, ⟨by omega, by omega⟩, hx, hbs, hlt⟩
  try simp only [sps] at m
  refine .skip ?_
  refine r _ _ (.seq (fun K11 k => .region (.mv rfl (.mv rfl ?_))))
  refine .q rfl (.rem rfl rfl (by omega)) ?_
  refine .mv rfl (.nil (k _ _ ?_))
  refine .ret ?_
  refine i _ _ ?_
  refine ⟨_, rfl, ?_⟩
  have hm := tmod_bd (x := Go.GL.andU ((IntKind.wrap .u64 (IntKind.wrap .u64 (hh * 6364136223846793005) + 1442695040888963407)).fdiv (2 ^ 33)) 16777215) (n := n) (by omega) (by omega)
  exact ⟨_, rfl, hm.1, fun _ => hm.2, fun h => by omega, f, a, xs, p, _, d, ⟨p0, p1⟩, hx, hbs, hlt⟩
theorem l01From_c {a : Option Addr} {xs : List Int} {H : GHeap} (hb : Bytes H a xs := by assumption) (hlt : ∀ b o t, a = some ⟨b, o, t⟩ → b < H.next) (hx : xs.length ≤ 4096 := by omega) :
    GCalls Try.prog 29 [.slice a xs.length xs.length] H (fun v H' => H.Le H' ∧ ∃ g, v = .pointer (some ⟨g, 0, none⟩) ∧ H.next ≤ g ∧ DSrc 86 H' g) := by
  refine GCalls.body (N := 38) (rs := [.tmp 2]) Try.func29 rfl rfl rfl rfl (fun Qx l hend => ?_)
  refine .fg [0] rfl ?_
  have j := GHeap.Le.refl H
  have f := hb
  refine .seq (fun K1 a6 => .region (.mv rfl (.nil (a6 _ _ (.seq (fun K2 a3 => .region (.mv rfl (.mv rfl (.q rfl (.len sl_22_Da rfl) (.q rfl (.conv us_3_Da it_84_Da rfl) (.q rfl (.arith rfl rfl rfl) (.q rfl (.build bt_86_Da rfl rfl rfl) ?_))))))))))))
  refine .R rfl (.boxR rfl sz_86_Da rfl) ?_
  rintro _ a5 ⟨n, rfl, p, ge11, m⟩
  replace j := j.trans p
  refine .mv rfl (.nil (a3 _ _ (.seq (fun K3 x => .seq (fun K4 a1 => .region (.mv rfl (.nil (a1 _ _ ?_))))))))
  refine .block ?_
  refine .loopR (σ := Nat × Int) [(0, some _), (3, some _)] (fun (k, hh) => [(4, some (.int .i64 (k : Int)))]) (fun (k, hh) H' => St [n] a5 H' ∧ H'.get n = some (.row ([.slice a xs.length xs.length, .int .i64 0, .int .u64 hh]) 86 true) ∧ k ≤ xs.length) (fun (k, hh) => xs.length - k) ((0, IntKind.wrap .u64 (7019 + IntKind.wrap .u64 (xs.length : Int)))) ⟨rfl, rfl, trivial⟩ ⟨rfl, trivial⟩ ?_ ?_
  ·
   refine ⟨.refl _ _, by first | assumption | exact m | simpa using m, ?_⟩
   omega
  rintro ⟨k, hh⟩ HL1 ⟨e, d, hI⟩ KL1 s
  refine .forget (fr' := [(4, some (.int .i64 (k : Int))), (0, some _), (3, some _)]) ⟨rfl, rfl, rfl, trivial⟩ ?_
  replace j := j.st e (fun k hk => ⟨by omega, trivial⟩)
  replace hb := f.mono j
  refine .seq (fun K5 a2 => .seq (fun K6 w => .region (.mv rfl (.mv rfl (.q rfl (.len sl_22_Da rfl) (.q rfl (.cmp rfl rfl rfl) (.mv rfl ?_)))))))
  refine .split (fun r => ?_) (fun r => ?_)
  ·
   try simp only [sps] at r
   refine .qg rfl (.move rfl) (.qg rfl (.cmp rfl rfl rfl) (.q rfl (.pickT rfl rfl) (.nil (w _ _ ?_))))
   refine .cond rfl (fun u => ?_) (fun u => ?_)
   ·
    simp only [sps] at u
    refine .skip ?_
    refine a2 _ _ (.seq (fun K7 y => ?_))
    refine .block ?_
    refine .regionD mo_B (.q 0 (.q 1 (.q 2 (.q 3 (.q 4 (.q 5 (.q 6 (.q 7 (.q 8 (.q 9 (.q 10 (.q 11 (.q 12 (.q 13 (.q 14 (.c 15 0 (.done))))))))))))))))) (by kernel_rfl) ?_
    have c0 := hb.1
    refine .mv rfl rfl (.mv rfl rfl (.q rfl (.nilCheck rfl) (.q rfl (.fieldAddr fo_86_2_Da rfl) ?_)))
    refine .q rfl (.load on_84_Da rfl (by first | assumption | exact Mem.of_get d 2 _ rfl)) ?_
    refine .q rfl (.arith rfl rfl rfl) (.mv rfl rfl (.mv rfl rfl ?_))
    refine .q rfl (.idxN sl_22_Da (by assumption) rfl rfl (by omega)) ?_
    refine .q rfl (.loadE on_5_Da (by assumption) rfl (by omega)) ?_
    refine .q rfl (.conv us_5_Da it_84_Da rfl) (.q rfl (.arith rfl rfl rfl) (.q rfl (.arith rfl rfl rfl) (.q rfl (.nilCheck rfl) (.q rfl (.fieldAddr fo_86_2_Da rfl) ?_))))
    refine .r0 rfl rfl rfl (.storeR rfl sz_84_Da rfl rfl rfl (by assumption) (by first | exact Nat.le_of_ble_eq_true rfl | (simp; done) | (simp <;> omega))) ?_
    rintro _ H5015 ⟨rfl, h, i⟩
    replace e := e.sA h
    try simp only [Nat.zero_add, List.set_cons_succ, List.set_cons_zero] at i
    refine .done ?_
    refine y _ _ (.region (.mv rfl ?_))
    refine .q rfl (.add rfl rfl rfl (by omega) (by omega)) ?_
    refine .mv rfl (.nil ?_)
    refine s ((k + 1, IntKind.wrap .u64 (IntKind.wrap .u64 (IntKind.wrap .u64 (hh * 1099511628211) + IntKind.wrap .u64 (xs.getD k 0)) + 7))) _ _ ?_ ?_ ⟨rfl, rfl, rfl, trivial⟩
    ·
     refine ⟨e, by assumption, ?_⟩
     omega
    (dsimp only; omega)
   simp only [sps] at u
   refine .exit ?_
   refine x _ _ (.seq (fun K8 a0 => .region (.mv rfl (.mv rfl (.nil (a0 _ _ ?_))))))
   refine .ret ?_
   refine l _ _ ?_
   refine ⟨_, rfl, ?_⟩
   exact ⟨j, n, rfl, by omega, a, xs, 0, hh, d, ⟨by omega, by omega⟩, hx, hb, fun b o t ha => by have := hlt b o t ha; omega⟩
  try simp only [sps] at r
  refine .z rfl (.z rfl (.q rfl (.pickF rfl rfl) (.nil (w _ _ ?_))))
  refine .condF rfl ?_
  refine .exit ?_
  refine x _ _ (.seq (fun K9 a4 => .region (.mv rfl (.mv rfl (.nil (a4 _ _ ?_))))))
  refine .ret ?_
  refine l _ _ ?_
  refine ⟨_, rfl, ?_⟩
  exact ⟨j, n, rfl, by omega, a, xs, 0, hh, d, ⟨by omega, by omega⟩, hx, hb, fun b o t ha => by have := hlt b o t ha; omega⟩
theorem l01Pick_c {gS : Nat} {a : Option Addr} {xs : List Int} {H : GHeap} (hs : DSrc 86 H gS := by assumption) (hl : ∀ H', St [gS] H H' → Ints H' a xs) (h0 : 0 < xs.length) :
    GCalls Try.prog 106 [.pointer (some ⟨gS, 0, none⟩), .slice a xs.length xs.length] H (fun v H' => ∃ i, i < xs.length ∧ v = .int .i64 (xs.getD i 0) ∧ St [gS] H H' ∧ DSrc 86 H' gS) := by
  refine GCalls.body (N := 12) (rs := [.tmp 4]) Try.func106 rfl rfl rfl rfl (fun Qx c hend => ?_)
  refine .fg [0, 1] rfl ?_
  have b := St.refl [gS] H
  refine .seq (fun K1 f => .region (.mv rfl (.nil (f _ _ (.seq (fun K2 d => .region (.mv rfl (.mv rfl (.mv rfl (.q rfl (.len sl_24_A rfl) ?_))))))))))
  refine .call rfl rfl rfl rfl @Try.call30 rfl (l01Next_c) ?_
  rintro _ H9 ⟨k9, rfl, ka9, kb9, kc9, e, hs⟩
  replace b := b.sA e
  have i0 := hl _ b
  refine .q rfl (.idx1 sl_24_A (by assumption) rfl rfl (by omega) (by omega)) ?_
  refine .q rfl (.loadI on_2_A (by assumption) rfl (by omega)) ?_
  refine .mv rfl (.nil (d _ _ ?_))
  refine .ret ?_
  refine c _ _ ?_
  refine ⟨_, rfl, ?_⟩
  exact ⟨_, by omega, rfl, b, hs⟩
end Go.Proofs.Ytfanjkbaemhbmaa
namespace Go.Proofs.Ytfanjkbaemhbmaa
open Go Go.GL Go.RowKit Go.Proofs
set_option maxHeartbeats 8000000 in
theorem l03Op_c {c : Cat} {p : CatP} {N : Nat} {H : GHeap} (hin : c.In H p := by assumption) (hr : c.Rect N) (hN : N ≤ 100000) :
    GCalls Try.prog 125 [.agg (c.cells p).toArray] H (NewCatO 2 24 H c.op) := by
  obtain ⟨b1, b2, b3, -, -, b6, -, b8, b9, -⟩ := id hr
  refine GCalls.body (N := 53) (rs := [.cell 2 27]) Try.func125 rfl rfl rfl rfl (fun Qx aG hend => ?_)
  refine .fg [0] rfl ?_
  have m := GHeap.Le.refl H
  have d := hin
  refine .seq (fun K1 bI => .region ?_)
  refine .R rfl (.boxR rfl sz_27_D rfl) ?_
  rintro _ H1 ⟨g1, rfl, bP, ge1, l⟩
  replace m := m.trans bP
  have lt_at1 := GHeap.ltg l
  replace hin := d.mono m
  have u : Cat.At _ g1 0 c p := ⟨Mem.of_get l, hin⟩
  refine .R rfl (.allocR rfl ze_27_Hj rfl) ?_
  rintro _ H2 ⟨g2, rfl, aY, ge2, x0⟩
  replace m := m.trans aY
  replace l := aY.2 _ _ l
  have lt_at2 := GHeap.ltg x0
  replace hin := d.mono m
  clear u
  have u : Cat.At _ g1 0 c p := ⟨Mem.of_get l, hin⟩
  obtain ⟨bD, x8, bG, bQ, -, -, t9, -, -⟩ := u.get
  refine .nil (bI _ _ (.seq (fun K2 bM => ?_)))
  refine .regionD mo_B (.q 0 (.q 1 (.q 2 (.q 3 (.q 5 (.q 6 (.q 8 (.q 9 (.or (.c 4 1 (.or (.c 7 1 (.or (.c 10 1 (.or (.c 11 1 (.q 12 (.c 13 1 (.c 14 1 (.done))))) (.c 13 1 (.c 11 1 (.q 12 (.c 14 1 (.done))))))) (.or (.c 11 1 (.or (.c 10 1 (.q 12 (.c 13 1 (.c 14 1 (.done))))) (.c 13 1 (.c 10 1 (.q 12 (.c 14 1 (.done))))))) (.c 13 1 (.or (.c 10 1 (.c 11 1 (.q 12 (.c 14 1 (.done))))) (.c 11 1 (.c 10 1 (.q 12 (.c 14 1 (.done)))))))))) (.or (.c 11 1 (.or (.c 7 1 (.or (.c 10 1 (.q 12 (.c 13 1 (.c 14 1 (.done))))) (.c 13 1 (.c 10 1 (.q 12 (.c 14 1 (.done))))))) (.c 13 1 (.c 7 1 (.c 10 1 (.q 12 (.c 14 1 (.done)))))))) (.c 13 1 (.or (.c 7 1 (.or (.c 10 1 (.c 11 1 (.q 12 (.c 14 1 (.done))))) (.c 11 1 (.c 10 1 (.q 12 (.c 14 1 (.done))))))) (.c 11 1 (.c 7 1 (.c 10 1 (.q 12 (.c 14 1 (.done))))))))))) (.or (.c 11 1 (.or (.c 4 1 (.or (.c 7 1 (.or (.c 10 1 (.q 12 (.c 13 1 (.c 14 1 (.done))))) (.c 13 1 (.c 10 1 (.q 12 (.c 14 1 (.done))))))) (.c 13 1 (.c 7 1 (.c 10 1 (.q 12 (.c 14 1 (.done)))))))) (.c 13 1 (.c 4 1 (.c 7 1 (.c 10 1 (.q 12 (.c 14 1 (.done))))))))) (.c 13 1 (.or (.c 4 1 (.or (.c 7 1 (.or (.c 10 1 (.c 11 1 (.q 12 (.c 14 1 (.done))))) (.c 11 1 (.c 10 1 (.q 12 (.c 14 1 (.done))))))) (.c 11 1 (.c 7 1 (.c 10 1 (.q 12 (.c 14 1 (.done)))))))) (.c 11 1 (.c 4 1 (.c 7 1 (.c 10 1 (.q 12 (.c 14 1 (.done))))))))))))))))))) (by kernel_rfl) ?_
  refine .cut [(0, some _), (1, some _), (2, some _)] ⟨rfl, rfl, rfl, trivial⟩ (fun rest fr' H' => ∃ t1 t7 t5 s2 g3, Sub ((11, some (.slice (some ⟨t1, 0, none⟩) c.tgt.length c.tgt.length)) :: (14, some (.slice (some ⟨t7, 0, none⟩) c.src.length c.src.length)) :: (17, some (.slice (some ⟨t5, 0, none⟩) c.idn.length c.idn.length)) :: (18, some (.slice (some ⟨s2, 0, none⟩) 0 0)) :: (3, some (.pointer (some ⟨g3, 0, none⟩))) :: rest) fr' ∧ H2.Le H' ∧ H2.next ≤ t1 ∧ H2.next ≤ t7 ∧ H2.next ≤ t5 ∧ H2.next ≤ s2 ∧ H2.next ≤ g3 ∧ H'.get t1 = some (.row (ints c.tgt) 2 true) ∧ H'.get t7 = some (.row (ints c.src) 2 true) ∧ H'.get t5 = some (.row (ints c.idn) 2 true) ∧ H'.get s2 = some (.row ([]) 24 true) ∧ H'.get g3 = some (.row ([.int .i64 c.obj, .slice (some ⟨t1, 0, none⟩) c.tgt.length c.tgt.length, .slice (some ⟨t7, 0, none⟩) c.src.length c.src.length, .slice (some ⟨t5, 0, none⟩) c.idn.length c.idn.length, .slice (some ⟨s2, 0, none⟩) 0 0]) 27 true) ∧ t1 ≠ t7 ∧ t1 ≠ t5 ∧ t1 ≠ s2 ∧ t1 ≠ g3 ∧ t7 ≠ t5 ∧ t7 ≠ s2 ∧ t7 ≠ g3 ∧ t5 ≠ s2 ∧ t5 ≠ g3 ∧ s2 ≠ g3) ?_ ?_
  ·
   have j := GHeap.Le.refl H2
   refine .qB rfl (.refl _) (.fieldAddr fo_27_0_B rfl) ?_
   refine .q rfl (.load on_2_A rfl (by first | assumption | exact Mem.of_get l 0 _ rfl)) ?_
   refine .qB rfl (.refl _) (.fieldAddr fo_27_2_B rfl) ?_
   refine .q rfl (.load on_24_B rfl (by first | assumption | exact Mem.of_get l 2 _ rfl)) ?_
   refine .qB rfl (.refl _) (.fieldAddr fo_27_1_B rfl) ?_
   refine .q rfl (.load on_24_B rfl (by first | assumption | exact Mem.of_get l 1 _ rfl)) ?_
   refine .qB rfl (.refl _) (.fieldAddr fo_27_3_B rfl) ?_
   refine .q rfl (.load on_24_B rfl (by first | assumption | exact Mem.of_get l 3 _ rfl)) ?_
   refine .orI ?_ ?_
   ·
    refine .call1 rfl rfl rfl rfl rfl @Try.call108 rfl (l01Own_c) ?_
    rintro _ H11x2 ⟨o1, a5, rfl, b, ge11x2⟩
    have e := o1
    refine ⟨e, ?_⟩
    replace m := m.trans o1
    replace l := o1.2 _ _ l
    have lt_at11x2 := GHeap.ltg b
    replace j := j.trans o1
    refine .orI ?_ ?_
    ·
     replace hin := d.mono m
     clear u bD x8 bG bQ t9
     have u : Cat.At _ g1 0 c p := ⟨Mem.of_get l, hin⟩
     obtain ⟨-, -, -, -, -, m7, -, -, -⟩ := u.get
     refine .call1 rfl rfl rfl rfl rfl @Try.call108 rfl (l01Own_c) ?_
     rintro _ H14x2 ⟨l5, l0, rfl, i, ge14x2⟩
     replace e := e.trans l5
     refine ⟨e, ?_⟩
     replace m := m.trans l5
     replace l := l5.2 _ _ l
     replace b := l5.2 _ _ b
     have lt_at14x2 := GHeap.ltg i
     replace j := j.trans l5
     refine .orI ?_ ?_
     ·
      replace hin := d.mono m
      clear u m7
      have u : Cat.At _ g1 0 c p := ⟨Mem.of_get l, hin⟩
      obtain ⟨-, -, -, -, -, -, -, o8, -⟩ := u.get
      refine .call1 rfl rfl rfl rfl rfl @Try.call108 rfl (l01Own_c) ?_
      rintro _ H17x2 ⟨o5, u5, rfl, a1, ge17x2⟩
      replace e := e.trans o5
      refine ⟨e, ?_⟩
      replace b := o5.2 _ _ b
      replace i := o5.2 _ _ i
      have lt_at17x2 := GHeap.ltg a1
      replace j := j.trans o5
      refine .orI ?_ ?_
      ·
       refine .c1 rfl rfl rfl rfl (.litA rfl sl_25_B ze_24_Hj rfl rfl rfl rfl) ?_
       rintro _ H18x2 ⟨y4, rfl, m6, ge18x2, j7⟩
       replace e := e.trans m6
       refine ⟨e, ?_⟩
       replace b := m6.2 _ _ b
       replace i := m6.2 _ _ i
       replace a1 := m6.2 _ _ a1
       have lt_at18x2 := GHeap.ltg j7
       replace j := j.trans m6
       refine .qB rfl e (.build bt_27_Hj rfl rfl rfl) ?_
       refine .c1 rfl rfl rfl rfl (.allocR rfl ze_27_Hj rfl) ?_
       rintro _ H3x2 ⟨aH, rfl, n0, ge3x2, at3x2⟩
       replace e := e.trans n0
       refine ⟨e, ?_⟩
       replace b := n0.2 _ _ b
       replace i := n0.2 _ _ i
       replace a1 := n0.2 _ _ a1
       replace j7 := n0.2 _ _ j7
       replace j := j.trans n0
       refine .r1 rfl rfl rfl (.fillA rfl sz_27_D rfl rfl rfl rfl) ?_
       rintro _ H1014 ⟨rfl, k1, w7⟩
       replace e := e.st k1 (fun k hk => ⟨by omega, trivial⟩)
       refine ⟨e, ?_⟩
       replace b := k1.s b
       replace i := k1.s i
       replace a1 := k1.s a1
       replace j7 := k1.s j7
       replace j := j.st k1 (fun k hk => ⟨by omega, trivial⟩)
       refine .done ?_
       exact ⟨a5, l0, u5, y4, aH, ⟨rfl, rfl, rfl, rfl, rfl, rfl, rfl, rfl, trivial⟩, j, by omega, by omega, by omega, by omega, by omega, by first | assumption | simpa using b, by first | assumption | simpa using i, by first | assumption | simpa using a1, by first | assumption | simpa using j7, by first | assumption | simpa using w7, by omega, by omega, by omega, by omega, by omega, by omega, by omega, by omega, by omega, by omega⟩
      refine .c1 rfl rfl rfl rfl (.allocR rfl ze_27_Hj rfl) ?_
      rintro _ H3x3 ⟨aK, rfl, p1, ge3x3, s7⟩
      replace e := e.trans p1
      refine ⟨e, ?_⟩
      replace b := p1.2 _ _ b
      replace i := p1.2 _ _ i
      replace a1 := p1.2 _ _ a1
      have lt_at3x3 := GHeap.ltg s7
      replace j := j.trans p1
      refine .c1 rfl rfl rfl rfl (.litA rfl sl_25_B ze_24_Hj rfl rfl rfl rfl) ?_
      rintro _ H18x3 ⟨y7, rfl, k2, ge18x3, p9⟩
      replace e := e.trans k2
      refine ⟨e, ?_⟩
      replace b := k2.2 _ _ b
      replace i := k2.2 _ _ i
      replace a1 := k2.2 _ _ a1
      replace s7 := k2.2 _ _ s7
      replace j := j.trans k2
      refine .qB rfl e (.build bt_27_Hj rfl rfl rfl) ?_
      refine .r1 rfl rfl rfl (.fillA rfl sz_27_D rfl rfl rfl rfl) ?_
      rintro _ H1014x2 ⟨rfl, d6, s3⟩
      replace e := e.st d6 (fun k hk => ⟨by omega, trivial⟩)
      refine ⟨e, ?_⟩
      replace b := d6.s b
      replace i := d6.s i
      replace a1 := d6.s a1
      replace p9 := d6.s p9
      replace j := j.st d6 (fun k hk => ⟨by omega, trivial⟩)
      refine .done ?_
      exact ⟨a5, l0, u5, y7, aK, ⟨rfl, rfl, rfl, rfl, rfl, rfl, rfl, rfl, trivial⟩, j, by omega, by omega, by omega, by omega, by omega, by first | assumption | simpa using b, by first | assumption | simpa using i, by first | assumption | simpa using a1, by first | assumption | simpa using p9, by first | assumption | simpa using s3, by omega, by omega, by omega, by omega, by omega, by omega, by omega, by omega, by omega, by omega⟩
     refine .orI ?_ ?_
     ·
      refine .c1 rfl rfl rfl rfl (.litA rfl sl_25_B ze_24_Hj rfl rfl rfl rfl) ?_
      rintro _ H18x4 ⟨u4, rfl, j3, ge18x4, a0⟩
      replace e := e.trans j3
      refine ⟨e, ?_⟩
      replace m := m.trans j3
      replace l := j3.2 _ _ l
      replace b := j3.2 _ _ b
      replace i := j3.2 _ _ i
      have lt_at18x4 := GHeap.ltg a0
      replace j := j.trans j3
      refine .orI ?_ ?_
      ·
       replace hin := d.mono m
       have u : Cat.At _ g1 0 c p := ⟨Mem.of_get l, hin⟩
       obtain ⟨-, -, -, -, -, -, -, o8, -⟩ := u.get
       refine .call1 rfl rfl rfl rfl rfl @Try.call108 rfl (l01Own_c) ?_
       rintro _ H17x3 ⟨m5, x6, rfl, j6, ge17x3⟩
       replace e := e.trans m5
       refine ⟨e, ?_⟩
       replace b := m5.2 _ _ b
       replace i := m5.2 _ _ i
       replace a0 := m5.2 _ _ a0
       have lt_at17x3 := GHeap.ltg j6
       replace j := j.trans m5
       refine .qB rfl e (.build bt_27_Hj rfl rfl rfl) ?_
       refine .c1 rfl rfl rfl rfl (.allocR rfl ze_27_Hj rfl) ?_
       rintro _ H3x4 ⟨aO, rfl, n3, ge3x4, at3x4⟩
       replace e := e.trans n3
       refine ⟨e, ?_⟩
       replace b := n3.2 _ _ b
       replace i := n3.2 _ _ i
       replace a0 := n3.2 _ _ a0
       replace j6 := n3.2 _ _ j6
       replace j := j.trans n3
       refine .r1 rfl rfl rfl (.fillA rfl sz_27_D rfl rfl rfl rfl) ?_
       rintro _ H1014x3 ⟨rfl, d4, s9⟩
       replace e := e.st d4 (fun k hk => ⟨by omega, trivial⟩)
       refine ⟨e, ?_⟩
       replace b := d4.s b
       replace i := d4.s i
       replace a0 := d4.s a0
       replace j6 := d4.s j6
       replace j := j.st d4 (fun k hk => ⟨by omega, trivial⟩)
       refine .done ?_
       exact ⟨a5, l0, x6, u4, aO, ⟨rfl, rfl, rfl, rfl, rfl, rfl, rfl, rfl, trivial⟩, j, by omega, by omega, by omega, by omega, by omega, by first | assumption | simpa using b, by first | assumption | simpa using i, by first | assumption | simpa using j6, by first | assumption | simpa using a0, by first | assumption | simpa using s9, by omega, by omega, by omega, by omega, by omega, by omega, by omega, by omega, by omega, by omega⟩
      refine .c1 rfl rfl rfl rfl (.allocR rfl ze_27_Hj rfl) ?_
      rintro _ H3x5 ⟨aV, rfl, m3, ge3x5, t6⟩
      replace e := e.trans m3
      refine ⟨e, ?_⟩
      replace m := m.trans m3
      replace l := m3.2 _ _ l
      replace b := m3.2 _ _ b
      replace i := m3.2 _ _ i
      replace a0 := m3.2 _ _ a0
      have lt_at3x5 := GHeap.ltg t6
      replace j := j.trans m3
      replace hin := d.mono m
      have u : Cat.At _ g1 0 c p := ⟨Mem.of_get l, hin⟩
      obtain ⟨-, -, -, -, -, -, -, o8, -⟩ := u.get
      refine .call1 rfl rfl rfl rfl rfl @Try.call108 rfl (l01Own_c) ?_
      rintro _ H17x4 ⟨j9, z1, rfl, p5, ge17x4⟩
      replace e := e.trans j9
      refine ⟨e, ?_⟩
      replace b := j9.2 _ _ b
      replace i := j9.2 _ _ i
      replace a0 := j9.2 _ _ a0
      replace t6 := j9.2 _ _ t6
      replace j := j.trans j9
      refine .qB rfl e (.build bt_27_Hj rfl rfl rfl) ?_
      refine .r1 rfl rfl rfl (.fillA rfl sz_27_D rfl rfl rfl rfl) ?_
      rintro _ H1014x4 ⟨rfl, d3, s4⟩
      replace e := e.st d3 (fun k hk => ⟨by omega, trivial⟩)
      refine ⟨e, ?_⟩
      replace b := d3.s b
      replace i := d3.s i
      replace a0 := d3.s a0
      replace p5 := d3.s p5
      replace j := j.st d3 (fun k hk => ⟨by omega, trivial⟩)
      refine .done ?_
      exact ⟨a5, l0, z1, u4, aV, ⟨rfl, rfl, rfl, rfl, rfl, rfl, rfl, rfl, trivial⟩, j, by omega, by omega, by omega, by omega, by omega, by first | assumption | simpa using b, by first | assumption | simpa using i, by first | assumption | simpa using p5, by first | assumption | simpa using a0, by first | assumption | simpa using s4, by omega, by omega, by omega, by omega, by omega, by omega, by omega, by omega, by omega, by omega⟩
     refine .c1 rfl rfl rfl rfl (.allocR rfl ze_27_Hj rfl) ?_
     rintro _ H3x6 ⟨q8, rfl, m9, ge3x6, i0⟩
     replace e := e.trans m9
     refine ⟨e, ?_⟩
     replace m := m.trans m9
     replace l := m9.2 _ _ l
     replace b := m9.2 _ _ b
     replace i := m9.2 _ _ i
     have lt_at3x6 := GHeap.ltg i0
     replace j := j.trans m9
     refine .orI ?_ ?_
     ·
      replace hin := d.mono m
      have u : Cat.At _ g1 0 c p := ⟨Mem.of_get l, hin⟩
      obtain ⟨-, -, -, -, -, -, -, o8, -⟩ := u.get
      refine .call1 rfl rfl rfl rfl rfl @Try.call108 rfl (l01Own_c) ?_
      rintro _ H17x5 ⟨l9, y1, rfl, k7, ge17x5⟩
      replace e := e.trans l9
      refine ⟨e, ?_⟩
      replace b := l9.2 _ _ b
      replace i := l9.2 _ _ i
      replace i0 := l9.2 _ _ i0
      have lt_at17x5 := GHeap.ltg k7
      replace j := j.trans l9
      refine .c1 rfl rfl rfl rfl (.litA rfl sl_25_B ze_24_Hj rfl rfl rfl rfl) ?_
      rintro _ H18x5 ⟨x9, rfl, k6, ge18x5, p4⟩
      replace e := e.trans k6
      refine ⟨e, ?_⟩
      replace b := k6.2 _ _ b
      replace i := k6.2 _ _ i
      replace i0 := k6.2 _ _ i0
      replace k7 := k6.2 _ _ k7
      replace j := j.trans k6
      refine .qB rfl e (.build bt_27_Hj rfl rfl rfl) ?_
      refine .r1 rfl rfl rfl (.fillA rfl sz_27_D rfl rfl rfl rfl) ?_
      rintro _ H1014x5 ⟨rfl, d1, t8⟩
      replace e := e.st d1 (fun k hk => ⟨by omega, trivial⟩)
      refine ⟨e, ?_⟩
      have c9 : NE a5 q8 := .a
      replace b := d1.s b c9.ne
      have d0 : NE l0 q8 := .a
      replace i := d1.s i d0.ne
      replace k7 := d1.s k7
      replace p4 := d1.s p4
      replace j := j.st d1 (fun k hk => ⟨by omega, trivial⟩)
      refine .done ?_
      exact ⟨a5, l0, y1, x9, q8, ⟨rfl, rfl, rfl, rfl, rfl, rfl, rfl, rfl, trivial⟩, j, by omega, by omega, by omega, by omega, by omega, by first | assumption | simpa using b, by first | assumption | simpa using i, by first | assumption | simpa using k7, by first | assumption | simpa using p4, by first | assumption | simpa using t8, by omega, by omega, by omega, by omega, by omega, by omega, by omega, by omega, by omega, by omega⟩
     refine .c1 rfl rfl rfl rfl (.litA rfl sl_25_B ze_24_Hj rfl rfl rfl rfl) ?_
     rintro _ H18x6 ⟨x1, rfl, h0, ge18x6, k9⟩
     replace e := e.trans h0
     refine ⟨e, ?_⟩
     replace m := m.trans h0
     replace l := h0.2 _ _ l
     replace b := h0.2 _ _ b
     replace i := h0.2 _ _ i
     replace i0 := h0.2 _ _ i0
     have lt_at18x6 := GHeap.ltg k9
     replace j := j.trans h0
     replace hin := d.mono m
     have u : Cat.At _ g1 0 c p := ⟨Mem.of_get l, hin⟩
     obtain ⟨-, -, -, -, -, -, -, o8, -⟩ := u.get
     refine .call1 rfl rfl rfl rfl rfl @Try.call108 rfl (l01Own_c) ?_
     rintro _ H17x6 ⟨j0, y2, rfl, p7, ge17x6⟩
     replace e := e.trans j0
     refine ⟨e, ?_⟩
     replace b := j0.2 _ _ b
     replace i := j0.2 _ _ i
     replace i0 := j0.2 _ _ i0
     replace k9 := j0.2 _ _ k9
     replace j := j.trans j0
     refine .qB rfl e (.build bt_27_Hj rfl rfl rfl) ?_
     refine .r1 rfl rfl rfl (.fillA rfl sz_27_D rfl rfl rfl rfl) ?_
     rintro _ H1014x6 ⟨rfl, d5, t0⟩
     replace e := e.st d5 (fun k hk => ⟨by omega, trivial⟩)
     refine ⟨e, ?_⟩
     have c9 : NE a5 q8 := .a
     replace b := d5.s b c9.ne
     have d0 : NE l0 q8 := .a
     replace i := d5.s i d0.ne
     replace k9 := d5.s k9
     replace p7 := d5.s p7
     replace j := j.st d5 (fun k hk => ⟨by omega, trivial⟩)
     refine .done ?_
     exact ⟨a5, l0, y2, x1, q8, ⟨rfl, rfl, rfl, rfl, rfl, rfl, rfl, rfl, trivial⟩, j, by omega, by omega, by omega, by omega, by omega, by first | assumption | simpa using b, by first | assumption | simpa using i, by first | assumption | simpa using p7, by first | assumption | simpa using k9, by first | assumption | simpa using t0, by omega, by omega, by omega, by omega, by omega, by omega, by omega, by omega, by omega, by omega⟩
    refine .orI ?_ ?_
    ·
     refine .c1 rfl rfl rfl rfl (.litA rfl sl_25_B ze_24_Hj rfl rfl rfl rfl) ?_
     rintro _ H18x7 ⟨t3, rfl, l8, ge18x7, t⟩
     replace e := e.trans l8
     refine ⟨e, ?_⟩
     replace m := m.trans l8
     replace l := l8.2 _ _ l
     replace b := l8.2 _ _ b
     have lt_at18x7 := GHeap.ltg t
     replace j := j.trans l8
     refine .orI ?_ ?_
     ·
      replace hin := d.mono m
      have u : Cat.At _ g1 0 c p := ⟨Mem.of_get l, hin⟩
      obtain ⟨-, -, -, -, -, m7, -, -, -⟩ := u.get
      refine .call1 rfl rfl rfl rfl rfl @Try.call108 rfl (l01Own_c) ?_
      rintro _ H14x3 ⟨k3, u8, rfl, a3, ge14x3⟩
      replace e := e.trans k3
      refine ⟨e, ?_⟩
      replace m := m.trans k3
      replace l := k3.2 _ _ l
      replace b := k3.2 _ _ b
      replace t := k3.2 _ _ t
      have lt_at14x3 := GHeap.ltg a3
      replace j := j.trans k3
      refine .orI ?_ ?_
      ·
       replace hin := d.mono m
       clear u m7
       have u : Cat.At _ g1 0 c p := ⟨Mem.of_get l, hin⟩
       obtain ⟨-, -, -, -, -, -, -, o8, -⟩ := u.get
       refine .call1 rfl rfl rfl rfl rfl @Try.call108 rfl (l01Own_c) ?_
       rintro _ H17x7 ⟨m4, y0, rfl, i6, ge17x7⟩
       replace e := e.trans m4
       refine ⟨e, ?_⟩
       replace b := m4.2 _ _ b
       replace t := m4.2 _ _ t
       replace a3 := m4.2 _ _ a3
       have lt_at17x7 := GHeap.ltg i6
       replace j := j.trans m4
       refine .qB rfl e (.build bt_27_Hj rfl rfl rfl) ?_
       refine .c1 rfl rfl rfl rfl (.allocR rfl ze_27_Hj rfl) ?_
       rintro _ H3x7 ⟨aC, rfl, n2, ge3x7, at3x7⟩
       replace e := e.trans n2
       refine ⟨e, ?_⟩
       replace b := n2.2 _ _ b
       replace t := n2.2 _ _ t
       replace a3 := n2.2 _ _ a3
       replace i6 := n2.2 _ _ i6
       replace j := j.trans n2
       refine .r1 rfl rfl rfl (.fillA rfl sz_27_D rfl rfl rfl rfl) ?_
       rintro _ H1014x7 ⟨rfl, d7, t4⟩
       replace e := e.st d7 (fun k hk => ⟨by omega, trivial⟩)
       refine ⟨e, ?_⟩
       replace b := d7.s b
       replace t := d7.s t
       replace a3 := d7.s a3
       replace i6 := d7.s i6
       replace j := j.st d7 (fun k hk => ⟨by omega, trivial⟩)
       refine .done ?_
       exact ⟨a5, u8, y0, t3, aC, ⟨rfl, rfl, rfl, rfl, rfl, rfl, rfl, rfl, trivial⟩, j, by omega, by omega, by omega, by omega, by omega, by first | assumption | simpa using b, by first | assumption | simpa using a3, by first | assumption | simpa using i6, by first | assumption | simpa using t, by first | assumption | simpa using t4, by omega, by omega, by omega, by omega, by omega, by omega, by omega, by omega, by omega, by omega⟩
      refine .c1 rfl rfl rfl rfl (.allocR rfl ze_27_Hj rfl) ?_
      rintro _ H3x8 ⟨aN, rfl, m1, ge3x8, s8⟩
      replace e := e.trans m1
      refine ⟨e, ?_⟩
      replace m := m.trans m1
      replace l := m1.2 _ _ l
      replace b := m1.2 _ _ b
      replace t := m1.2 _ _ t
      replace a3 := m1.2 _ _ a3
      have lt_at3x8 := GHeap.ltg s8
      replace j := j.trans m1
      replace hin := d.mono m
      have u : Cat.At _ g1 0 c p := ⟨Mem.of_get l, hin⟩
      obtain ⟨-, -, -, -, -, -, -, o8, -⟩ := u.get
      refine .call1 rfl rfl rfl rfl rfl @Try.call108 rfl (l01Own_c) ?_
      rintro _ H17x8 ⟨j5, y3, rfl, q0, ge17x8⟩
      replace e := e.trans j5
      refine ⟨e, ?_⟩
      replace b := j5.2 _ _ b
      replace t := j5.2 _ _ t
      replace a3 := j5.2 _ _ a3
      replace s8 := j5.2 _ _ s8
      replace j := j.trans j5
      refine .qB rfl e (.build bt_27_Hj rfl rfl rfl) ?_
      refine .r1 rfl rfl rfl (.fillA rfl sz_27_D rfl rfl rfl rfl) ?_
      rintro _ H1014x8 ⟨rfl, d8, s5⟩
      replace e := e.st d8 (fun k hk => ⟨by omega, trivial⟩)
      refine ⟨e, ?_⟩
      replace b := d8.s b
      replace t := d8.s t
      replace a3 := d8.s a3
      replace q0 := d8.s q0
      replace j := j.st d8 (fun k hk => ⟨by omega, trivial⟩)
      refine .done ?_
      exact ⟨a5, u8, y3, t3, aN, ⟨rfl, rfl, rfl, rfl, rfl, rfl, rfl, rfl, trivial⟩, j, by omega, by omega, by omega, by omega, by omega, by first | assumption | simpa using b, by first | assumption | simpa using a3, by first | assumption | simpa using q0, by first | assumption | simpa using t, by first | assumption | simpa using s5, by omega, by omega, by omega, by omega, by omega, by omega, by omega, by omega, by omega, by omega⟩
     refine .c1 rfl rfl rfl rfl (.allocR rfl ze_27_Hj rfl) ?_
     rintro _ H3x9 ⟨aP, rfl, n1, ge3x9, o9⟩
     replace e := e.trans n1
     refine ⟨e, ?_⟩
     replace m := m.trans n1
     replace l := n1.2 _ _ l
     replace b := n1.2 _ _ b
     replace t := n1.2 _ _ t
     have lt_at3x9 := GHeap.ltg o9
     replace j := j.trans n1
     replace hin := d.mono m
     have u : Cat.At _ g1 0 c p := ⟨Mem.of_get l, hin⟩
     obtain ⟨-, -, -, -, -, m7, -, -, -⟩ := u.get
     refine .call1 rfl rfl rfl rfl rfl @Try.call108 rfl (l01Own_c) ?_
     rintro _ H14x4 ⟨h4, y8, rfl, j1, ge14x4⟩
     replace e := e.trans h4
     refine ⟨e, ?_⟩
     replace m := m.trans h4
     replace l := h4.2 _ _ l
     replace b := h4.2 _ _ b
     replace t := h4.2 _ _ t
     replace o9 := h4.2 _ _ o9
     have lt_at14x4 := GHeap.ltg j1
     replace j := j.trans h4
     replace hin := d.mono m
     clear u m7
     have u : Cat.At _ g1 0 c p := ⟨Mem.of_get l, hin⟩
     obtain ⟨-, -, -, -, -, -, -, o8, -⟩ := u.get
     refine .call1 rfl rfl rfl rfl rfl @Try.call108 rfl (l01Own_c) ?_
     rintro _ H17x9 ⟨k5, z6, rfl, p8, ge17x9⟩
     replace e := e.trans k5
     refine ⟨e, ?_⟩
     replace b := k5.2 _ _ b
     replace t := k5.2 _ _ t
     replace o9 := k5.2 _ _ o9
     replace j1 := k5.2 _ _ j1
     replace j := j.trans k5
     refine .qB rfl e (.build bt_27_Hj rfl rfl rfl) ?_
     refine .r1 rfl rfl rfl (.fillA rfl sz_27_D rfl rfl rfl rfl) ?_
     rintro _ H1014x9 ⟨rfl, d2, s6⟩
     replace e := e.st d2 (fun k hk => ⟨by omega, trivial⟩)
     refine ⟨e, ?_⟩
     replace b := d2.s b
     replace t := d2.s t
     replace j1 := d2.s j1
     replace p8 := d2.s p8
     replace j := j.st d2 (fun k hk => ⟨by omega, trivial⟩)
     refine .done ?_
     exact ⟨a5, y8, z6, t3, aP, ⟨rfl, rfl, rfl, rfl, rfl, rfl, rfl, rfl, trivial⟩, j, by omega, by omega, by omega, by omega, by omega, by first | assumption | simpa using b, by first | assumption | simpa using j1, by first | assumption | simpa using p8, by first | assumption | simpa using t, by first | assumption | simpa using s6, by omega, by omega, by omega, by omega, by omega, by omega, by omega, by omega, by omega, by omega⟩
    refine .c1 rfl rfl rfl rfl (.allocR rfl ze_27_Hj rfl) ?_
    rintro _ H3x10 ⟨l1, rfl, l4, ge3x10, w⟩
    replace e := e.trans l4
    refine ⟨e, ?_⟩
    replace m := m.trans l4
    replace l := l4.2 _ _ l
    replace b := l4.2 _ _ b
    have lt_at3x10 := GHeap.ltg w
    replace j := j.trans l4
    refine .orI ?_ ?_
    ·
     replace hin := d.mono m
     have u : Cat.At _ g1 0 c p := ⟨Mem.of_get l, hin⟩
     obtain ⟨-, -, -, -, -, m7, -, -, -⟩ := u.get
     refine .call1 rfl rfl rfl rfl rfl @Try.call108 rfl (l01Own_c) ?_
     rintro _ H14x5 ⟨j4, q1, rfl, z, ge14x5⟩
     replace e := e.trans j4
     refine ⟨e, ?_⟩
     replace m := m.trans j4
     replace l := j4.2 _ _ l
     replace b := j4.2 _ _ b
     replace w := j4.2 _ _ w
     have lt_at14x5 := GHeap.ltg z
     replace j := j.trans j4
     refine .orI ?_ ?_
     ·
      replace hin := d.mono m
      clear u m7
      have u : Cat.At _ g1 0 c p := ⟨Mem.of_get l, hin⟩
      obtain ⟨-, -, -, -, -, -, -, o8, -⟩ := u.get
      refine .call1 rfl rfl rfl rfl rfl @Try.call108 rfl (l01Own_c) ?_
      rintro _ H17x10 ⟨h7, w5, rfl, f6, ge17x10⟩
      replace e := e.trans h7
      refine ⟨e, ?_⟩
      replace b := h7.2 _ _ b
      replace w := h7.2 _ _ w
      replace z := h7.2 _ _ z
      have lt_at17x10 := GHeap.ltg f6
      replace j := j.trans h7
      refine .c1 rfl rfl rfl rfl (.litA rfl sl_25_B ze_24_Hj rfl rfl rfl rfl) ?_
      rintro _ H18x8 ⟨x3, rfl, k4, ge18x8, p6⟩
      replace e := e.trans k4
      refine ⟨e, ?_⟩
      replace b := k4.2 _ _ b
      replace w := k4.2 _ _ w
      replace z := k4.2 _ _ z
      replace f6 := k4.2 _ _ f6
      replace j := j.trans k4
      refine .qB rfl e (.build bt_27_Hj rfl rfl rfl) ?_
      refine .r1 rfl rfl rfl (.fillA rfl sz_27_D rfl rfl rfl rfl) ?_
      rintro _ H1014x10 ⟨rfl, c0, r2⟩
      replace e := e.st c0 (fun k hk => ⟨by omega, trivial⟩)
      refine ⟨e, ?_⟩
      have x : NE a5 l1 := .a
      replace b := c0.s b x.ne
      have c6 : NE q1 l1 := .a
      replace z := c0.s z c6.ne
      replace f6 := c0.s f6
      replace p6 := c0.s p6
      replace j := j.st c0 (fun k hk => ⟨by omega, trivial⟩)
      refine .done ?_
      exact ⟨a5, q1, w5, x3, l1, ⟨rfl, rfl, rfl, rfl, rfl, rfl, rfl, rfl, trivial⟩, j, by omega, by omega, by omega, by omega, by omega, by first | assumption | simpa using b, by first | assumption | simpa using z, by first | assumption | simpa using f6, by first | assumption | simpa using p6, by first | assumption | simpa using r2, by omega, by omega, by omega, by omega, by omega, by omega, by omega, by omega, by omega, by omega⟩
     refine .c1 rfl rfl rfl rfl (.litA rfl sl_25_B ze_24_Hj rfl rfl rfl rfl) ?_
     rintro _ H18x9 ⟨x5, rfl, h5, ge18x9, i8⟩
     replace e := e.trans h5
     refine ⟨e, ?_⟩
     replace m := m.trans h5
     replace l := h5.2 _ _ l
     replace b := h5.2 _ _ b
     replace w := h5.2 _ _ w
     replace z := h5.2 _ _ z
     have lt_at18x9 := GHeap.ltg i8
     replace j := j.trans h5
     replace hin := d.mono m
     have u : Cat.At _ g1 0 c p := ⟨Mem.of_get l, hin⟩
     obtain ⟨-, -, -, -, -, -, -, o8, -⟩ := u.get
     refine .call1 rfl rfl rfl rfl rfl @Try.call108 rfl (l01Own_c) ?_
     rintro _ H17x11 ⟨f3, v1, rfl, n4, ge17x11⟩
     replace e := e.trans f3
     refine ⟨e, ?_⟩
     replace b := f3.2 _ _ b
     replace w := f3.2 _ _ w
     replace z := f3.2 _ _ z
     replace i8 := f3.2 _ _ i8
     replace j := j.trans f3
     refine .qB rfl e (.build bt_27_Hj rfl rfl rfl) ?_
     refine .r1 rfl rfl rfl (.fillA rfl sz_27_D rfl rfl rfl rfl) ?_
     rintro _ H1014x11 ⟨rfl, c2, q3⟩
     replace e := e.st c2 (fun k hk => ⟨by omega, trivial⟩)
     refine ⟨e, ?_⟩
     have x : NE a5 l1 := .a
     replace b := c2.s b x.ne
     have c6 : NE q1 l1 := .a
     replace z := c2.s z c6.ne
     replace i8 := c2.s i8
     replace n4 := c2.s n4
     replace j := j.st c2 (fun k hk => ⟨by omega, trivial⟩)
     refine .done ?_
     exact ⟨a5, q1, v1, x5, l1, ⟨rfl, rfl, rfl, rfl, rfl, rfl, rfl, rfl, trivial⟩, j, by omega, by omega, by omega, by omega, by omega, by first | assumption | simpa using b, by first | assumption | simpa using z, by first | assumption | simpa using n4, by first | assumption | simpa using i8, by first | assumption | simpa using q3, by omega, by omega, by omega, by omega, by omega, by omega, by omega, by omega, by omega, by omega⟩
    refine .c1 rfl rfl rfl rfl (.litA rfl sl_25_B ze_24_Hj rfl rfl rfl rfl) ?_
    rintro _ H18x10 ⟨w9, rfl, f8, ge18x10, c7⟩
    replace e := e.trans f8
    refine ⟨e, ?_⟩
    replace m := m.trans f8
    replace l := f8.2 _ _ l
    replace b := f8.2 _ _ b
    replace w := f8.2 _ _ w
    have lt_at18x10 := GHeap.ltg c7
    replace j := j.trans f8
    replace hin := d.mono m
    have u : Cat.At _ g1 0 c p := ⟨Mem.of_get l, hin⟩
    obtain ⟨-, -, -, -, -, m7, -, -, -⟩ := u.get
    refine .call1 rfl rfl rfl rfl rfl @Try.call108 rfl (l01Own_c) ?_
    rintro _ H14x6 ⟨h2, z0, rfl, i9, ge14x6⟩
    replace e := e.trans h2
    refine ⟨e, ?_⟩
    replace m := m.trans h2
    replace l := h2.2 _ _ l
    replace b := h2.2 _ _ b
    replace w := h2.2 _ _ w
    replace c7 := h2.2 _ _ c7
    have lt_at14x6 := GHeap.ltg i9
    replace j := j.trans h2
    replace hin := d.mono m
    clear u m7
    have u : Cat.At _ g1 0 c p := ⟨Mem.of_get l, hin⟩
    obtain ⟨-, -, -, -, -, -, -, o8, -⟩ := u.get
    refine .call1 rfl rfl rfl rfl rfl @Try.call108 rfl (l01Own_c) ?_
    rintro _ H17x12 ⟨f2, w4, rfl, n7, ge17x12⟩
    replace e := e.trans f2
    refine ⟨e, ?_⟩
    replace b := f2.2 _ _ b
    replace w := f2.2 _ _ w
    replace c7 := f2.2 _ _ c7
    replace i9 := f2.2 _ _ i9
    replace j := j.trans f2
    refine .qB rfl e (.build bt_27_Hj rfl rfl rfl) ?_
    refine .r1 rfl rfl rfl (.fillA rfl sz_27_D rfl rfl rfl rfl) ?_
    rintro _ H1014x12 ⟨rfl, b0, s0⟩
    replace e := e.st b0 (fun k hk => ⟨by omega, trivial⟩)
    refine ⟨e, ?_⟩
    have x : NE a5 l1 := .a
    replace b := b0.s b x.ne
    replace c7 := b0.s c7
    replace i9 := b0.s i9
    replace n7 := b0.s n7
    replace j := j.st b0 (fun k hk => ⟨by omega, trivial⟩)
    refine .done ?_
    exact ⟨a5, z0, w4, w9, l1, ⟨rfl, rfl, rfl, rfl, rfl, rfl, rfl, rfl, trivial⟩, j, by omega, by omega, by omega, by omega, by omega, by first | assumption | simpa using b, by first | assumption | simpa using i9, by first | assumption | simpa using n7, by first | assumption | simpa using c7, by first | assumption | simpa using s0, by omega, by omega, by omega, by omega, by omega, by omega, by omega, by omega, by omega, by omega⟩
   refine .orI ?_ ?_
   ·
    refine .c1 rfl rfl rfl rfl (.litA rfl sl_25_B ze_24_Hj rfl rfl rfl rfl) ?_
    rintro _ H18x11 ⟨o2, rfl, l3, ge18x11, h⟩
    have e := l3
    refine ⟨e, ?_⟩
    replace m := m.trans l3
    replace l := l3.2 _ _ l
    have lt_at18x11 := GHeap.ltg h
    replace j := j.trans l3
    refine .orI ?_ ?_
    ·
     replace hin := d.mono m
     have u : Cat.At _ g1 0 c p := ⟨Mem.of_get l, hin⟩
     obtain ⟨-, -, -, -, -, -, t9, -, -⟩ := u.get
     refine .call1 rfl rfl rfl rfl rfl @Try.call108 rfl (l01Own_c) ?_
     rintro _ H11x3 ⟨m0, t2, rfl, r, ge11x3⟩
     replace e := e.trans m0
     refine ⟨e, ?_⟩
     replace m := m.trans m0
     replace l := m0.2 _ _ l
     replace h := m0.2 _ _ h
     have lt_at11x3 := GHeap.ltg r
     replace j := j.trans m0
     refine .orI ?_ ?_
     ·
      replace hin := d.mono m
      clear u t9
      have u : Cat.At _ g1 0 c p := ⟨Mem.of_get l, hin⟩
      obtain ⟨-, -, -, -, -, m7, -, -, -⟩ := u.get
      refine .call1 rfl rfl rfl rfl rfl @Try.call108 rfl (l01Own_c) ?_
      rintro _ H14x7 ⟨j8, u7, rfl, a2, ge14x7⟩
      replace e := e.trans j8
      refine ⟨e, ?_⟩
      replace m := m.trans j8
      replace l := j8.2 _ _ l
      replace h := j8.2 _ _ h
      replace r := j8.2 _ _ r
      have lt_at14x7 := GHeap.ltg a2
      replace j := j.trans j8
      refine .orI ?_ ?_
      ·
       replace hin := d.mono m
       clear u m7
       have u : Cat.At _ g1 0 c p := ⟨Mem.of_get l, hin⟩
       obtain ⟨-, -, -, -, -, -, -, o8, -⟩ := u.get
       refine .call1 rfl rfl rfl rfl rfl @Try.call108 rfl (l01Own_c) ?_
       rintro _ H17x13 ⟨h9, v9, rfl, g8, ge17x13⟩
       replace e := e.trans h9
       refine ⟨e, ?_⟩
       replace h := h9.2 _ _ h
       replace r := h9.2 _ _ r
       replace a2 := h9.2 _ _ a2
       have lt_at17x13 := GHeap.ltg g8
       replace j := j.trans h9
       refine .qB rfl e (.build bt_27_Hj rfl rfl rfl) ?_
       refine .c1 rfl rfl rfl rfl (.allocR rfl ze_27_Hj rfl) ?_
       rintro _ H3x11 ⟨x2, rfl, i5, ge3x11, at3x11⟩
       replace e := e.trans i5
       refine ⟨e, ?_⟩
       replace h := i5.2 _ _ h
       replace r := i5.2 _ _ r
       replace a2 := i5.2 _ _ a2
       replace g8 := i5.2 _ _ g8
       replace j := j.trans i5
       refine .r1 rfl rfl rfl (.fillA rfl sz_27_D rfl rfl rfl rfl) ?_
       rintro _ H1014x13 ⟨rfl, c4, q9⟩
       replace e := e.st c4 (fun k hk => ⟨by omega, trivial⟩)
       refine ⟨e, ?_⟩
       replace h := c4.s h
       replace r := c4.s r
       replace a2 := c4.s a2
       replace g8 := c4.s g8
       replace j := j.st c4 (fun k hk => ⟨by omega, trivial⟩)
       refine .done ?_
       exact ⟨t2, u7, v9, o2, x2, ⟨rfl, rfl, rfl, rfl, rfl, rfl, rfl, rfl, trivial⟩, j, by omega, by omega, by omega, by omega, by omega, by first | assumption | simpa using r, by first | assumption | simpa using a2, by first | assumption | simpa using g8, by first | assumption | simpa using h, by first | assumption | simpa using q9, by omega, by omega, by omega, by omega, by omega, by omega, by omega, by omega, by omega, by omega⟩
      refine .c1 rfl rfl rfl rfl (.allocR rfl ze_27_Hj rfl) ?_
      rintro _ H3x12 ⟨x4, rfl, h3, ge3x12, p2⟩
      replace e := e.trans h3
      refine ⟨e, ?_⟩
      replace m := m.trans h3
      replace l := h3.2 _ _ l
      replace h := h3.2 _ _ h
      replace r := h3.2 _ _ r
      replace a2 := h3.2 _ _ a2
      have lt_at3x12 := GHeap.ltg p2
      replace j := j.trans h3
      replace hin := d.mono m
      have u : Cat.At _ g1 0 c p := ⟨Mem.of_get l, hin⟩
      obtain ⟨-, -, -, -, -, -, -, o8, -⟩ := u.get
      refine .call1 rfl rfl rfl rfl rfl @Try.call108 rfl (l01Own_c) ?_
      rintro _ H17x14 ⟨f7, v8, rfl, o4, ge17x14⟩
      replace e := e.trans f7
      refine ⟨e, ?_⟩
      replace h := f7.2 _ _ h
      replace r := f7.2 _ _ r
      replace a2 := f7.2 _ _ a2
      replace p2 := f7.2 _ _ p2
      replace j := j.trans f7
      refine .qB rfl e (.build bt_27_Hj rfl rfl rfl) ?_
      refine .r1 rfl rfl rfl (.fillA rfl sz_27_D rfl rfl rfl rfl) ?_
      rintro _ H1014x14 ⟨rfl, a9, r5⟩
      replace e := e.st a9 (fun k hk => ⟨by omega, trivial⟩)
      refine ⟨e, ?_⟩
      replace h := a9.s h
      replace r := a9.s r
      replace a2 := a9.s a2
      replace o4 := a9.s o4
      replace j := j.st a9 (fun k hk => ⟨by omega, trivial⟩)
      refine .done ?_
      exact ⟨t2, u7, v8, o2, x4, ⟨rfl, rfl, rfl, rfl, rfl, rfl, rfl, rfl, trivial⟩, j, by omega, by omega, by omega, by omega, by omega, by first | assumption | simpa using r, by first | assumption | simpa using a2, by first | assumption | simpa using o4, by first | assumption | simpa using h, by first | assumption | simpa using r5, by omega, by omega, by omega, by omega, by omega, by omega, by omega, by omega, by omega, by omega⟩
     refine .c1 rfl rfl rfl rfl (.allocR rfl ze_27_Hj rfl) ?_
     rintro _ H3x13 ⟨y6, rfl, i4, ge3x13, l6⟩
     replace e := e.trans i4
     refine ⟨e, ?_⟩
     replace m := m.trans i4
     replace l := i4.2 _ _ l
     replace h := i4.2 _ _ h
     replace r := i4.2 _ _ r
     have lt_at3x13 := GHeap.ltg l6
     replace j := j.trans i4
     replace hin := d.mono m
     have u : Cat.At _ g1 0 c p := ⟨Mem.of_get l, hin⟩
     obtain ⟨-, -, -, -, -, m7, -, -, -⟩ := u.get
     refine .call1 rfl rfl rfl rfl rfl @Try.call108 rfl (l01Own_c) ?_
     rintro _ H14x8 ⟨h6, z3, rfl, j2, ge14x8⟩
     replace e := e.trans h6
     refine ⟨e, ?_⟩
     replace m := m.trans h6
     replace l := h6.2 _ _ l
     replace h := h6.2 _ _ h
     replace r := h6.2 _ _ r
     replace l6 := h6.2 _ _ l6
     have lt_at14x8 := GHeap.ltg j2
     replace j := j.trans h6
     replace hin := d.mono m
     clear u m7
     have u : Cat.At _ g1 0 c p := ⟨Mem.of_get l, hin⟩
     obtain ⟨-, -, -, -, -, -, -, o8, -⟩ := u.get
     refine .call1 rfl rfl rfl rfl rfl @Try.call108 rfl (l01Own_c) ?_
     rintro _ H17x15 ⟨f9, v6, rfl, o6, ge17x15⟩
     replace e := e.trans f9
     refine ⟨e, ?_⟩
     replace h := f9.2 _ _ h
     replace r := f9.2 _ _ r
     replace l6 := f9.2 _ _ l6
     replace j2 := f9.2 _ _ j2
     replace j := j.trans f9
     refine .qB rfl e (.build bt_27_Hj rfl rfl rfl) ?_
     refine .r1 rfl rfl rfl (.fillA rfl sz_27_D rfl rfl rfl rfl) ?_
     rintro _ H1014x15 ⟨rfl, b5, r9⟩
     replace e := e.st b5 (fun k hk => ⟨by omega, trivial⟩)
     refine ⟨e, ?_⟩
     replace h := b5.s h
     replace r := b5.s r
     replace j2 := b5.s j2
     replace o6 := b5.s o6
     replace j := j.st b5 (fun k hk => ⟨by omega, trivial⟩)
     refine .done ?_
     exact ⟨t2, z3, v6, o2, y6, ⟨rfl, rfl, rfl, rfl, rfl, rfl, rfl, rfl, trivial⟩, j, by omega, by omega, by omega, by omega, by omega, by first | assumption | simpa using r, by first | assumption | simpa using j2, by first | assumption | simpa using o6, by first | assumption | simpa using h, by first | assumption | simpa using r9, by omega, by omega, by omega, by omega, by omega, by omega, by omega, by omega, by omega, by omega⟩
    refine .c1 rfl rfl rfl rfl (.allocR rfl ze_27_Hj rfl) ?_
    rintro _ H3x14 ⟨x7, rfl, m2, ge3x14, g9⟩
    replace e := e.trans m2
    refine ⟨e, ?_⟩
    replace m := m.trans m2
    replace l := m2.2 _ _ l
    replace h := m2.2 _ _ h
    have lt_at3x14 := GHeap.ltg g9
    replace j := j.trans m2
    replace hin := d.mono m
    have u : Cat.At _ g1 0 c p := ⟨Mem.of_get l, hin⟩
    obtain ⟨-, -, -, -, -, -, t9, -, -⟩ := u.get
    refine .call1 rfl rfl rfl rfl rfl @Try.call108 rfl (l01Own_c) ?_
    rintro _ H11x4 ⟨i7, z2, rfl, e6, ge11x4⟩
    replace e := e.trans i7
    refine ⟨e, ?_⟩
    replace m := m.trans i7
    replace l := i7.2 _ _ l
    replace h := i7.2 _ _ h
    replace g9 := i7.2 _ _ g9
    have lt_at11x4 := GHeap.ltg e6
    replace j := j.trans i7
    replace hin := d.mono m
    clear u t9
    have u : Cat.At _ g1 0 c p := ⟨Mem.of_get l, hin⟩
    obtain ⟨-, -, -, -, -, m7, -, -, -⟩ := u.get
    refine .call1 rfl rfl rfl rfl rfl @Try.call108 rfl (l01Own_c) ?_
    rintro _ H14x9 ⟨h1, z5, rfl, k8, ge14x9⟩
    replace e := e.trans h1
    refine ⟨e, ?_⟩
    replace m := m.trans h1
    replace l := h1.2 _ _ l
    replace h := h1.2 _ _ h
    replace g9 := h1.2 _ _ g9
    replace e6 := h1.2 _ _ e6
    have lt_at14x9 := GHeap.ltg k8
    replace j := j.trans h1
    replace hin := d.mono m
    clear u m7
    have u : Cat.At _ g1 0 c p := ⟨Mem.of_get l, hin⟩
    obtain ⟨-, -, -, -, -, -, -, o8, -⟩ := u.get
    refine .call1 rfl rfl rfl rfl rfl @Try.call108 rfl (l01Own_c) ?_
    rintro _ H17x16 ⟨g4, w2, rfl, o0, ge17x16⟩
    replace e := e.trans g4
    refine ⟨e, ?_⟩
    replace h := g4.2 _ _ h
    replace g9 := g4.2 _ _ g9
    replace e6 := g4.2 _ _ e6
    replace k8 := g4.2 _ _ k8
    replace j := j.trans g4
    refine .qB rfl e (.build bt_27_Hj rfl rfl rfl) ?_
    refine .r1 rfl rfl rfl (.fillA rfl sz_27_D rfl rfl rfl rfl) ?_
    rintro _ H1014x16 ⟨rfl, b4, q7⟩
    replace e := e.st b4 (fun k hk => ⟨by omega, trivial⟩)
    refine ⟨e, ?_⟩
    replace h := b4.s h
    replace e6 := b4.s e6
    replace k8 := b4.s k8
    replace o0 := b4.s o0
    replace j := j.st b4 (fun k hk => ⟨by omega, trivial⟩)
    refine .done ?_
    exact ⟨z2, z5, w2, o2, x7, ⟨rfl, rfl, rfl, rfl, rfl, rfl, rfl, rfl, trivial⟩, j, by omega, by omega, by omega, by omega, by omega, by first | assumption | simpa using e6, by first | assumption | simpa using k8, by first | assumption | simpa using o0, by first | assumption | simpa using h, by first | assumption | simpa using q7, by omega, by omega, by omega, by omega, by omega, by omega, by omega, by omega, by omega, by omega⟩
   refine .c1 rfl rfl rfl rfl (.allocR rfl ze_27_Hj rfl) ?_
   rintro _ H3x15 ⟨i1, rfl, n8, ge3x15, n⟩
   have e := n8
   refine ⟨e, ?_⟩
   replace m := m.trans n8
   replace l := n8.2 _ _ l
   have lt_at3x15 := GHeap.ltg n
   replace j := j.trans n8
   refine .orI ?_ ?_
   ·
    replace hin := d.mono m
    have u : Cat.At _ g1 0 c p := ⟨Mem.of_get l, hin⟩
    obtain ⟨-, -, -, -, -, -, t9, -, -⟩ := u.get
    refine .call1 rfl rfl rfl rfl rfl @Try.call108 rfl (l01Own_c) ?_
    rintro _ H11x5 ⟨l7, m8, rfl, o, ge11x5⟩
    replace e := e.trans l7
    refine ⟨e, ?_⟩
    replace m := m.trans l7
    replace l := l7.2 _ _ l
    replace n := l7.2 _ _ n
    have lt_at11x5 := GHeap.ltg o
    replace j := j.trans l7
    refine .orI ?_ ?_
    ·
     replace hin := d.mono m
     clear u t9
     have u : Cat.At _ g1 0 c p := ⟨Mem.of_get l, hin⟩
     obtain ⟨-, -, -, -, -, m7, -, -, -⟩ := u.get
     refine .call1 rfl rfl rfl rfl rfl @Try.call108 rfl (l01Own_c) ?_
     rintro _ H14x10 ⟨e7, o3, rfl, v, ge14x10⟩
     replace e := e.trans e7
     refine ⟨e, ?_⟩
     replace m := m.trans e7
     replace l := e7.2 _ _ l
     replace n := e7.2 _ _ n
     replace o := e7.2 _ _ o
     have lt_at14x10 := GHeap.ltg v
     replace j := j.trans e7
     refine .orI ?_ ?_
     ·
      replace hin := d.mono m
      clear u m7
      have u : Cat.At _ g1 0 c p := ⟨Mem.of_get l, hin⟩
      obtain ⟨-, -, -, -, -, -, -, o8, -⟩ := u.get
      refine .call1 rfl rfl rfl rfl rfl @Try.call108 rfl (l01Own_c) ?_
      rintro _ H17x17 ⟨h8, v7, rfl, e8, ge17x17⟩
      replace e := e.trans h8
      refine ⟨e, ?_⟩
      replace n := h8.2 _ _ n
      replace o := h8.2 _ _ o
      replace v := h8.2 _ _ v
      have lt_at17x17 := GHeap.ltg e8
      replace j := j.trans h8
      refine .c1 rfl rfl rfl rfl (.litA rfl sl_25_B ze_24_Hj rfl rfl rfl rfl) ?_
      rintro _ H18x12 ⟨w3, rfl, g0, ge18x12, o7⟩
      replace e := e.trans g0
      refine ⟨e, ?_⟩
      replace n := g0.2 _ _ n
      replace o := g0.2 _ _ o
      replace v := g0.2 _ _ v
      replace e8 := g0.2 _ _ e8
      replace j := j.trans g0
      refine .qB rfl e (.build bt_27_Hj rfl rfl rfl) ?_
      refine .r1 rfl rfl rfl (.fillA rfl sz_27_D rfl rfl rfl rfl) ?_
      rintro _ H1014x17 ⟨rfl, c5, q5⟩
      replace e := e.st c5 (fun k hk => ⟨by omega, trivial⟩)
      refine ⟨e, ?_⟩
      have y : NE m8 i1 := .a
      replace o := c5.s o y.ne
      have a7 : NE o3 i1 := .a
      replace v := c5.s v a7.ne
      replace e8 := c5.s e8
      replace o7 := c5.s o7
      replace j := j.st c5 (fun k hk => ⟨by omega, trivial⟩)
      refine .done ?_
      exact ⟨m8, o3, v7, w3, i1, ⟨rfl, rfl, rfl, rfl, rfl, rfl, rfl, rfl, trivial⟩, j, by omega, by omega, by omega, by omega, by omega, by first | assumption | simpa using o, by first | assumption | simpa using v, by first | assumption | simpa using e8, by first | assumption | simpa using o7, by first | assumption | simpa using q5, by omega, by omega, by omega, by omega, by omega, by omega, by omega, by omega, by omega, by omega⟩
     refine .c1 rfl rfl rfl rfl (.litA rfl sl_25_B ze_24_Hj rfl rfl rfl rfl) ?_
     rintro _ H18x13 ⟨w0, rfl, e1, ge18x13, f0⟩
     replace e := e.trans e1
     refine ⟨e, ?_⟩
     replace m := m.trans e1
     replace l := e1.2 _ _ l
     replace n := e1.2 _ _ n
     replace o := e1.2 _ _ o
     replace v := e1.2 _ _ v
     have lt_at18x13 := GHeap.ltg f0
     replace j := j.trans e1
     replace hin := d.mono m
     have u : Cat.At _ g1 0 c p := ⟨Mem.of_get l, hin⟩
     obtain ⟨-, -, -, -, -, -, -, o8, -⟩ := u.get
     refine .call1 rfl rfl rfl rfl rfl @Try.call108 rfl (l01Own_c) ?_
     rintro _ H17x18 ⟨g7, v3, rfl, n6, ge17x18⟩
     replace e := e.trans g7
     refine ⟨e, ?_⟩
     replace n := g7.2 _ _ n
     replace o := g7.2 _ _ o
     replace v := g7.2 _ _ v
     replace f0 := g7.2 _ _ f0
     replace j := j.trans g7
     refine .qB rfl e (.build bt_27_Hj rfl rfl rfl) ?_
     refine .r1 rfl rfl rfl (.fillA rfl sz_27_D rfl rfl rfl rfl) ?_
     rintro _ H1014x18 ⟨rfl, c3, r4⟩
     replace e := e.st c3 (fun k hk => ⟨by omega, trivial⟩)
     refine ⟨e, ?_⟩
     have y : NE m8 i1 := .a
     replace o := c3.s o y.ne
     have a7 : NE o3 i1 := .a
     replace v := c3.s v a7.ne
     replace f0 := c3.s f0
     replace n6 := c3.s n6
     replace j := j.st c3 (fun k hk => ⟨by omega, trivial⟩)
     refine .done ?_
     exact ⟨m8, o3, v3, w0, i1, ⟨rfl, rfl, rfl, rfl, rfl, rfl, rfl, rfl, trivial⟩, j, by omega, by omega, by omega, by omega, by omega, by first | assumption | simpa using o, by first | assumption | simpa using v, by first | assumption | simpa using n6, by first | assumption | simpa using f0, by first | assumption | simpa using r4, by omega, by omega, by omega, by omega, by omega, by omega, by omega, by omega, by omega, by omega⟩
    refine .c1 rfl rfl rfl rfl (.litA rfl sl_25_B ze_24_Hj rfl rfl rfl rfl) ?_
    rintro _ H18x14 ⟨v4, rfl, g5, ge18x14, c8⟩
    replace e := e.trans g5
    refine ⟨e, ?_⟩
    replace m := m.trans g5
    replace l := g5.2 _ _ l
    replace n := g5.2 _ _ n
    replace o := g5.2 _ _ o
    have lt_at18x14 := GHeap.ltg c8
    replace j := j.trans g5
    replace hin := d.mono m
    have u : Cat.At _ g1 0 c p := ⟨Mem.of_get l, hin⟩
    obtain ⟨-, -, -, -, -, m7, -, -, -⟩ := u.get
    refine .call1 rfl rfl rfl rfl rfl @Try.call108 rfl (l01Own_c) ?_
    rintro _ H14x11 ⟨d9, v5, rfl, f1, ge14x11⟩
    replace e := e.trans d9
    refine ⟨e, ?_⟩
    replace m := m.trans d9
    replace l := d9.2 _ _ l
    replace n := d9.2 _ _ n
    replace o := d9.2 _ _ o
    replace c8 := d9.2 _ _ c8
    have lt_at14x11 := GHeap.ltg f1
    replace j := j.trans d9
    replace hin := d.mono m
    clear u m7
    have u : Cat.At _ g1 0 c p := ⟨Mem.of_get l, hin⟩
    obtain ⟨-, -, -, -, -, -, -, o8, -⟩ := u.get
    refine .call1 rfl rfl rfl rfl rfl @Try.call108 rfl (l01Own_c) ?_
    rintro _ H17x19 ⟨e9, v2, rfl, n5, ge17x19⟩
    replace e := e.trans e9
    refine ⟨e, ?_⟩
    replace n := e9.2 _ _ n
    replace o := e9.2 _ _ o
    replace c8 := e9.2 _ _ c8
    replace f1 := e9.2 _ _ f1
    replace j := j.trans e9
    refine .qB rfl e (.build bt_27_Hj rfl rfl rfl) ?_
    refine .r1 rfl rfl rfl (.fillA rfl sz_27_D rfl rfl rfl rfl) ?_
    rintro _ H1014x19 ⟨rfl, a8, r7⟩
    replace e := e.st a8 (fun k hk => ⟨by omega, trivial⟩)
    refine ⟨e, ?_⟩
    have y : NE m8 i1 := .a
    replace o := a8.s o y.ne
    replace c8 := a8.s c8
    replace f1 := a8.s f1
    replace n5 := a8.s n5
    replace j := j.st a8 (fun k hk => ⟨by omega, trivial⟩)
    refine .done ?_
    exact ⟨m8, v5, v2, v4, i1, ⟨rfl, rfl, rfl, rfl, rfl, rfl, rfl, rfl, trivial⟩, j, by omega, by omega, by omega, by omega, by omega, by first | assumption | simpa using o, by first | assumption | simpa using f1, by first | assumption | simpa using n5, by first | assumption | simpa using c8, by first | assumption | simpa using r7, by omega, by omega, by omega, by omega, by omega, by omega, by omega, by omega, by omega, by omega⟩
   refine .c1 rfl rfl rfl rfl (.litA rfl sl_25_B ze_24_Hj rfl rfl rfl rfl) ?_
   rintro _ H18x15 ⟨u9, rfl, i3, ge18x15, a4⟩
   replace e := e.trans i3
   refine ⟨e, ?_⟩
   replace m := m.trans i3
   replace l := i3.2 _ _ l
   replace n := i3.2 _ _ n
   have lt_at18x15 := GHeap.ltg a4
   replace j := j.trans i3
   replace hin := d.mono m
   have u : Cat.At _ g1 0 c p := ⟨Mem.of_get l, hin⟩
   obtain ⟨-, -, -, -, -, -, t9, -, -⟩ := u.get
   refine .call1 rfl rfl rfl rfl rfl @Try.call108 rfl (l01Own_c) ?_
   rintro _ H11x6 ⟨k0, z8, rfl, e4, ge11x6⟩
   replace e := e.trans k0
   refine ⟨e, ?_⟩
   replace m := m.trans k0
   replace l := k0.2 _ _ l
   replace n := k0.2 _ _ n
   replace a4 := k0.2 _ _ a4
   have lt_at11x6 := GHeap.ltg e4
   replace j := j.trans k0
   replace hin := d.mono m
   clear u t9
   have u : Cat.At _ g1 0 c p := ⟨Mem.of_get l, hin⟩
   obtain ⟨-, -, -, -, -, m7, -, -, -⟩ := u.get
   refine .call1 rfl rfl rfl rfl rfl @Try.call108 rfl (l01Own_c) ?_
   rintro _ H14x12 ⟨e0, w1, rfl, f5, ge14x12⟩
   replace e := e.trans e0
   refine ⟨e, ?_⟩
   replace m := m.trans e0
   replace l := e0.2 _ _ l
   replace n := e0.2 _ _ n
   replace a4 := e0.2 _ _ a4
   replace e4 := e0.2 _ _ e4
   have lt_at14x12 := GHeap.ltg f5
   replace j := j.trans e0
   replace hin := d.mono m
   clear u m7
   have u : Cat.At _ g1 0 c p := ⟨Mem.of_get l, hin⟩
   obtain ⟨-, -, -, -, -, -, -, o8, -⟩ := u.get
   refine .call1 rfl rfl rfl rfl rfl @Try.call108 rfl (l01Own_c) ?_
   rintro _ H17x20 ⟨f4, v0, rfl, n9, ge17x20⟩
   replace e := e.trans f4
   refine ⟨e, ?_⟩
   replace n := f4.2 _ _ n
   replace a4 := f4.2 _ _ a4
   replace e4 := f4.2 _ _ e4
   replace f5 := f4.2 _ _ f5
   replace j := j.trans f4
   refine .qB rfl e (.build bt_27_Hj rfl rfl rfl) ?_
   refine .r1 rfl rfl rfl (.fillA rfl sz_27_D rfl rfl rfl rfl) ?_
   rintro _ H1014x20 ⟨rfl, b7, q2⟩
   replace e := e.st b7 (fun k hk => ⟨by omega, trivial⟩)
   refine ⟨e, ?_⟩
   replace a4 := b7.s a4
   replace e4 := b7.s e4
   replace f5 := b7.s f5
   replace n9 := b7.s n9
   replace j := j.st b7 (fun k hk => ⟨by omega, trivial⟩)
   refine .done ?_
   exact ⟨z8, w1, v0, u9, i1, ⟨rfl, rfl, rfl, rfl, rfl, rfl, rfl, rfl, trivial⟩, j, by omega, by omega, by omega, by omega, by omega, by first | assumption | simpa using e4, by first | assumption | simpa using f5, by first | assumption | simpa using n9, by first | assumption | simpa using a4, by first | assumption | simpa using q2, by omega, by omega, by omega, by omega, by omega, by omega, by omega, by omega, by omega, by omega⟩
  rintro fr3 H3 ⟨t1, t7, t5, s2, g3, z7, z9, ge11, ge14, ge17, ge18, ge3, r8, q4, r6, at18, bL, ne3_0, ne3_1, ne3_2, ne3_3, ne3_4, ne3_5, ne3_6, ne3_7, ne3_8, ne3_9⟩
  have nx_H3 := z9.1
  replace m := m.trans z9
  replace l := z9.2 _ _ l
  replace x0 := z9.2 _ _ x0
  have lt_at11 := GHeap.ltg r8
  have lt_at14 := GHeap.ltg q4
  have lt_at17 := GHeap.ltg r6
  have lt_at3 := GHeap.ltg bL
  replace hin := d.mono m
  have u : Cat.At _ g1 0 c p := ⟨Mem.of_get l, hin⟩
  refine bM _ _ ?_
  refine .forget z7 ?_
  refine .seq (fun K3 bR => .seq (fun K4 bO => .region (.mv rfl (.nil (bO _ _ ?_)))))
  refine .block ?_
  refine .loopR (σ := Nat × (Nat → Option Addr) × Nat) [(1, some _), (2, some _), (3, some _)] (fun (f, rc, gLC) => [(4, some (.int .i64 (f : Int)))]) (fun (f, rc, gLC) H' => St [s2, g3] H3 H' ∧ H'.get gLC = some (.row ((slsL rc (c.opTab f))) 24 true) ∧ (gLC = s2 ∨ H3.next ≤ gLC) ∧ H'.get g3 = some (.row ([.int .i64 c.obj, .slice (some ⟨t1, 0, none⟩) c.tgt.length c.tgt.length, .slice (some ⟨t7, 0, none⟩) c.src.length c.src.length, .slice (some ⟨t5, 0, none⟩) c.idn.length c.idn.length, .slice (some ⟨gLC, 0, none⟩) f f]) 27 true) ∧ gLC ≠ g3 ∧ f ≤ c.src.length ∧ OwnL H3.next H' 2 rc (c.opTab f)) (fun (f, rc, gLC) => c.src.length - f) ((0, fun _ => none, s2)) ⟨rfl, rfl, rfl, trivial⟩ ⟨rfl, trivial⟩ ?_ ?_
  ·
   refine ⟨.refl _ _, by assumption, .inl rfl, by assumption, by omega, ?_⟩
   exact ⟨by omega, .nil _ _ _ _⟩
  rintro ⟨f, rc, gLC⟩ HL1 ⟨e3, e5, pl_LC, a6, z4, hI⟩ KL1 aB
  refine .forget (fr' := [(4, some (.int .i64 (f : Int))), (1, some _), (2, some _), (3, some _)]) ⟨rfl, rfl, rfl, rfl, trivial⟩ ?_
  have ge_LC : H.next ≤ gLC := by omega
  have nx_HL1 := e3.nx
  replace m := m.st e3 (fun k hk => ⟨by omega, by omega, trivial⟩)
  have p0 : NE g1 g3 := .a
  replace l := e3.same _ _ ⟨(by first | assumption | omega), p0.ne, trivial⟩ l
  replace x0 := e3.same _ _ ⟨(by first | assumption | omega), (by first | assumption | omega), trivial⟩ x0
  replace r8 := e3.same _ _ ⟨(by first | assumption | omega), (by first | assumption | omega), trivial⟩ r8
  replace q4 := e3.same _ _ ⟨(by first | assumption | omega), (by first | assumption | omega), trivial⟩ q4
  replace r6 := e3.same _ _ ⟨(by first | assumption | omega), (by first | assumption | omega), trivial⟩ r6
  have lt_at_LC := GHeap.ltg e5
  have lt_at_Lg3 := GHeap.ltg a6
  replace hin := d.mono m
  clear u
  have u : Cat.At _ g1 0 c p := ⟨Mem.of_get l, hin⟩
  obtain ⟨-, x8, -, -, -, -, -, -, -⟩ := u.get
  have rk := St.refl [gLC, g3] HL1
  obtain ⟨hf, hR⟩ := hI
  have hatC := e5
  have aT := a6
  have hql := c.length_opTab f
  have hfl : (slsL rc (c.opTab f)).length = (c.opTab f).length := length_slsL _ _
  refine .seq (fun K5 bA => .seq (fun K6 bE => .region (.mv rfl (.q rfl (.fieldAddr fo_27_1_B rfl) ?_))))
  refine .q rfl (.load on_24_B rfl (by first | assumption | exact Mem.of_get l 1 _ rfl)) ?_
  refine .q rfl (.len sl_24_A rfl) (.q rfl (.cmp rfl rfl rfl) (.nil (bE _ _ ?_)))
  refine .cond rfl (fun aA => ?_) (fun aA => ?_)
  ·
   simp only [sps] at aA
   refine .skip ?_
   refine bA _ _ (.seq (fun K7 bJ => ?_))
   refine .block ?_
   refine .seq (fun K8 bH => .region ?_)
   refine .R rfl (.litA rfl sl_24_A ze_2_Pa rfl rfl rfl rfl) ?_
   rintro _ aL ⟨aX, rfl, q6, ge27, w6⟩
   replace m := m.trans q6
   replace e3 := e3.le q6
   replace rk := rk.le q6
   replace l := q6.2 _ _ l
   replace e5 := q6.2 _ _ e5
   replace a6 := q6.2 _ _ a6
   have lt_at27 := GHeap.ltg w6
   replace hin := d.mono m
   clear u x8
   have u : Cat.At _ g1 0 c p := ⟨Mem.of_get l, hin⟩
   replace w6 : GHeap.get aL aX = some (.row (ints []) 2 true) := w6
   refine .mv rfl (.nil (bH _ _ (.seq (fun K9 bF => .seq (fun K10 aQ => .region (.mv rfl (.nil (aQ _ _ ?_))))))))
   refine .block ?_
   refine .loopR (σ := Nat × Nat × Nat) [(1, some _), (2, some _), (3, some _), (4, some _)] (fun (g, s1, u6) => [(6, some (.int .i64 (g : Int))), (5, some (.slice (some ⟨s1, 0, none⟩) u6 u6))]) (fun (g, s1, u6) H' => St [aX] aL H' ∧ H'.get s1 = some (.row (ints (c.opRow f g)) 2 true) ∧ (s1 = aX ∨ aL.next ≤ s1) ∧ u6 = (c.opRow f g).length ∧ g ≤ c.src.length) (fun (g, s1, u6) => c.src.length - g) ((0, _, _)) ⟨rfl, rfl, rfl, rfl, trivial⟩ ⟨rfl, rfl, trivial⟩ ?_ ?_
   ·
    refine ⟨.refl _ _, by assumption, .inl rfl, by rfl, ?_⟩
    omega
   rintro ⟨g, s1, u6⟩ HL2 ⟨l2, i2, pl_L5, y9, hI⟩ KL2 aR
   refine .forget (fr' := [(6, some (.int .i64 (g : Int))), (5, some (.slice (some ⟨s1, 0, none⟩) u6 u6)), (1, some _), (2, some _), (3, some _), (4, some _)]) ⟨rfl, rfl, rfl, rfl, rfl, rfl, trivial⟩ ?_
   have ge_L5 : H.next ≤ s1 := by omega
   have nx_HL2 := l2.nx
   replace m := m.st l2 (fun k hk => ⟨by omega, trivial⟩)
   replace e3 := e3.sA l2
   replace rk := rk.sA l2
   replace l := l2.s l
   replace e5 := l2.s e5
   replace a6 := l2.s a6
   replace hin := d.mono m
   clear u
   have u : Cat.At _ g1 0 c p := ⟨Mem.of_get l, hin⟩
   obtain ⟨-, x8, -, -, bN, -, -, -, aZ⟩ := u.get
   have hrl := c.length_opRow f g
   refine .seq (fun K11 aD => .seq (fun K12 aI => .region (.mv rfl (.q rfl (.fieldAddr fo_27_1_B rfl) ?_))))
   refine .q rfl (.load on_24_B rfl (by first | assumption | exact Mem.of_get l 1 _ rfl)) ?_
   refine .q rfl (.len sl_24_A rfl) (.q rfl (.cmp rfl rfl rfl) (.nil (aI _ _ ?_)))
   refine .cond rfl (fun aJ => ?_) (fun aJ => ?_)
   ·
    simp only [sps] at aJ
    have b9g := b9 g (by omega)
    have u1 := aZ.2 g (by omega)
    refine .skip ?_
    refine aD _ _ (.seq (fun K13 aU => ?_))
    refine .block ?_
    refine .region (.mv rfl (.q rfl (.fieldAddr fo_27_4_B rfl) ?_))
    refine .q rfl (.load on_25_B rfl (by first | assumption | exact Mem.of_get l 4 _ rfl)) ?_
    refine .mv rfl ?_
    refine .q rfl (.idxN sl_25_B (Intss.sl (by assumption)) rfl rfl (by omega)) ?_
    refine .q rfl (.loadR on_24_B (by assumption) rfl (by omega)) ?_
    refine .mv rfl ?_
    refine .q rfl (.idxN sl_24_A (by assumption) rfl rfl (by omega)) ?_
    refine .q rfl (.loadI on_2_A (by assumption) rfl (by omega)) ?_
    refine .R rfl (.litA rfl sl_24_A ze_2_Pa rfl rfl rfl rfl) ?_
    rintro _ H44 ⟨g44, rfl, u0, ge44, aF⟩
    replace m := m.trans u0
    replace l2 := l2.le u0
    replace l := u0.2 _ _ l
    replace i2 := u0.2 _ _ i2
    have lt_at44 := GHeap.ltg aF
    replace hin := d.mono m
    clear u x8 bN aZ
    have u : Cat.At _ g1 0 c p := ⟨Mem.of_get l, hin⟩
    clear u1
    refine .R rfl (.appendI rfl sl_24_A ze_2_Pa rfl by_2_Pa sl_24_A rfl rfl (by assumption) (by assumption) (by first | omega | (simp <;> omega)) (by omega) (by omega)) ?_
    rintro _ H45 ⟨g45, rfl, w8, ge45, at45⟩
    replace m := m.st w8 (fun k hk => ⟨by omega, trivial⟩)
    replace l2 := l2.sA w8
    replace l := w8.s l
    replace hin := d.mono m
    clear u
    have u : Cat.At _ g1 0 c p := ⟨Mem.of_get l, hin⟩
    refine .mv rfl (.nil (aU _ _ (.region (.mv rfl ?_))))
    refine .q rfl (.add rfl rfl rfl (by omega) (by omega)) ?_
    refine .mv rfl (.nil ?_)
    refine aR ((g + 1, _, _)) _ _ ?_ ?_ ⟨rfl, rfl, rfl, rfl, rfl, rfl, trivial⟩
    ·
     refine ⟨l2, by (rw [Cat.opRow_snoc]; assumption), by omega, by (rw [Cat.opRow_snoc] <;> (first | omega | (simp only [List.length_append, List.length_cons, List.length_nil] <;> omega))), ?_⟩
     omega
    (dsimp only; omega)
   try simp only [sps] at aJ
   refine .exit ?_
   refine bF _ _ (.region ?_)
   obtain rfl : g = c.src.length := by omega
   have aE := y9.symm
   refine .q rfl (.fieldAddr fo_27_4_B rfl) ?_
   refine .q rfl (.load on_25_B rfl (by first | assumption | exact Mem.of_get a6 4 _ rfl)) ?_
   refine .mv rfl ?_
   refine .R rfl (.litA rfl sl_25_B ze_24_Hj rfl rfl rfl rfl) ?_
   rintro _ H49 ⟨g49, rfl, p3, ge49, aW⟩
   replace m := m.trans p3
   replace e3 := e3.le p3
   replace rk := rk.le p3
   replace l := p3.2 _ _ l
   replace e5 := p3.2 _ _ e5
   replace a6 := p3.2 _ _ a6
   replace i2 := p3.2 _ _ i2
   have lt_at49 := GHeap.ltg aW
   replace hin := d.mono m
   have u : Cat.At _ g1 0 c p := ⟨Mem.of_get l, hin⟩
   refine .R rfl (.appendV rfl sl_25_B ze_24_Hj rfl by_24_Hj sl_25_B rfl rfl (by assumption) (by assumption) (by first | omega | (simp <;> omega)) rfl rfl (by omega) (by omega)) ?_
   rintro _ H50 ⟨bC, rfl, r3, ge50, y5⟩
   replace m := m.st r3 (fun k hk => ⟨by omega, trivial⟩)
   replace e3 := e3.sA r3
   replace rk := rk.sA r3
   replace l := r3.s l
   replace a6 := r3.same _ _ ⟨(Ne.symm z4), trivial⟩ a6
   replace i2 := r3.s i2
   replace hin := d.mono m
   clear u
   have u : Cat.At _ g1 0 c p := ⟨Mem.of_get l, hin⟩
   refine .q rfl (.fieldAddr fo_27_4_B rfl) ?_
   refine .r0 rfl rfl (.storeR rfl sz_25_Ch rfl rfl rfl (by assumption) (by first | exact Nat.le_of_ble_eq_true rfl | (simp; done) | (simp <;> omega))) ?_
   rintro _ H10006 ⟨rfl, g6, u2⟩
   replace m := m.st g6 (fun k hk => ⟨by omega, trivial⟩)
   replace e3 := e3.sA g6
   replace rk := rk.sA g6
   replace l := g6.s l p0.ne
   replace i2 := g6.s i2
   replace y5 := g6.s y5
   replace hin := d.mono m
   clear u
   have u : Cat.At _ g1 0 c p := ⟨Mem.of_get l, hin⟩
   try simp only [Nat.zero_add, List.set_cons_succ, List.set_cons_zero] at u2
   refine .nil (bJ _ _ (.region (.mv rfl ?_)))
   refine .q rfl (.add rfl rfl rfl (by omega) (by omega)) ?_
   refine .mv rfl (.nil ?_)
   refine aB ((f + 1, upd rc (c.opTab f).length (some ⟨s1, 0, none⟩), bC)) _ _ ?_ ?_ ⟨rfl, rfl, rfl, rfl, trivial⟩
   ·
    refine ⟨e3, by (rw [Cat.opTab_snoc, slsL_snoc, aE]; assumption), by omega, by assumption, by omega, ?_⟩
    have hR' := hR.st rk (.cons (hR.neT hatC rfl) (.cons (hR.neT aT rfl) (.nil _ _)))
    have bB : HL1.next ≤ s1 := by omega
    have bK := hR.ne (g := s1) bB
    have hrow := i2
    rw [Cat.opTab_snoc]
    exact ⟨by omega, hR'.snoc2 hrow bK (by omega)⟩
   (dsimp only; omega)
  try simp only [sps] at aA
  refine .exit ?_
  refine bR _ _ (.seq (fun K14 aM => .region ?_))
  refine .q rfl (.loadM ag_27_D rfl ⟨rfl, Mem.of_get a6⟩) ?_
  obtain rfl : f = c.src.length := by omega
  have aS := x0
  refine .r0 rfl rfl (.fillA rfl sz_27_D rfl rfl rfl rfl) ?_
  rintro _ H11001 ⟨rfl, e2, u3⟩
  replace m := m.st e2 (fun k hk => ⟨by omega, trivial⟩)
  replace l := e2.s l
  replace r8 := e2.s r8
  replace q4 := e2.s q4
  replace r6 := e2.s r6
  replace e5 := e2.s e5
  replace hin := d.mono m
  have u : Cat.At _ g1 0 c p := ⟨Mem.of_get l, hin⟩
  refine .nil (aM _ _ ?_)
  refine .ret ?_
  refine aG _ _ ?_
  refine ⟨_, _, _, _, rfl, ag_27_D, (by rfl), (Mem.of_get u3), ?_⟩
  have hrc := (hR.st e2 (.cons (hR.neT aS rfl) (.nil _ _)))
  exact ⟨m, t1, t7, t5, gLC, rc, by simp [Cat.cells, Cat.op, ownP, b3], ⟨r8, q4, r6, e5, by omega, by omega, by omega, by omega, by omega, by omega, by omega, hrc.low (by omega), hR.lowNe (by omega), hR.lowNe (by omega), hR.lowNe (by omega)⟩⟩
end Go.Proofs.Ytfanjkbaemhbmaa
namespace Go.Proofs.Ytfanjkbaemhbmaa
open Go Go.GL Go.RowKit Go.Proofs
theorem sz_58_Fd : (Try.prog.info? 58).map (·.size) = some 1 := by kernel_rfl
theorem opposite1_c {g o g1 i j : Nat} {c : Cat} {p : CatP} {e1 : TypeId} {H : GHeap} (h : Cat.At H g o c p) (h1 : H.get g1 = some (.row [.pointer (some ⟨g, o, none⟩)] e1 true)) (hS : c.Shape) (hi : i < c.src.length) (hj : j < c.src.length) :
    GCalls Try.prog 78 [.int .i64 (i : Int), .int .i64 (j : Int), .pointer (some ⟨g1, 0, none⟩)] H (Ret (.int .i64 ((c.comp.getD j []).getD i 0)) H) := by
  have k1 : H.cell g1 0 = some (.pointer (some ⟨g, o, none⟩)) := by rw [GHeap.cell_of h1]; rfl
  refine GCalls.body (N := 10) (rs := [.tmp 5]) Try.func78 rfl rfl rfl rfl (fun Qx a hend => ?_)
  refine .fg [0, 1, 2] rfl ?_
  refine .seq (fun K1 b => .region (.mv rfl (.nil (b _ _ (.seq (fun K2 d => .region ?_))))))
  refine .q rfl (.load on_58_F rfl (by assumption)) ?_
  refine .mv rfl (.mv rfl ?_)
  refine .callQ rfl rfl rfl rfl @Try.call79 rfl (then_s) ?_
  refine .mv rfl (.nil (d _ _ ?_))
  refine .ret ?_
  refine a _ _ ?_
  refine ⟨_, rfl, ?_⟩
  exact .of rfl
set_option maxHeartbeats 4000000 in
theorem opposite_c {g o : Nat} {c : Cat} {p : CatP} {H : GHeap} (hc : Cat.At H g o c p := by assumption) (hS : c.Shape := by assumption) :
    GCalls Try.prog 42 [.pointer (some ⟨g, o, none⟩)] H (NewCatR H c.op) := by
  have b1 := hS.n40
  have b2 := hS.tl
  have b3 := hS.cl
  have b4 := hS.il
  have b5 := hS.obj
  refine GCalls.body (N := 27) (rs := [.cell 2 27]) Try.func42 rfl rfl rfl rfl (fun Qx f9 hend => ?_)
  refine .fg [0] rfl ?_
  have l := GHeap.Le.refl H
  have d := hc
  refine .seq (fun K1 h4 => .region ?_)
  refine .R rfl (.boxR rfl sz_58_Fd rfl) ?_
  rintro _ H1 ⟨g1, rfl, h0, ge1, e1⟩
  replace l := l.trans h0
  have lt_at1 := GHeap.ltg e1
  replace hc := d.mono l
  refine .R rfl (.allocR rfl ze_27_Hj rfl) ?_
  rintro _ H2 ⟨g2, rfl, g6, ge2, f1⟩
  replace l := l.trans g6
  replace e1 := g6.2 _ _ e1
  have lt_at2 := GHeap.ltg f1
  replace hc := d.mono l
  obtain ⟨c0, c1, c2, c3, c4, i1, i2, i3, i4⟩ := hc.get
  refine .nil (h4 _ _ (.seq (fun K2 h1 => ?_)))
  refine .regionD mo_B (.q 0 (.q 1 (.q 2 (.q 3 (.q 4 (.q 5 (.q 6 (.q 7 (.q 9 (.q 10 (.q 11 (.q 12 (.q 14 (.q 15 (.q 16 (.q 17 (.or (.c 8 1 (.or (.c 13 1 (.or (.c 18 1 (.q 19 (.c 20 1 (.c 21 1 (.done))))) (.c 20 1 (.c 18 1 (.q 19 (.c 21 1 (.done))))))) (.c 20 1 (.c 13 1 (.c 18 1 (.q 19 (.c 21 1 (.done)))))))) (.c 20 1 (.c 8 1 (.c 13 1 (.c 18 1 (.q 19 (.c 21 1 (.done)))))))))))))))))))))))) (by kernel_rfl) ?_
  refine .cut [(0, some _), (1, some _), (2, some _)] ⟨rfl, rfl, rfl, trivial⟩ (fun rest fr' H' => ∃ d9 e0 d8 g3, Sub ((12, some (.slice (some ⟨d9, 0, none⟩) c.tgt.length c.tgt.length)) :: (17, some (.slice (some ⟨e0, 0, none⟩) c.src.length c.src.length)) :: (22, some (.slice (some ⟨d8, 0, none⟩) c.idn.length c.idn.length)) :: (3, some (.pointer (some ⟨g3, 0, none⟩))) :: rest) fr' ∧ H2.Le H' ∧ H2.next ≤ d9 ∧ H2.next ≤ e0 ∧ H2.next ≤ d8 ∧ H2.next ≤ g3 ∧ H'.get d9 = some (.row (ints c.tgt) 2 true) ∧ H'.get e0 = some (.row (ints c.src) 2 true) ∧ H'.get d8 = some (.row (ints c.idn) 2 true) ∧ H'.get g3 = some (.row ([.int .i64 c.obj, .slice (some ⟨d9, 0, none⟩) c.tgt.length c.tgt.length, .slice (some ⟨e0, 0, none⟩) c.src.length c.src.length, .slice (some ⟨d8, 0, none⟩) c.idn.length c.idn.length, .slice none 0 0]) 27 true) ∧ d9 ≠ e0 ∧ d9 ≠ d8 ∧ d9 ≠ g3 ∧ e0 ≠ d8 ∧ e0 ≠ g3 ∧ d8 ≠ g3) ?_ ?_
  ·
   have m := GHeap.Le.refl H2
   refine .q rfl (.load on_58_F rfl (by first | assumption | exact Mem.of_get e1 0 _ rfl)) ?_
   refine .qB rfl (.refl _) (.nilCheck rfl) (.qB rfl (.refl _) (.fieldAddr fo_27_0_B rfl) ?_)
   refine .q rfl (.load on_2_A rfl (by assumption)) ?_
   refine .q rfl (.load on_58_F rfl (by first | assumption | exact Mem.of_get e1 0 _ rfl)) ?_
   refine .qB rfl (.refl _) (.nilCheck rfl) (.qB rfl (.refl _) (.fieldAddr fo_27_2_B rfl) ?_)
   refine .q rfl (.load on_24_B rfl (by assumption)) ?_
   refine .q rfl (.load on_58_F rfl (by first | assumption | exact Mem.of_get e1 0 _ rfl)) ?_
   refine .qB rfl (.refl _) (.nilCheck rfl) (.qB rfl (.refl _) (.fieldAddr fo_27_1_B rfl) ?_)
   refine .q rfl (.load on_24_B rfl (by assumption)) ?_
   refine .q rfl (.load on_58_F rfl (by first | assumption | exact Mem.of_get e1 0 _ rfl)) ?_
   refine .qB rfl (.refl _) (.nilCheck rfl) (.qB rfl (.refl _) (.fieldAddr fo_27_3_B rfl) ?_)
   refine .q rfl (.load on_24_B rfl (by assumption)) ?_
   refine .orI ?_ ?_
   ·
    refine .call1 rfl rfl rfl rfl rfl @Try.call77 rfl (clone_c) ?_
    rintro _ H12x2 ⟨b9, d7, rfl, a, ge12x2⟩
    have h := b9
    refine ⟨h, ?_⟩
    replace l := l.trans b9
    have lt_at12x2 := GHeap.ltg a
    replace m := m.trans b9
    refine .orI ?_ ?_
    ·
     replace hc := d.mono l
     clear c0 c1 c2 c3 c4 i1 i2 i3 i4
     obtain ⟨c0, c1, c2, c3, c4, i1, i2, i3, i4⟩ := hc.get
     refine .call1 rfl rfl rfl rfl rfl @Try.call77 rfl (clone_c) ?_
     rintro _ H17x2 ⟨a7, e2, rfl, f, ge17x2⟩
     replace h := h.trans a7
     refine ⟨h, ?_⟩
     replace l := l.trans a7
     replace a := a7.2 _ _ a
     have lt_at17x2 := GHeap.ltg f
     replace m := m.trans a7
     refine .orI ?_ ?_
     ·
      replace hc := d.mono l
      clear c0 c1 c2 c3 c4 i1 i2 i3 i4
      obtain ⟨c0, c1, c2, c3, c4, i1, i2, i3, i4⟩ := hc.get
      refine .call1 rfl rfl rfl rfl rfl @Try.call77 rfl (clone_c) ?_
      rintro _ H22x2 ⟨a8, e7, rfl, w, ge22x2⟩
      replace h := h.trans a8
      refine ⟨h, ?_⟩
      replace a := a8.2 _ _ a
      replace f := a8.2 _ _ f
      have lt_at22x2 := GHeap.ltg w
      replace m := m.trans a8
      refine .qB rfl h (.build bt_27_Hj rfl rfl rfl) ?_
      refine .c1 rfl rfl rfl rfl (.allocR rfl ze_27_Hj rfl) ?_
      rintro _ H3x2 ⟨g4, rfl, b6, ge3x2, at3x2⟩
      replace h := h.trans b6
      refine ⟨h, ?_⟩
      replace a := b6.2 _ _ a
      replace f := b6.2 _ _ f
      replace w := b6.2 _ _ w
      replace m := m.trans b6
      refine .r1 rfl rfl rfl (.fillA rfl sz_27_D rfl rfl rfl rfl) ?_
      rintro _ H1021 ⟨rfl, a6, e4⟩
      replace h := h.st a6 (fun k hk => ⟨by omega, trivial⟩)
      refine ⟨h, ?_⟩
      replace a := a6.s a
      replace f := a6.s f
      replace w := a6.s w
      replace m := m.st a6 (fun k hk => ⟨by omega, trivial⟩)
      refine .done ?_
      exact ⟨d7, e2, e7, g4, ⟨rfl, rfl, rfl, rfl, rfl, rfl, rfl, trivial⟩, m, by omega, by omega, by omega, by omega, by first | assumption | simpa using a, by first | assumption | simpa using f, by first | assumption | simpa using w, by first | assumption | simpa using e4, by omega, by omega, by omega, by omega, by omega, by omega⟩
     refine .c1 rfl rfl rfl rfl (.allocR rfl ze_27_Hj rfl) ?_
     rintro _ H3x3 ⟨f7, rfl, b7, ge3x3, d1⟩
     replace h := h.trans b7
     refine ⟨h, ?_⟩
     replace l := l.trans b7
     replace a := b7.2 _ _ a
     replace f := b7.2 _ _ f
     have lt_at3x3 := GHeap.ltg d1
     replace m := m.trans b7
     replace hc := d.mono l
     clear c1
     obtain ⟨c0, c1, c2, c3, c4, i1, i2, i3, i4⟩ := hc.get
     refine .call1 rfl rfl rfl rfl rfl @Try.call77 rfl (clone_c) ?_
     rintro _ H22x3 ⟨a2, e8, rfl, c5, ge22x3⟩
     replace h := h.trans a2
     refine ⟨h, ?_⟩
     replace a := a2.2 _ _ a
     replace f := a2.2 _ _ f
     replace d1 := a2.2 _ _ d1
     replace m := m.trans a2
     refine .qB rfl h (.build bt_27_Hj rfl rfl rfl) ?_
     refine .r1 rfl rfl rfl (.fillA rfl sz_27_D rfl rfl rfl rfl) ?_
     rintro _ H1021x2 ⟨rfl, u, d2⟩
     replace h := h.st u (fun k hk => ⟨by omega, trivial⟩)
     refine ⟨h, ?_⟩
     replace a := u.s a
     replace f := u.s f
     replace c5 := u.s c5
     replace m := m.st u (fun k hk => ⟨by omega, trivial⟩)
     refine .done ?_
     exact ⟨d7, e2, e8, f7, ⟨rfl, rfl, rfl, rfl, rfl, rfl, rfl, trivial⟩, m, by omega, by omega, by omega, by omega, by first | assumption | simpa using a, by first | assumption | simpa using f, by first | assumption | simpa using c5, by first | assumption | simpa using d2, by omega, by omega, by omega, by omega, by omega, by omega⟩
    refine .c1 rfl rfl rfl rfl (.allocR rfl ze_27_Hj rfl) ?_
    rintro _ H3x4 ⟨f8, rfl, c9, ge3x4, b0⟩
    replace h := h.trans c9
    refine ⟨h, ?_⟩
    replace l := l.trans c9
    replace a := c9.2 _ _ a
    have lt_at3x4 := GHeap.ltg b0
    replace m := m.trans c9
    replace hc := d.mono l
    clear c1
    obtain ⟨c0, c1, c2, c3, c4, i1, i2, i3, i4⟩ := hc.get
    refine .call1 rfl rfl rfl rfl rfl @Try.call77 rfl (clone_c) ?_
    rintro _ H17x3 ⟨a3, f2, rfl, y, ge17x3⟩
    replace h := h.trans a3
    refine ⟨h, ?_⟩
    replace l := l.trans a3
    replace a := a3.2 _ _ a
    replace b0 := a3.2 _ _ b0
    have lt_at17x3 := GHeap.ltg y
    replace m := m.trans a3
    replace hc := d.mono l
    clear c0 c1 c2 c3 c4 i1 i2 i3 i4
    obtain ⟨c0, c1, c2, c3, c4, i1, i2, i3, i4⟩ := hc.get
    refine .call1 rfl rfl rfl rfl rfl @Try.call77 rfl (clone_c) ?_
    rintro _ H22x4 ⟨a5, f4, rfl, c6, ge22x4⟩
    replace h := h.trans a5
    refine ⟨h, ?_⟩
    replace a := a5.2 _ _ a
    replace b0 := a5.2 _ _ b0
    replace y := a5.2 _ _ y
    replace m := m.trans a5
    refine .qB rfl h (.build bt_27_Hj rfl rfl rfl) ?_
    refine .r1 rfl rfl rfl (.fillA rfl sz_27_D rfl rfl rfl rfl) ?_
    rintro _ H1021x3 ⟨rfl, t, d6⟩
    replace h := h.st t (fun k hk => ⟨by omega, trivial⟩)
    refine ⟨h, ?_⟩
    replace a := t.s a
    replace y := t.s y
    replace c6 := t.s c6
    replace m := m.st t (fun k hk => ⟨by omega, trivial⟩)
    refine .done ?_
    exact ⟨d7, f2, f4, f8, ⟨rfl, rfl, rfl, rfl, rfl, rfl, rfl, trivial⟩, m, by omega, by omega, by omega, by omega, by first | assumption | simpa using a, by first | assumption | simpa using y, by first | assumption | simpa using c6, by first | assumption | simpa using d6, by omega, by omega, by omega, by omega, by omega, by omega⟩
   refine .c1 rfl rfl rfl rfl (.allocR rfl ze_27_Hj rfl) ?_
   rintro _ H3x5 ⟨g0, rfl, d5, ge3x5, z⟩
   have h := d5
   refine ⟨h, ?_⟩
   replace l := l.trans d5
   have lt_at3x5 := GHeap.ltg z
   replace m := m.trans d5
   replace hc := d.mono l
   clear c1
   obtain ⟨c0, c1, c2, c3, c4, i1, i2, i3, i4⟩ := hc.get
   refine .call1 rfl rfl rfl rfl rfl @Try.call77 rfl (clone_c) ?_
   rintro _ H12x3 ⟨a9, e6, rfl, r, ge12x3⟩
   replace h := h.trans a9
   refine ⟨h, ?_⟩
   replace l := l.trans a9
   replace z := a9.2 _ _ z
   have lt_at12x3 := GHeap.ltg r
   replace m := m.trans a9
   replace hc := d.mono l
   clear c0 c1 c2 c3 c4 i1 i2 i3 i4
   obtain ⟨c0, c1, c2, c3, c4, i1, i2, i3, i4⟩ := hc.get
   refine .call1 rfl rfl rfl rfl rfl @Try.call77 rfl (clone_c) ?_
   rintro _ H17x4 ⟨a0, e9, rfl, x, ge17x4⟩
   replace h := h.trans a0
   refine ⟨h, ?_⟩
   replace l := l.trans a0
   replace z := a0.2 _ _ z
   replace r := a0.2 _ _ r
   have lt_at17x4 := GHeap.ltg x
   replace m := m.trans a0
   replace hc := d.mono l
   clear c0 c1 c2 c3 c4 i1 i2 i3 i4
   obtain ⟨c0, c1, c2, c3, c4, i1, i2, i3, i4⟩ := hc.get
   refine .call1 rfl rfl rfl rfl rfl @Try.call77 rfl (clone_c) ?_
   rintro _ H22x5 ⟨a4, f0, rfl, c7, ge22x5⟩
   replace h := h.trans a4
   refine ⟨h, ?_⟩
   replace z := a4.2 _ _ z
   replace r := a4.2 _ _ r
   replace x := a4.2 _ _ x
   replace m := m.trans a4
   refine .qB rfl h (.build bt_27_Hj rfl rfl rfl) ?_
   refine .r1 rfl rfl rfl (.fillA rfl sz_27_D rfl rfl rfl rfl) ?_
   rintro _ H1021x4 ⟨rfl, n, d3⟩
   replace h := h.st n (fun k hk => ⟨by omega, trivial⟩)
   refine ⟨h, ?_⟩
   replace r := n.s r
   replace x := n.s x
   replace c7 := n.s c7
   replace m := m.st n (fun k hk => ⟨by omega, trivial⟩)
   refine .done ?_
   exact ⟨e6, e9, f0, g0, ⟨rfl, rfl, rfl, rfl, rfl, rfl, rfl, trivial⟩, m, by omega, by omega, by omega, by omega, by first | assumption | simpa using r, by first | assumption | simpa using x, by first | assumption | simpa using c7, by first | assumption | simpa using d3, by omega, by omega, by omega, by omega, by omega, by omega⟩
  rintro fr3 H3 ⟨d9, e0, d8, g3, f3, f5, ge12, ge17, ge22, ge3, c8, b8, d0, h3, ne3_0, ne3_1, ne3_2, ne3_3, ne3_4, ne3_5⟩
  have nx_H3 := f5.1
  replace l := l.trans f5
  replace e1 := f5.2 _ _ e1
  replace f1 := f5.2 _ _ f1
  have lt_at12 := GHeap.ltg c8
  have lt_at17 := GHeap.ltg b8
  have lt_at22 := GHeap.ltg d0
  replace hc := d.mono l
  refine h1 _ _ ?_
  refine .forget f3 ?_
  refine .seq (fun K3 h2 => .region ?_)
  rw [b2] at h3
  refine .q rfl (.makeFunc rfl) ?_
  refine .call rfl rfl rfl rfl @Try.call44 rfl (table_c (src := c.tgt) (tgt := c.src) (X := fun i j => (c.comp.getD j []).getD i 0) (by assumption) hS.tl rfl (by omega) (fun H' s => Ints.of_get (s.same _ _ ⟨by omega, trivial⟩ c8)) (fun H' s => Ints.of_get (s.same _ _ ⟨by omega, trivial⟩ b8)) @Try.call78 (fun H' s i j hi hj e => (opposite1_c (H := H') (d.mono (l.st s (fun k hk => ⟨by omega, trivial⟩))) (s.same _ _ ⟨by omega, trivial⟩ e1) hS hi hj).mono fun v H'' hv => by obtain ⟨rfl, rfl⟩ := hv; exact ⟨.refl _, rfl⟩)) ?_
  rintro _ H25 ⟨d4, f6, g8, g5, ge25, g7, e3⟩
  replace l := l.st d4 (fun k hk => ⟨by omega, trivial⟩)
  replace f1 := d4.s f1
  replace c8 := d4.s c8
  replace b8 := d4.s b8
  replace d0 := d4.s d0
  replace hc := d.mono l
  refine .nil (h2 _ _ (.seq (fun K4 g9 => .region ?_)))
  refine .q rfl (.loadM ag_27_D rfl ⟨rfl, Mem.of_get g5⟩) ?_
  refine .r0 rfl rfl (.fillA rfl sz_27_D rfl rfl rfl rfl) ?_
  rintro _ H3001 ⟨rfl, a1, e5⟩
  replace l := l.st a1 (fun k hk => ⟨by omega, trivial⟩)
  replace c8 := a1.s c8
  replace b8 := a1.s b8
  replace d0 := a1.s d0
  replace hc := d.mono l
  refine .nil (g9 _ _ ?_)
  refine .ret ?_
  refine f9 _ _ ?_
  refine ⟨_, _, _, _, rfl, ag_27_D, (by rfl), (Mem.of_get e5), ?_⟩
  rw [Cat.op_tab hS] at g7
  refine ⟨l, ⟨some ⟨d9, 0, none⟩, some ⟨e0, 0, none⟩, some ⟨d8, 0, none⟩, some ⟨f6, 0, none⟩, g8⟩, by simp [Cat.cells, Cat.op, b2], ?_⟩
  have hv := g7.keep (a1.keep (b := H3.next) (fun k hk => ⟨by omega, trivial⟩)) (by omega)
  refine .mk (.of_at c8 (by omega)) (.of_at b8 (by omega)) (.of_at d0 (by omega)) (hv.keep (.of_le (.refl _)) (by omega)) (g1 := d9) (g2 := e0) (g3 := d8) (.inr rfl) (.inr rfl) (.inr rfl) (by omega) (by omega) (by omega) (fun i hi => ?_)
  have hi' : i < c.src.length := by simpa [Cat.op] using hi
  exact ⟨fun e => by have := e3 i hi' _ e; omega, fun e => by have := e3 i hi' _ e; omega, fun e => by have := e3 i hi' _ e; omega⟩
theorem oppositeCategory_c {c : Cat} {p : CatP} {H : GHeap} (hin : c.In H p := by assumption) (hs : c.Small := by assumption) :
    GCalls Try.prog 12 [.agg (c.cells p).toArray] H (NewCR (c.code []) c.opR H) := by
  refine GCalls.body (N := 8) (rs := [.cell 2 27, .tmp 3]) Try.func12 rfl rfl rfl rfl (fun Qx r hend => ?_)
  refine .fg [0] rfl ?_
  have e := GHeap.Le.refl H
  have b := hin
  refine .seq (fun K1 a1 => .region ?_)
  refine .R rfl (.boxR rfl sz_27_D rfl) ?_
  rintro _ H1 ⟨g1, rfl, x, ge1, g⟩
  replace e := e.trans x
  have lt_at1 := GHeap.ltg g
  replace hin := b.mono e
  have m : Cat.At _ g1 0 c p := ⟨Mem.of_get g, hin⟩
  refine .R rfl (.allocR rfl ze_27_Hj rfl) ?_
  rintro _ H2 ⟨g2, rfl, v, ge2, u⟩
  have nx_H2 := v.1
  replace e := e.trans v
  replace g := v.2 _ _ g
  have lt_at2 := GHeap.ltg u
  replace hin := b.mono e
  clear m
  have m : Cat.At _ g1 0 c p := ⟨Mem.of_get g, hin⟩
  refine .mv rfl (.nil (a1 _ _ (.seq (fun K2 z => .seq (fun K3 a0 => .region ?_)))))
  refine .callQ rfl rfl rfl rfl @Try.call34 rfl (isCategory_c) ?_
  refine .q rfl (.not rfl) (.nil (a0 _ _ ?_))
  refine .cond rfl (fun h5 => ?_) (fun h5 => ?_)
  ·
   try simp only [sps] at h5
   refine .seq (fun K4 w => .region (.q rfl (.build bt_27_Hj rfl rfl rfl) ?_))
   refine .r0 rfl rfl (.fillA rfl sz_27_D rfl rfl rfl rfl) ?_
   rintro _ H2001 ⟨rfl, j, l⟩
   replace e := e.st j (fun k hk => ⟨by omega, trivial⟩)
   have d : NE g1 g2 := .a
   replace g := j.s g d.ne
   replace hin := b.mono e
   clear m
   have m : Cat.At _ g1 0 c p := ⟨Mem.of_get g, hin⟩
   refine .mv rfl (.nil (w _ _ ?_))
   refine .ret ?_
   refine r _ _ ?_
   refine ⟨_, _, _, _, _, rfl, ag_27_D, (by rfl), (Mem.of_get l), rfl, ?_⟩
   rw [Cat.op_not h5, Cat.code_nil1 h5]; exact ⟨e, .zero, rfl, .zero _ _⟩
  simp only [sps] at h5
  have hS := h5.1
  refine .skip ?_
  refine z _ _ (.seq (fun K5 y => .region ?_))
  refine .call rfl rfl rfl rfl @Try.call42 rfl (opposite_c) ?_
  rintro _ H7 ⟨t, p7, rfl, v7⟩
  replace e := e.trans t
  replace g := t.2 _ _ g
  replace u := t.2 _ _ u
  have o := v7
  have i : Keep H2.next H7 H7 := fun _ _ _ h => h
  replace hin := b.mono e
  have m : Cat.At _ g1 0 c p := ⟨Mem.of_get g, hin⟩
  refine .r0 rfl rfl (.fillA rfl sz_27_D rfl rfl rfl rfl) ?_
  rintro _ H3001 ⟨rfl, f, n⟩
  replace e := e.st f (fun k hk => ⟨by omega, trivial⟩)
  have d : NE g1 g2 := .a
  replace g := f.s g d.ne
  replace i := Keep.st i f (fun k hb hk => ⟨by omega, trivial⟩)
  replace v7 := o.keep i (Nat.le_refl _)
  replace hin := b.mono e
  clear m
  have m : Cat.At _ g1 0 c p := ⟨Mem.of_get g, hin⟩
  refine .mv rfl (.nil (y _ _ ?_))
  refine .ret ?_
  refine r _ _ ?_
  refine ⟨_, _, _, _, _, rfl, ag_27_D, (by rfl), (Mem.of_get n), rfl, ?_⟩
  rw [Cat.op_ok h5, Cat.code_nil.2 h5]; exact ⟨e, p7, rfl, v7.keep (.of_le (.refl _)) (by omega)⟩
end Go.Proofs.Ytfanjkbaemhbmaa
namespace Go.GL
open Go.RowKit
theorem sumN_congr {f g : Nat → Int} : ∀ {n : Nat}, (∀ i, i < n → f i = g i) → sumN f n = sumN g n
  | 0, _ => rfl
  | n + 1, h => by
    show sumN f n + f n = sumN g n + g n
    rw [sumN_congr (n := n) fun i hi => h i (by omega), h n (by omega)]
theorem sumN_zero {f : Nat → Int} {n : Nat} (h : ∀ i, i < n → f i = 0) : sumN f n = 0 := by
  induction n with
  | zero => rfl
  | succ n ih =>
    show sumN f n + f n = 0
    rw [ih fun i hi => h i (by omega), h n (by omega)]; rfl
theorem sumN_add (f g : Nat → Int) : ∀ n, sumN (fun i => f i + g i) n = sumN f n + sumN g n
  | 0 => rfl
  | n + 1 => by
    show sumN (fun i => f i + g i) n + (f n + g n) = (sumN f n + f n) + (sumN g n + g n)
    rw [sumN_add f g n]; omega
theorem sumN_mul (f : Nat → Int) (k : Int) : ∀ n, sumN (fun i => f i * k) n = sumN f n * k
  | 0 => (Int.zero_mul k).symm
  | n + 1 => by
    show sumN (fun i => f i * k) n + f n * k = (sumN f n + f n) * k
    rw [sumN_mul f k n, Int.add_mul]
theorem sumN_mulL (f : Nat → Int) (k : Int) (n : Nat) : sumN (fun i => k * f i) n = k * sumN f n := by
  rw [Int.mul_comm, ← sumN_mul]; exact sumN_congr fun i _ => Int.mul_comm _ _
theorem sumN_swap (f : Nat → Nat → Int) (m : Nat) : ∀ n, sumN (fun i => sumN (fun j => f i j) m) n = sumN (fun j => sumN (fun i => f i j) n) m
  | 0 => (sumN_zero fun _ _ => rfl).symm
  | n + 1 => by
    show sumN (fun i => sumN (fun j => f i j) m) n + sumN (fun j => f n j) m = _
    rw [sumN_swap f m n, ← sumN_add]; rfl
theorem sumN_one {f : Nat → Int} {a : Nat} : ∀ {n : Nat}, a < n → (∀ i, i < n → i ≠ a → f i = 0) → sumN f n = f a
  | n + 1, ha, h => by
    show sumN f n + f n = f a
    by_cases e : a = n
    · subst e; rw [sumN_zero fun i hi => h i (by omega) (by omega)]; omega
    · rw [sumN_one (n := n) (by omega) fun i hi => h i (by omega), h n (by omega) (fun e' => e e'.symm)]; omega
theorem sumN_split (f : Nat → Int) (m : Nat) : ∀ n, sumN f (m + n) = sumN f m + sumN (fun i => f (m + i)) n
  | 0 => by show sumN f m = sumN f m + 0; omega
  | n + 1 => by
    show sumN f (m + n) + f (m + n) = _ + (sumN (fun i => f (m + i)) n + f (m + n))
    rw [sumN_split f m n]; omega
theorem div_of {a b k : Nat} (h : b < k) : (a * k + b) / k = a := by
  rw [Nat.mul_comm, Nat.mul_add_div (by omega), Nat.div_eq_of_lt h]; rfl
theorem mod_of {a b k : Nat} (h : b < k) : (a * k + b) % k = b := by
  rw [Nat.mul_comm, Nat.mul_add_mod]; exact Nat.mod_eq_of_lt h
theorem sumN_prod (f : Nat → Nat → Int) (k : Nat) : ∀ n, sumN (fun i => f (i / k) (i % k)) (n * k) = sumN (fun a => sumN (fun b => f a b) k) n
  | 0 => by rw [Nat.zero_mul]; rfl
  | n + 1 => by
    rw [Nat.succ_mul, sumN_split, sumN_prod f k n]
    show _ = sumN (fun a => sumN (fun b => f a b) k) n + sumN (fun b => f n b) k
    congr 1
    exact sumN_congr fun b hb => by rw [div_of hb, mod_of hb]
theorem sumN_nn {f : Nat → Int} : ∀ {n : Nat}, (∀ i, i < n → 0 ≤ f i) → 0 ≤ sumN f n
  | 0, _ => Int.le_refl _
  | n + 1, h => by
    have h1 := sumN_nn (n := n) fun i hi => h i (by omega)
    have h2 := h n (by omega)
    show 0 ≤ sumN f n + f n
    omega
theorem sumN_each {f : Nat → Int} : ∀ {n : Nat}, (∀ i, i < n → 0 ≤ f i) → sumN f n ≤ 0 → ∀ i, i < n → f i = 0
  | n + 1, h, h0, i, hi => by
    have h1 := sumN_nn (n := n) fun i hi => h i (by omega)
    have h2 := h n (by omega)
    have h3 : sumN f n + f n ≤ 0 := h0
    by_cases e : i = n
    · subst e; omega
    · exact sumN_each (n := n) (fun i hi => h i (by omega)) (by omega) i (by omega)
theorem sumN_pos {f : Nat → Int} : ∀ {n : Nat}, sumN f n ≠ 0 → ∃ i, i < n ∧ f i ≠ 0
  | 0, h => absurd rfl h
  | n + 1, h => by
    by_cases e : f n = 0
    · obtain ⟨i, h1, h2⟩ := sumN_pos (f := f) (n := n) fun e' => h (by show sumN f n + f n = 0; omega)
      exact ⟨i, by omega, h2⟩
    · exact ⟨n, by omega, e⟩
theorem sumN_monoE {f g : Nat → Int} : ∀ {n : Nat}, (∀ i, i < n → f i ≤ g i) → sumN f n ≤ sumN g n
  | 0, _ => Int.le_refl _
  | n + 1, h => by
    have h1 := sumN_monoE (n := n) fun i hi => h i (by omega)
    have h2 := h n (by omega)
    show sumN f n + f n ≤ sumN g n + g n
    omega

def Cat.wkt (c : Cat) (P : Nat → Bool) (w : Nat → Int) (y i : Nat) : Int := if P i = true ∧ c.tgt.getD i 0 = (y : Int) then w (c.src.getD i 0).toNat else 0
def Cat.wkp (c : Cat) (P : Nat → Bool) (w : Nat → Int) (f y : Nat) : Int := sumN (c.wkt P w y) f
def Cat.wk (c : Cat) (P : Nat → Bool) : Nat → Nat → Int
  | 0, _ => 1
  | k + 1, y => c.wkp P (c.wk P k) c.src.length y
def Cat.nc (c : Cat) (P : Nat → Bool) (k : Nat) : Int := sumN (c.wk P k) c.obj.toNat
def Cat.any (_ : Cat) (_ : Nat) : Bool := true
def Cat.mv (c : Cat) (f : Nat) : Bool := !decide (c.idn.getD (c.src.getD f 0).toNat 0 = (f : Int))
theorem Cat.mv_T {c : Cat} {f : Nat} (h : ¬ c.idn.getD (c.src.getD f 0).toNat 0 = (f : Int)) : c.mv f = true := by unfold Cat.mv; rw [decide_eq_false h]; rfl
theorem Cat.mv_F {c : Cat} {f : Nat} (h : c.idn.getD (c.src.getD f 0).toNat 0 = (f : Int)) : c.mv f = false := by unfold Cat.mv; rw [decide_eq_true h]; rfl
theorem Cat.mv_iff {c : Cat} {f : Nat} : c.mv f = false ↔ c.idn.getD (c.src.getD f 0).toNat 0 = (f : Int) := by
  by_cases h : c.idn.getD (c.src.getD f 0).toNat 0 = (f : Int)
  · exact ⟨fun _ => h, fun _ => Cat.mv_F h⟩
  · exact ⟨fun e => absurd (Cat.mv_T h) (by rw [e]; exact Bool.false_ne_true), fun e => absurd e h⟩
theorem Cat.wkt_nn {c : Cat} {P : Nat → Bool} {w : Nat → Int} (hw : ∀ x, 0 ≤ w x) (y i : Nat) : 0 ≤ c.wkt P w y i := by
  unfold Cat.wkt; split
  · exact hw _
  · exact Int.le_refl _
theorem Cat.wk_nn (c : Cat) (P : Nat → Bool) : ∀ k y, 0 ≤ c.wk P k y
  | 0, _ => by show (0 : Int) ≤ 1; omega
  | k + 1, y => sumN_nn fun i _ => Cat.wkt_nn (c.wk_nn P k) y i
theorem Cat.wkt_le {c : Cat} {P : Nat → Bool} {w : Nat → Int} {M : Int} (hM : 0 ≤ M) (hw : ∀ x, w x ≤ M) (y i : Nat) : c.wkt P w y i ≤ M := by
  unfold Cat.wkt; split
  · exact hw _
  · exact hM
theorem Cat.wkp_le {c : Cat} {P : Nat → Bool} {w : Nat → Int} {M : Int} (hM : 0 ≤ M) (h0 : ∀ x, 0 ≤ w x) (hw : ∀ x, w x ≤ M) (f y : Nat) : 0 ≤ c.wkp P w f y ∧ c.wkp P w f y ≤ f * M :=
  sumN_bd (N := f) (fun i _ => ⟨Cat.wkt_nn h0 y i, Cat.wkt_le hM hw y i⟩) (Nat.le_refl f)
theorem Cat.wk_le {c : Cat} (h : c.src.length ≤ 40) (P : Nat → Bool) : ∀ k y, c.wk P k y ≤ 40 ^ k
  | 0, _ => by show (1 : Int) ≤ 1; omega
  | k + 1, y => by
    have h1 := (Cat.wkp_le (c := c) (P := P) (M := 40 ^ k) (Int.le_of_lt (Int.pow_pos (by omega))) (c.wk_nn P k) (Cat.wk_le h P k) c.src.length y).2
    have h2 : (c.src.length : Int) * 40 ^ k ≤ 40 * 40 ^ k := Int.mul_le_mul_of_nonneg_right (by omega) (Int.le_of_lt (Int.pow_pos (by omega)))
    have h3 : (40 : Int) ^ (k + 1) = 40 * 40 ^ k := by rw [Int.pow_succ, Int.mul_comm]
    show c.wkp P (c.wk P k) c.src.length y ≤ _
    omega
theorem Cat.wk_congr {c : Cat} {P Q : Nat → Bool} (h : ∀ i, i < c.src.length → P i = Q i) : ∀ k y, c.wk P k y = c.wk Q k y
  | 0, _ => rfl
  | k + 1, y => sumN_congr fun i hi => by
    have e : c.wk P k = c.wk Q k := funext (Cat.wk_congr h k)
    unfold Cat.wkt; rw [h i hi, e]
theorem Cat.wk_mono {c : Cat} {P : Nat → Bool} : ∀ k y, c.wk P k y ≤ c.wk c.any k y
  | 0, _ => Int.le_refl _
  | k + 1, y => sumN_monoE fun i _ => by
    have h1 := c.wk_nn c.any k (c.src.getD i 0).toNat
    have h2 := Cat.wk_mono (c := c) (P := P) k (c.src.getD i 0).toNat
    unfold Cat.wkt
    by_cases e : c.tgt.getD i 0 = (y : Int)
    · rw [if_pos (show c.any i = true ∧ _ from ⟨rfl, e⟩)]
      split
      · exact h2
      · exact h1
    · rw [if_neg fun q => e q.2, if_neg fun q => e q.2]; exact Int.le_refl _
def Cat.epw (c : Cat) (P : Nat → Bool) (w r : Nat → Int) : Int := sumN (fun i => if P i = true then w (c.src.getD i 0).toNat * r (c.tgt.getD i 0).toNat else 0) c.src.length
theorem Cat.pw_wk {c : Cat} (hS : c.Shape) (P : Nat → Bool) (w r : Nat → Int) : sumN (fun y => c.wkp P w c.src.length y * r y) c.obj.toNat = c.epw P w r := by
  have e : sumN (fun y => c.wkp P w c.src.length y * r y) c.obj.toNat = sumN (fun y => sumN (fun i => c.wkt P w y i * r y) c.src.length) c.obj.toNat := sumN_congr fun y _ => (sumN_mul _ _ _).symm
  rw [e, sumN_swap]
  refine sumN_congr fun i hi => ?_
  have ht := hS.tgt i (by have := hS.tl; omega)
  rw [sumN_one (a := (c.tgt.getD i 0).toNat) (by omega)]
  · unfold Cat.wkt
    by_cases e : P i = true
    · rw [if_pos ⟨e, (Int.toNat_of_nonneg ht.1).symm⟩, if_pos e]
    · rw [if_neg fun q => e q.1, if_neg e, Int.zero_mul]
  · intro y hy hne
    unfold Cat.wkt
    rw [if_neg fun q => hne (by rw [q.2]; rfl), Int.zero_mul]
theorem Cat.pw_op {c : Cat} (hS : c.Shape) (P : Nat → Bool) (w r : Nat → Int) : c.op.epw P r w = c.epw P w r := by
  have tl := hS.tl
  unfold Cat.epw
  show sumN (fun i => if P i = true then r (c.tgt.getD i 0).toNat * w (c.src.getD i 0).toNat else 0) c.tgt.length = _
  rw [tl]
  exact sumN_congr fun i _ => by rw [Int.mul_comm]
theorem Cat.nc_op {c : Cat} (hS : c.Shape) (P : Nat → Bool) (k : Nat) : c.op.nc P k = c.nc P k := by
  have step : ∀ j l, sumN (fun y => c.wk P (j + 1) y * c.op.wk P l y) c.obj.toNat = sumN (fun y => c.wk P j y * c.op.wk P (l + 1) y) c.obj.toNat := fun j l => by
    have h1 := Cat.pw_wk hS P (c.wk P j) (c.op.wk P l)
    have h2 := Cat.pw_wk hS.op P (c.op.wk P l) (c.wk P j)
    rw [Cat.pw_op hS] at h2
    refine h1.trans (h2.symm.trans (sumN_congr fun y _ => Int.mul_comm _ _))
  have all : ∀ j l, sumN (fun y => c.wk P j y * c.op.wk P l y) c.obj.toNat = sumN (fun y => c.wk P 0 y * c.op.wk P (j + l) y) c.obj.toNat := fun j => by
    induction j with
    | zero => intro l; rw [Nat.zero_add]
    | succ j ih => intro l; rw [step, ih, show j + (l + 1) = j + 1 + l by omega]
  have h := all k 0
  have e1 : sumN (fun y => c.wk P k y * c.op.wk P 0 y) c.obj.toNat = c.nc P k := sumN_congr fun y _ => Int.mul_one _
  have e2 : sumN (fun y => c.wk P 0 y * c.op.wk P (k + 0) y) c.obj.toNat = c.op.nc P k := sumN_congr fun y _ => Int.one_mul _
  rw [e1, e2] at h
  exact h.symm
theorem Cat.mv_op {c : Cat} (hS : c.Shape) {f : Nat} (hf : f < c.src.length) : c.op.mv f = c.mv f := by
  have s1 := hS.src f hf
  have t1 := hS.tgt f (by have := hS.tl; omega)
  have il := hS.il
  have key : c.idn.getD (c.tgt.getD f 0).toNat 0 = (f : Int) ↔ c.idn.getD (c.src.getD f 0).toNat 0 = (f : Int) := by
    constructor
    · intro e
      have := hS.ids (c.tgt.getD f 0).toNat (by omega)
      rw [e] at this
      have h2 := this.1
      rw [Int.toNat_natCast, Int.toNat_of_nonneg t1.1] at h2
      rw [h2]; exact e
    · intro e
      have := hS.ids (c.src.getD f 0).toNat (by omega)
      rw [e] at this
      have h2 := this.2
      rw [Int.toNat_natCast, Int.toNat_of_nonneg s1.1] at h2
      rw [h2]; exact e
  by_cases e : c.idn.getD (c.src.getD f 0).toNat 0 = (f : Int)
  · rw [Cat.mv_F e, Cat.mv_F (c := c.op) (key.2 e)]
  · rw [Cat.mv_T e, Cat.mv_T (c := c.op) fun q => e (key.1 q)]
theorem Cat.nc_mv_op {c : Cat} (hS : c.Shape) (k : Nat) : c.op.nc c.op.mv k = c.nc c.mv k := by
  rw [← Cat.nc_op hS c.mv k]
  exact sumN_congr fun y _ => Cat.wk_congr (c := c.op) (fun i hi => Cat.mv_op hS (by have := hS.tl; have : i < c.tgt.length := hi; omega)) k y
def sgn : Nat → Int
  | 0 => 1
  | k + 1 => - sgn k
theorem sgn_bd : ∀ k, sgn k = 1 ∨ sgn k = -1
  | 0 => .inl rfl
  | k + 1 => by have := sgn_bd k; show - sgn k = 1 ∨ - sgn k = -1; omega
def Cat.chi (c : Cat) (k : Nat) : Int := sumN (fun i => sgn i * c.nc c.mv i) k
def Cat.uw (c : Cat) (k y : Nat) : Int := sumN (fun i => sgn i * c.wk c.mv i y) k
theorem Cat.chi_uw (c : Cat) (k : Nat) : c.chi k = sumN (fun y => c.uw k y) c.obj.toNat := by
  unfold Cat.chi Cat.uw
  rw [sumN_swap]
  exact sumN_congr fun i _ => (sumN_mulL _ _ _).symm
theorem Cat.wkp_add (c : Cat) (P : Nat → Bool) (v w : Nat → Int) (a : Int) (f y : Nat) : c.wkp P (fun x => v x + a * w x) f y = c.wkp P v f y + a * c.wkp P w f y := by
  unfold Cat.wkp
  rw [← sumN_mulL, ← sumN_add]
  refine sumN_congr fun i _ => ?_
  unfold Cat.wkt
  split
  · rfl
  · omega
theorem Cat.uw_step (c : Cat) (y : Nat) : ∀ k, c.wkp c.mv (c.uw k) c.src.length y = 1 - c.uw (k + 1) y
  | 0 => by
    have h1 : c.wkp c.mv (c.uw 0) c.src.length y = 0 := sumN_zero fun i _ => by
      unfold Cat.wkt
      split <;> rfl
    have h2 : c.uw (0 + 1) y = 1 := rfl
    omega
  | k + 1 => by
    have h1 := c.wkp_add c.mv (c.uw k) (c.wk c.mv k) (sgn k) c.src.length y
    have h2 := c.uw_step y k
    have h3 : c.uw (k + 1) = fun x => c.uw k x + sgn k * c.wk c.mv k x := rfl
    have h4 : c.uw (k + 1 + 1) y = c.uw (k + 1) y + sgn (k + 1) * c.wk c.mv (k + 1) y := rfl
    have h5 : c.wkp c.mv (c.wk c.mv k) c.src.length y = c.wk c.mv (k + 1) y := rfl
    have h6 : sgn (k + 1) * c.wk c.mv (k + 1) y = - (sgn k * c.wk c.mv (k + 1) y) := Int.neg_mul _ _
    rw [h3, h1, h2, h4, h5, h6]
    omega
theorem Cat.wkp_any {c : Cat} (hS : c.Shape) (w : Nat → Int) {y : Nat} (hy : (y : Int) < c.obj) : c.wkp c.any w c.src.length y = c.wkp c.mv w c.src.length y + w y := by
  have il := hS.il
  have i1 := hS.idn y (by omega)
  have i2 := hS.ids y (by omega)
  have e : sumN (fun i => if c.mv i = false ∧ c.tgt.getD i 0 = (y : Int) then w (c.src.getD i 0).toNat else 0) c.src.length = w y := by
    have hm : c.mv (c.idn.getD y 0).toNat = false := Cat.mv_F (by rw [i2.1, Int.toNat_natCast, Int.toNat_of_nonneg i1.1])
    rw [sumN_one (a := (c.idn.getD y 0).toNat) (by omega), if_pos ⟨hm, i2.2⟩, i2.1, Int.toNat_natCast]
    intro i hi hne
    refine if_neg fun q => hne ?_
    have h1 := Cat.mv_iff.1 q.1
    have s1 := hS.src i hi
    have h2 := hS.ids (c.src.getD i 0).toNat (by omega)
    rw [h1, Int.toNat_natCast, q.2, Int.toNat_of_nonneg s1.1] at h2
    rw [← h2.2, Int.toNat_natCast] at h1
    rw [h1]; rfl
  unfold Cat.wkp
  rw [← e, ← sumN_add]
  refine sumN_congr fun i _ => ?_
  unfold Cat.wkt
  by_cases et : c.tgt.getD i 0 = (y : Int)
  · rw [if_pos ⟨rfl, et⟩]
    cases hm : c.mv i
    · rw [if_neg fun q => Bool.false_ne_true q.1, if_pos ⟨rfl, et⟩]; omega
    · rw [if_pos ⟨rfl, et⟩, if_neg fun q => Bool.false_ne_true q.1.symm]; omega
  · rw [if_neg fun q => et q.2, if_neg fun q => et q.2, if_neg fun q => et q.2]; rfl
def Cat.Nil (c : Cat) (k : Nat) : Prop := ∀ y : Nat, (y : Int) < c.obj → c.wk c.mv k y = 0
theorem Cat.nil_of {c : Cat} {k : Nat} (h : c.nc c.mv k ≤ 0) : c.Nil k := fun y hy => sumN_each (fun i _ => c.wk_nn c.mv k i) h y (by omega)
theorem Cat.Nil.nc {c : Cat} {k : Nat} (h : c.Nil k) : c.nc c.mv k = 0 := sumN_zero fun i hi => h i (by omega)
theorem Cat.Nil.succ {c : Cat} (hS : c.Shape) {k : Nat} (h : c.Nil k) : c.Nil (k + 1) := fun y _ => sumN_zero fun i hi => by
  have s1 := hS.src i hi
  unfold Cat.wkt
  split
  · exact h _ (by omega)
  · rfl
theorem Cat.Nil.ge {c : Cat} (hS : c.Shape) {k : Nat} (h : c.Nil k) : ∀ j, k ≤ j → c.Nil j
  | 0, hj => by obtain rfl : k = 0 := by omega
                exact h
  | j + 1, hj => by
    by_cases e : k = j + 1
    · subst e; exact h
    · exact (Cat.Nil.ge hS h j (by omega)).succ hS
theorem Cat.Nil.cow {c : Cat} (hS : c.Shape) {k : Nat} (h : c.Nil k) {y : Nat} (hy : (y : Int) < c.obj) : c.wkp c.any (c.uw k) c.src.length y = 1 := by
  rw [Cat.wkp_any hS _ hy, c.uw_step y k]
  have h1 : c.uw (k + 1) y = c.uw k y + sgn k * c.wk c.mv k y := rfl
  rw [h y hy, Int.mul_zero] at h1
  omega
theorem Cat.Nil.chi {c : Cat} (hS : c.Shape) {k : Nat} (h : c.Nil k) : ∀ j, c.chi (k + j) = c.chi k
  | 0 => rfl
  | j + 1 => by
    show c.chi (k + j) + sgn (k + j) * c.nc c.mv (k + j) = _
    rw [(Cat.Nil.ge hS h (k + j) (by omega)).nc, Cat.Nil.chi hS h j, Int.mul_zero]; omega
theorem Cat.chi_op {c : Cat} (hS : c.Shape) (k : Nat) : c.op.chi k = c.chi k := sumN_congr fun i _ => by rw [Cat.nc_mv_op hS]
theorem Cat.Nil.op {c : Cat} (hS : c.Shape) {k : Nat} (h : c.Nil k) : c.op.Nil k := Cat.nil_of (by rw [Cat.nc_mv_op hS, h.nc]; exact Int.le_refl _)
theorem Cat.Nil.sum {c : Cat} (hS : c.Shape) {k : Nat} (h : c.Nil k) {r : Nat → Int} (hr : ∀ y : Nat, (y : Int) < c.obj → c.op.wkp c.any r c.src.length y = 1) : sumN r c.obj.toNat = c.chi k := by
  have tl := hS.tl
  have h1 := Cat.pw_wk hS c.any (c.uw k) r
  have h2 := Cat.pw_wk hS.op c.any r (c.uw k)
  rw [Cat.pw_op hS] at h2
  have h3 : c.op.src.length = c.src.length := tl
  rw [h3] at h2
  have h4 : sumN (fun y => c.wkp c.any (c.uw k) c.src.length y * r y) c.obj.toNat = sumN r c.obj.toNat := sumN_congr fun y hy => by rw [h.cow hS (by omega), Int.one_mul]
  have h5 : sumN (fun y => c.op.wkp c.any r c.src.length y * c.uw k y) c.op.obj.toNat = c.chi k := by
    rw [c.chi_uw]
    exact sumN_congr fun y hy => by
      rw [hr y (by show (y : Int) < c.op.obj; omega), Int.one_mul]
  rw [← h4, h1, ← h2, h5]
end Go.GL
namespace Go.GL
open Go.RowKit
def Cat.tab (ob : Int) (src tgt idn : List Int) (X : Nat → Nat → Int) : Cat := ⟨ob, src, tgt, idn, tabL src tgt X src.length⟩
theorem Cat.tab_get {ob : Int} {src tgt idn : List Int} {X : Nat → Nat → Int} {f g : Nat} (hf : f < src.length) (hg : g < src.length) : ((Cat.tab ob src tgt idn X).comp.getD f []).getD g 0 = tabC src tgt X f g := by
  show ((tabL src tgt X src.length).getD f []).getD g 0 = _
  unfold tabL
  rw [rowsOf_get hf]
  unfold tabR
  simp [List.getD_eq_getElem?_getD, hg]
theorem Cat.tab_is {ob : Int} {src tgt idn : List Int} {X : Nat → Nat → Int} (Y : Nat → Nat → Nat) (h1 : 0 ≤ ob ∧ ob ≤ 8) (h2 : src.length ≤ 40) (h3 : tgt.length = src.length)
    (h4 : ∀ i, i < src.length → 0 ≤ src.getD i 0 ∧ src.getD i 0 < ob) (h5 : ∀ i, i < src.length → 0 ≤ tgt.getD i 0 ∧ tgt.getD i 0 < ob) (h6 : (idn.length : Int) = ob)
    (h7 : ∀ i, i < idn.length → 0 ≤ idn.getD i 0 ∧ idn.getD i 0 < src.length) (h8 : ∀ x, x < idn.length → src.getD (idn.getD x 0).toNat 0 = x ∧ tgt.getD (idn.getD x 0).toNat 0 = x)
    (hX : ∀ f g, f < src.length → g < src.length → tgt.getD f 0 = src.getD g 0 → X f g = (Y f g : Int) ∧ Y f g < src.length ∧ src.getD (Y f g) 0 = src.getD f 0 ∧ tgt.getD (Y f g) 0 = tgt.getD g 0)
    (hid : ∀ f, f < src.length → Y (idn.getD (src.getD f 0).toNat 0).toNat f = f ∧ Y f (idn.getD (tgt.getD f 0).toNat 0).toNat = f)
    (has : ∀ f g h, f < src.length → g < src.length → h < src.length → tgt.getD f 0 = src.getD g 0 → tgt.getD g 0 = src.getD h 0 → Y (Y f g) h = Y f (Y g h)) : (Cat.tab ob src tgt idn X).Is := by
  have hth : ∀ f g : Nat, f < src.length → g < src.length → tgt.getD f 0 = src.getD g 0 → (Cat.tab ob src tgt idn X).th f g = (Y f g : Int) := fun f g hf hg e => by
    rw [Cat.th_nat, Cat.tab_get hf hg, tabC_T e, (hX f g hf hg e).1]
  refine ⟨⟨h1, h2, h3, h4, fun i hi => h5 i (by have hi' : i < tgt.length := hi; omega), h6, h7, by show (tabL src tgt X src.length).length = _; unfold tabL; rw [length_rowsOf]; rfl, h8, fun f hf => ?_, fun f hf g hg => ?_⟩, fun f hf => ?_, fun f hf g hg e h hh e' => ?_⟩
  · have hf' : f < src.length := by
      have h9 : f < (tabL src tgt X src.length).length := hf
      unfold tabL at h9
      rwa [length_rowsOf] at h9
    show ((tabL src tgt X src.length).getD f []).length = src.length
    unfold tabL
    rw [rowsOf_get hf', length_tabR]
  · have hf' : f < src.length := by
      have h9 : f < (tabL src tgt X src.length).length := hf
      unfold tabL at h9
      rwa [length_rowsOf] at h9
    have hg' : g < src.length := hg
    by_cases e : tgt.getD f 0 = src.getD g 0
    · refine (Cat.Cell.pos (c := Cat.tab ob src tgt idn X) e).2 ?_
      obtain ⟨x1, x2, x3, x4⟩ := hX f g hf' hg' e
      rw [Cat.tab_get hf' hg', tabC_T e, x1, Int.toNat_natCast]
      exact ⟨by omega, by show (Y f g : Int) < src.length; omega, x3, x4⟩
    · refine (Cat.Cell.neg (c := Cat.tab ob src tgt idn X) e).2 ?_
      rw [Cat.tab_get hf' hg', tabC_F e]
  · have hf' : f < src.length := hf
    have s1 := h4 f hf'
    have t1 := h5 f hf'
    have i1 := h7 (src.getD f 0).toNat (by omega)
    have i2 := h7 (tgt.getD f 0).toNat (by omega)
    have j1 := (h8 (src.getD f 0).toNat (by omega)).2
    have j2 := (h8 (tgt.getD f 0).toNat (by omega)).1
    rw [Int.toNat_of_nonneg s1.1] at j1
    rw [Int.toNat_of_nonneg t1.1] at j2
    have k1 := hth (idn.getD (src.getD f 0).toNat 0).toNat f (by omega) hf' j1
    have k2 := hth f (idn.getD (tgt.getD f 0).toNat 0).toNat hf' (by omega) j2.symm
    rw [Int.toNat_of_nonneg i1.1, (hid f hf').1] at k1
    rw [Int.toNat_of_nonneg i2.1, (hid f hf').2] at k2
    exact ⟨k1, k2⟩
  · have hf' : f < src.length := hf
    have hg' : g < src.length := hg
    have hh' : h < src.length := hh
    obtain ⟨x1, x2, x3, x4⟩ := hX f g hf' hg' e
    obtain ⟨y1, y2, y3, y4⟩ := hX g h hg' hh' e'
    rw [hth f g hf' hg' e, hth g h hg' hh' e', hth (Y f g) h x2 hh' (x4.trans e'), hth f (Y g h) hf' y2 (e.trans y3.symm), has f g h hf' hg' hh' e e']

def Cat.plX (c d : Cat) (i j : Nat) : Int := if i < c.src.length then (c.comp.getD i []).getD j 0 else c.src.length + (d.comp.getD (i - c.src.length) []).getD (j - c.src.length) 0
def Cat.plY (c d : Cat) (i j : Nat) : Nat := if i < c.src.length then c.tn i j else c.src.length + d.tn (i - c.src.length) (j - c.src.length)
def Cat.pls (c d : Cat) : Cat := Cat.tab (c.obj + d.obj) (c.src ++ d.src.map (c.obj + ·)) (c.tgt ++ d.tgt.map (c.obj + ·)) (c.idn ++ d.idn.map ((c.src.length : Int) + ·)) (c.plX d)
theorem getD_app_l {xs ys : List Int} {i : Nat} (h : i < xs.length) : (xs ++ ys).getD i 0 = xs.getD i 0 := by simp [List.getD_eq_getElem?_getD, List.getElem?_append_left h]
theorem getD_app_r {xs ys : List Int} {i : Nat} {k : Int} (h : i < ys.length) : (xs ++ ys.map (k + ·)).getD (xs.length + i) 0 = k + ys.getD i 0 := by simp [List.getD_eq_getElem?_getD, h]
theorem Cat.pls_len {c d : Cat} : (c.pls d).src.length = c.src.length + d.src.length := by show (c.src ++ d.src.map (c.obj + ·)).length = _; simp
theorem Cat.pls_S1 {c d : Cat} {i : Nat} (h : i < c.src.length) : (c.pls d).src.getD i 0 = c.src.getD i 0 := getD_app_l h
theorem Cat.pls_S2 {c d : Cat} {i : Nat} (h : i < d.src.length) : (c.pls d).src.getD (c.src.length + i) 0 = c.obj + d.src.getD i 0 := getD_app_r h
theorem Cat.pls_T1 {c d : Cat} {i : Nat} (hl : c.tgt.length = c.src.length) (h : i < c.src.length) : (c.pls d).tgt.getD i 0 = c.tgt.getD i 0 := getD_app_l (by omega)
theorem Cat.pls_T2 {c d : Cat} {i : Nat} (hl : c.tgt.length = c.src.length) (hl' : d.tgt.length = d.src.length) (h : i < d.src.length) : (c.pls d).tgt.getD (c.src.length + i) 0 = c.obj + d.tgt.getD i 0 := by rw [← hl]; exact getD_app_r (by omega)
theorem Cat.pls_I1 {c d : Cat} {x : Nat} (h : x < c.idn.length) : (c.pls d).idn.getD x 0 = c.idn.getD x 0 := getD_app_l h
theorem Cat.pls_I2 {c d : Cat} {x : Nat} (h : x < d.idn.length) : (c.pls d).idn.getD (c.idn.length + x) 0 = c.src.length + d.idn.getD x 0 := getD_app_r h
theorem two_parts {P : Nat → Prop} {m n : Nat} (h1 : ∀ i, i < m → P i) (h2 : ∀ i, i < n → P (m + i)) : ∀ i, i < m + n → P i := fun i hi => by
  by_cases e : i < m
  · exact h1 i e
  · have := h2 (i - m) (by omega)
    rwa [show m + (i - m) = i by omega] at this
theorem Cat.plY_1 {c d : Cat} {i j : Nat} (h : i < c.src.length) : c.plY d i j = c.tn i j := if_pos h
theorem Cat.plY_2 {c d : Cat} {i j : Nat} : c.plY d (c.src.length + i) (c.src.length + j) = c.src.length + d.tn i j := by
  unfold Cat.plY; rw [if_neg (by omega), Nat.add_sub_cancel_left, Nat.add_sub_cancel_left]
theorem Cat.plX_1 {c d : Cat} {i j : Nat} (h : i < c.src.length) : c.plX d i j = (c.comp.getD i []).getD j 0 := if_pos h
theorem Cat.plX_2 {c d : Cat} {i j : Nat} : c.plX d (c.src.length + i) (c.src.length + j) = c.src.length + (d.comp.getD i []).getD j 0 := by
  unfold Cat.plX; rw [if_neg (by omega), Nat.add_sub_cancel_left, Nat.add_sub_cancel_left]
theorem Cat.pls_is {c d : Cat} (hc : c.Is) (hd : d.Is) (ho : c.obj + d.obj ≤ 8) (hn : c.src.length + d.src.length ≤ 40) : (c.pls d).Is := by
  obtain ⟨sc, lc⟩ := hc
  obtain ⟨sd, ld⟩ := hd
  have tc := sc.tl
  have td := sd.tl
  have ic := sc.il
  have id := sd.il
  have oc := sc.obj
  have od := sd.obj
  have L : (c.src ++ d.src.map (c.obj + ·)).length = c.src.length + d.src.length := by simp
  have LI : (c.idn ++ d.idn.map ((c.src.length : Int) + ·)).length = c.idn.length + d.idn.length := by simp
  have S1 : ∀ i, i < c.src.length → (c.src ++ d.src.map (c.obj + ·)).getD i 0 = c.src.getD i 0 := fun i h => Cat.pls_S1 (d := d) h
  have S2 : ∀ i, i < d.src.length → (c.src ++ d.src.map (c.obj + ·)).getD (c.src.length + i) 0 = c.obj + d.src.getD i 0 := fun i h => Cat.pls_S2 h
  have T1 : ∀ i, i < c.src.length → (c.tgt ++ d.tgt.map (c.obj + ·)).getD i 0 = c.tgt.getD i 0 := fun i h => Cat.pls_T1 (d := d) tc h
  have T2 : ∀ i, i < d.src.length → (c.tgt ++ d.tgt.map (c.obj + ·)).getD (c.src.length + i) 0 = c.obj + d.tgt.getD i 0 := fun i h => Cat.pls_T2 tc td h
  have I1 : ∀ i, i < c.idn.length → (c.idn ++ d.idn.map ((c.src.length : Int) + ·)).getD i 0 = c.idn.getD i 0 := fun i h => Cat.pls_I1 (d := d) h
  have I2 : ∀ i, i < d.idn.length → (c.idn ++ d.idn.map ((c.src.length : Int) + ·)).getD (c.idn.length + i) 0 = c.src.length + d.idn.getD i 0 := fun i h => Cat.pls_I2 h
  have cut : ∀ i j : Nat, i < c.src.length → j < d.src.length → ∀ x y : Int, x = c.tgt.getD i 0 ∨ x = c.src.getD i 0 → y = c.obj + d.src.getD j 0 ∨ y = c.obj + d.tgt.getD j 0 → x ≠ y := fun i j hi hj x y hx hy e => by
    have a1 := sc.src i hi
    have a2 := sc.tgt i (by omega)
    have a3 := sd.src j hj
    have a4 := sd.tgt j (by omega)
    omega
  refine Cat.tab_is (c.plY d) ⟨by omega, ho⟩ (by rw [L]; exact hn) (by simp; omega) ?_ ?_ (by rw [LI]; omega) ?_ ?_ (fun f g hf hg => ?_) ?_ (fun f g h hf hg hh => ?_)
  · rw [L]
    refine two_parts (fun i hi => ?_) fun i hi => ?_
    · rw [S1 i hi]; have := sc.src i hi; omega
    · rw [S2 i hi]; have := sd.src i hi; omega
  · rw [L]
    refine two_parts (fun i hi => ?_) fun i hi => ?_
    · rw [T1 i hi]; have := sc.tgt i (by omega); omega
    · rw [T2 i hi]; have := sd.tgt i (by omega); omega
  · rw [LI]
    refine two_parts (fun i hi => ?_) fun i hi => ?_
    · rw [I1 i hi, L]; have := sc.idn i hi; omega
    · rw [I2 i hi, L]; have := sd.idn i hi; omega
  · rw [LI]
    refine two_parts (fun i hi => ?_) fun i hi => ?_
    · have h1 := sc.idn i hi
      rw [I1 i hi, S1 _ (by omega), T1 _ (by omega)]
      exact sc.ids i hi
    · have h1 := sd.idn i hi
      have h2 := sd.ids i hi
      rw [I2 i hi, show ((c.src.length : Int) + d.idn.getD i 0).toNat = c.src.length + (d.idn.getD i 0).toNat by omega, S2 _ (by omega), T2 _ (by omega), h2.1, h2.2]
      omega
  · rw [L] at hf hg ⊢
    revert f
    refine two_parts (fun f hf => ?_) fun f hf => ?_
    · revert g
      refine two_parts (fun g hg => ?_) fun g hg => ?_
      · rw [T1 f hf, S1 g hg, T1 g hg, S1 f hf]
        intro e
        obtain ⟨p1, p2, p3, p4⟩ := sc.tn hf hg e
        rw [Cat.plX_1 hf, Cat.plY_1 hf, S1 _ p1, T1 _ p1]
        exact ⟨p4, by omega, p2, p3⟩
      · rw [T1 f hf, S2 g hg]
        intro e
        exact absurd e (cut f g hf hg _ _ (.inl rfl) (.inl rfl))
    · revert g
      refine two_parts (fun g hg => ?_) fun g hg => ?_
      · rw [T2 f hf, S1 g hg]
        intro e
        exact absurd e.symm (cut g f hg hf _ _ (.inr rfl) (.inr rfl))
      · rw [T2 f hf, S2 g hg, T2 g hg, S2 f hf]
        intro e
        obtain ⟨p1, p2, p3, p4⟩ := sd.tn hf hg (by omega)
        rw [Cat.plX_2, Cat.plY_2, S2 _ p1, T2 _ p1, p2, p3, p4]
        exact ⟨by omega, by omega, rfl, rfl⟩
  · rw [L]
    refine two_parts (fun i hi => ?_) fun i hi => ?_
    · have s1 := sc.src i hi
      have t1 := sc.tgt i (by omega)
      have i1 := sc.idn_lt s1.1 s1.2
      have i2 := sc.idn_lt t1.1 t1.2
      have q := lc.ids i hi
      rw [S1 i hi, T1 i hi, I1 _ (by omega), I1 _ (by omega), Cat.plY_1 (by omega), Cat.plY_1 hi]
      unfold Cat.tn
      have q1 := q.1
      have q2 := q.2
      simp only [Cat.th, Int.toNat_natCast] at q1 q2
      rw [q1, q2]
      exact ⟨rfl, rfl⟩
    · have s1 := sd.src i hi
      have t1 := sd.tgt i (by omega)
      have i1 := sd.idn_lt s1.1 s1.2
      have i2 := sd.idn_lt t1.1 t1.2
      have q := ld.ids i hi
      rw [S2 i hi, T2 i hi, show (c.obj + d.src.getD i 0).toNat = c.idn.length + (d.src.getD i 0).toNat by omega, show (c.obj + d.tgt.getD i 0).toNat = c.idn.length + (d.tgt.getD i 0).toNat by omega, I2 _ (by omega), I2 _ (by omega),
        show ((c.src.length : Int) + d.idn.getD (d.src.getD i 0).toNat 0).toNat = c.src.length + (d.idn.getD (d.src.getD i 0).toNat 0).toNat by omega,
        show ((c.src.length : Int) + d.idn.getD (d.tgt.getD i 0).toNat 0).toNat = c.src.length + (d.idn.getD (d.tgt.getD i 0).toNat 0).toNat by omega, Cat.plY_2, Cat.plY_2]
      unfold Cat.tn
      have q1 := q.1
      have q2 := q.2
      simp only [Cat.th, Int.toNat_natCast] at q1 q2
      rw [q1, q2]
      exact ⟨rfl, rfl⟩
  · rw [L] at hf hg hh
    revert f
    refine two_parts (fun f hf => ?_) fun f hf => ?_
    · revert g
      refine two_parts (fun g hg => ?_) fun g hg => ?_
      · revert h
        refine two_parts (fun h hh => ?_) fun h hh => ?_
        · rw [T1 f hf, S1 g hg, T1 g hg, S1 h hh]
          intro e e'
          obtain ⟨p1, p2, p3, p4⟩ := sc.tn hf hg e
          obtain ⟨q1, q2, q3, q4⟩ := sc.tn hg hh e'
          rw [Cat.plY_1 hf, Cat.plY_1 hg, Cat.plY_1 hf, Cat.plY_1 p1]
          have q := lc.as f hf g hg e h hh e'
          simp only [Cat.th, Int.toNat_natCast] at q
          unfold Cat.tn
          unfold Cat.tn at p4 q4
          rw [p4, q4] at q
          simp only [Int.toNat_natCast] at q
          rw [q]
        · rw [T1 g hg, S2 h hh]
          intro _ e
          exact absurd e (cut g h hg hh _ _ (.inl rfl) (.inl rfl))
      · rw [T1 f hf, S2 g hg]
        intro e
        exact absurd e (cut f g hf hg _ _ (.inl rfl) (.inl rfl))
    · revert g
      refine two_parts (fun g hg => ?_) fun g hg => ?_
      · rw [T2 f hf, S1 g hg]
        intro e
        exact absurd e.symm (cut g f hg hf _ _ (.inr rfl) (.inr rfl))
      · revert h
        refine two_parts (fun h hh => ?_) fun h hh => ?_
        · rw [T2 g hg, S1 h hh]
          intro _ e
          exact absurd e.symm (cut h g hh hg _ _ (.inr rfl) (.inr rfl))
        · rw [T2 f hf, S2 g hg, T2 g hg, S2 h hh]
          intro e e'
          obtain ⟨p1, p2, p3, p4⟩ := sd.tn hf hg (by omega)
          obtain ⟨q1, q2, q3, q4⟩ := sd.tn hg hh (by omega)
          rw [Cat.plY_2, Cat.plY_2, Cat.plY_2, Cat.plY_2]
          have q := ld.as f hf g hg (by omega) h hh (by omega)
          simp only [Cat.th, Int.toNat_natCast] at q
          unfold Cat.tn
          unfold Cat.tn at p4 q4
          rw [p4, q4] at q
          simp only [Int.toNat_natCast] at q
          rw [q]
end Go.GL
