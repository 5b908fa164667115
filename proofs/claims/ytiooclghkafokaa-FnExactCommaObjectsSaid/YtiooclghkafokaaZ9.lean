/- Comma categories: the specification's objects and arrows. No condition but those of each statement. -/
import Derived.Test.YtiooclghkafokaaZ8
namespace Go.Proofs.Ytiooclghkafokaa
open Go Go.GL Go.RowKit Go.Proofs
theorem l09Col_c {a : Option Addr} {xss : List (List Int)} {r : Nat → Option Addr} {k : Nat} {H : GHeap} (h : Intss H a xss r := by assumption) (hk : ∀ i, i < xss.length → k < (xss.getD i []).length) (hl : xss.length ≤ 1048576 := by omega) (hl2 : ∀ i, i < xss.length → (xss.getD i []).length ≤ 1048576) :
    GCalls Try.prog 185 [.slice a xss.length xss.length, .int .i64 (k : Int)] H (NewInts 2 H (colI xss k)) := by
  refine GCalls.body (N := 25) (rs := [.tmp 4]) Try.func185 rfl rfl rfl rfl (fun Qx v hend => ?_)
  refine .fg [0, 1] rfl ?_
  have e := GHeap.Le.refl H
  have b := h
  refine .seq (fun K1 z => .region (.mv rfl (.nil (z _ _ (.seq (fun K2 a4 => .region ?_))))))
  refine .R rfl (.litA rfl sl_24_A ze_2_E rfl rfl rfl rfl) ?_
  rintro _ H7 ⟨g7, rfl, w, ge7, o⟩
  have nx_H7 := w.1
  replace e := e.trans w
  have lt_at7 := GHeap.ltg o
  replace h := b.mono e
  replace o : GHeap.get H7 g7 = some (.row (ints []) 2 true) := o
  refine .mv rfl (.nil (a4 _ _ (.seq (fun K3 a2 => .seq (fun K4 a1 => .region (.mv rfl (.nil (a1 _ _ ?_))))))))
  refine .block ?_
  refine .loopR (σ := Nat × Nat × Nat) [(0, some _), (1, some _)] (fun (i, f, l) => [(6, some (.int .i64 (i : Int))), (5, some (.slice (some ⟨f, 0, none⟩) l l))]) (fun (i, f, l) H' => St [g7] H7 H' ∧ H'.get f = some (.row (ints (colI (xss.take i) k)) 2 true) ∧ (f = g7 ∨ H7.next ≤ f) ∧ l = (colI (xss.take i) k).length ∧ i ≤ xss.length) (fun (i, f, l) => xss.length - i) ((0, _, _)) ⟨rfl, rfl, trivial⟩ ⟨rfl, rfl, trivial⟩ ?_ ?_
  ·
   refine ⟨.refl _ _, by first | assumption | exact o | simpa using o, .inl rfl, by first | rfl | assumption | simp | omega, ?_⟩
   omega
  rintro ⟨i, f, l⟩ HL1 ⟨d, c, pl_L5, m, hI⟩ KL1 u
  refine .forget (fr' := [(6, some (.int .i64 (i : Int))), (5, some (.slice (some ⟨f, 0, none⟩) l l)), (0, some _), (1, some _)]) ⟨rfl, rfl, rfl, rfl, trivial⟩ ?_
  have ge_L5 : H.next ≤ f := by omega
  have nx_HL1 := d.nx
  replace e := e.st d (fun k hk => ⟨by omega, trivial⟩)
  have lt_at_L5 := GHeap.ltg c
  replace h := b.mono e
  have hfl : (colI (xss.take i) k).length = i := by rw [length_colI, List.length_take]; omega
  refine .seq (fun K5 a0 => .seq (fun K6 x => .region (.mv rfl (.mv rfl (.q rfl (.len sl_25_B rfl) (.q rfl (.cmp rfl rfl rfl) (.nil (x _ _ ?_))))))))
  refine .cond rfl (fun p => ?_) (fun p => ?_)
  ·
   simp only [sps] at p
   have q1 := hk i (by omega)
   have q2 := hl2 i (by omega)
   have u1 := h.2 i (by omega)
   refine .skip ?_
   refine a0 _ _ (.seq (fun K7 a3 => ?_))
   refine .block ?_
   refine .region (.mv rfl (.mv rfl (.mv rfl ?_)))
   refine .q rfl (.idxN sl_25_B (Intss.sl (by assumption)) rfl rfl (by omega)) ?_
   refine .q rfl (.loadR on_24_B (by assumption) rfl (by omega)) ?_
   refine .mv rfl ?_
   refine .q rfl (.idxN sl_24_A (by assumption) rfl rfl (by omega)) ?_
   refine .q rfl (.loadI on_2_A (by assumption) rfl (by omega)) ?_
   refine .R rfl (.litA rfl sl_24_A ze_2_E rfl rfl rfl rfl) ?_
   rintro _ H22 ⟨g22, rfl, j, ge22, n⟩
   have nx_H22 := j.1
   replace e := e.trans j
   replace d := d.le j
   replace c := j.2 _ _ c
   have lt_at22 := GHeap.ltg n
   replace h := b.mono e
   clear u1
   have u1 := h.2 i (by omega)
   refine .R rfl (.appendI rfl sl_24_A ze_2_E rfl by_2_E sl_24_A rfl rfl (by assumption) (by assumption) (by first | omega | (simp <;> omega)) (by omega) (by omega)) ?_
   rintro _ H23 ⟨g23, rfl, g, ge23, t⟩
   have nx_H23 := g.nx
   replace e := e.st g (fun k hk => ⟨by omega, trivial⟩)
   replace d := d.sA g
   replace n := g.s n
   have lt_at23 := GHeap.ltg t
   replace h := b.mono e
   clear u1
   have u1 := h.2 i (by omega)
   refine .mv rfl (.nil (a3 _ _ (.region (.mv rfl ?_))))
   refine .q rfl (.add rfl rfl rfl (by omega) (by omega)) ?_
   refine .mv rfl (.nil ?_)
   refine u ((i + 1, _, _)) _ _ ?_ ?_ ⟨rfl, rfl, rfl, rfl, trivial⟩
   ·
    refine ⟨d, by first | assumption | (rw [colI_take (by omega)]; assumption), by omega, by first | omega | (simp only [List.length_append, List.length_cons, List.length_nil] <;> omega) | (rw [colI_take (by omega)] <;> (first | omega | (simp only [List.length_append, List.length_cons, List.length_nil] <;> omega))), ?_⟩
    omega
   (dsimp only; omega)
  try simp only [sps] at p
  refine .exit ?_
  refine a2 _ _ (.seq (fun K8 y => .region (.mv rfl (.mv rfl (.nil (y _ _ ?_))))))
  refine .ret ?_
  refine v _ _ ?_
  refine ⟨_, rfl, ?_⟩
  obtain rfl : i = xss.length := by omega
  rw [List.take_length] at c m
  exact ⟨e, _, by rw [m], c, by omega⟩
theorem l06Two_c {f k : Fun} {p q : FunP} {H : GHeap} (hin : f.In H p := by assumption) (hin1 : k.In H q := by assumption) (hs : f.Small := by assumption) (hs1 : k.Small := by assumption) :
    GCalls Try.prog 134 [.agg (f.cells p).toArray, .agg (k.cells q).toArray] H (Ret (.int .i64 (bif B (f.Is ∧ k.Is) then 0 else 1)) H) := by
  refine GCalls.ret rfl ?_
  refine GCalls.body (N := 13) (rs := [.tmp 4]) Try.func134 rfl rfl rfl rfl (fun Qx e hend => ?_)
  refine .fg [0, 1] rfl ?_
  have c := GHeap.Le.refl H
  have b := hin
  have a := hin1
  refine .seq (fun K1 a6 => .region ?_)
  refine .R rfl (.boxR rfl sz_33_E rfl) ?_
  rintro _ H2 ⟨g2, rfl, y, ge2, g⟩
  have nx_H2 := y.1
  replace c := c.trans y
  have lt_at2 := GHeap.ltg g
  replace hin := b.mono c
  replace hin1 := a.mono c
  have d : Fun.At _ g2 0 f p := ⟨Mem.of_get g, hin⟩
  obtain ⟨h, i, s, j, a4, x⟩ := d.get
  have w : MemN _ _ _ _ _ := ⟨rfl, d.1⟩
  have a2 := d.2
  have o : MemN _ _ _ _ _ := ⟨rfl, h.1⟩
  have l := h.2
  have r : MemN _ _ _ _ _ := ⟨rfl, i.1⟩
  have m := i.2
  refine .R rfl (.boxR rfl sz_33_E rfl) ?_
  rintro _ H3 ⟨g3, rfl, v, ge3, t⟩
  have nx_H3 := v.1
  replace c := c.trans v
  replace g := v.2 _ _ g
  have lt_at3 := GHeap.ltg t
  replace hin := b.mono c
  replace hin1 := a.mono c
  clear d h i s j a4 x w a2 o l r m
  have d : Fun.At _ g2 0 f p := ⟨Mem.of_get g, hin⟩
  obtain ⟨h, i, s, j, a4, x⟩ := d.get
  have w : MemN _ _ _ _ _ := ⟨rfl, d.1⟩
  have a2 := d.2
  have o : MemN _ _ _ _ _ := ⟨rfl, h.1⟩
  have l := h.2
  have r : MemN _ _ _ _ _ := ⟨rfl, i.1⟩
  have m := i.2
  have u : Fun.At _ g3 0 k q := ⟨Mem.of_get t, hin1⟩
  obtain ⟨a0, a3, c103, c113, j13, j23⟩ := u.get
  have hm3 : MemN _ _ _ _ _ := ⟨rfl, u.1⟩
  have hi3 := u.2
  have hms3 : MemN _ _ _ _ _ := ⟨rfl, a0.1⟩
  have his3 := a0.2
  have hmt3 : MemN _ _ _ _ _ := ⟨rfl, a3.1⟩
  have hit3 := a3.2
  refine .mv rfl (.nil (a6 _ _ (.seq (fun K2 a9 => .seq (fun K3 a1 => .region ?_)))))
  refine .q rfl (.loadM ag_33_E rfl ⟨rfl, Mem.of_get g⟩) ?_
  refine .callQ rfl rfl rfl rfl @Try.call59 rfl (l06Is_c) ?_
  refine .q rfl (.not rfl) (.mv rfl ?_)
  refine .split (fun h8 => ?_) (fun h8 => ?_)
  ·
   simp only [sps] at h8
   refine .z rfl (.z rfl (.z rfl (.q rfl (.pickT rfl rfl) (.nil (a1 _ _ ?_)))))
   refine .condT rfl ?_
   refine .seq (fun K4 a8 => .region (.mv rfl (.nil (a8 _ _ ?_))))
   refine .ret ?_
   refine e _ _ ?_
   refine ⟨_, rfl, ?_⟩
   exact ⟨by rw [B_false fun hh => h8 hh.1]; rfl, c⟩
  simp only [sps] at h8
  refine .qg rfl (.loadM ag_33_E rfl ⟨rfl, Mem.of_get t⟩) ?_
  refine .callQg rfl rfl rfl rfl rfl rfl @Try.call59 rfl (l06Is_c) ?_
  refine .qg rfl (.not rfl) (.q rfl (.pickF rfl rfl) (.nil (a1 _ _ ?_)))
  refine .cond rfl (fun n => ?_) (fun n => ?_)
  ·
   simp only [sps] at n
   refine .seq (fun K5 a7 => .region (.mv rfl (.nil (a7 _ _ ?_))))
   refine .ret ?_
   refine e _ _ ?_
   refine ⟨_, rfl, ?_⟩
   exact ⟨by rw [B_false fun hh => n hh.2]; rfl, c⟩
  simp only [sps] at n
  refine .skip ?_
  refine a9 _ _ (.seq (fun K6 a5 => .region (.mv rfl (.nil (a5 _ _ ?_)))))
  refine .ret ?_
  refine e _ _ ?_
  refine ⟨_, rfl, ?_⟩
  exact ⟨by rw [B_true ⟨h8, n⟩]; rfl, c⟩
set_option maxHeartbeats 4000000 in
theorem l09Objects_c {f k : Fun} {p q : FunP} {H : GHeap} (hin : f.In H p := by assumption) (hin1 : k.In H q := by assumption) (ho : KmOk f k) :
    GCalls Try.prog 135 [.agg (f.cells p).toArray, .agg (k.cells q).toArray] H (NewIntssR H (kmOb f k)) := by
  have hN := ho.n
  have q1 := ho.p.2.2.ol
  have q2 := ho.q.2.2.ol
  have hS := ho.p.2.1.1
  obtain ⟨n1, n2, n3, n4, n5⟩ := id hN
  refine GCalls.body (N := 55) (rs := [.tmp 4]) Try.func135 rfl rfl rfl rfl (fun Qx e8 hend => ?_)
  refine .fg [0, 1] rfl ?_
  have j := GHeap.Le.refl H
  have e := hin
  have d := hin1
  refine .seq (fun K1 g5 => .region ?_)
  refine .R rfl (.boxR rfl sz_33_E rfl) ?_
  rintro _ H2 ⟨g2, rfl, g0, ge2, b3⟩
  have nx_H2 := g0.1
  replace j := j.trans g0
  have lt_at2 := GHeap.ltg b3
  replace hin := e.mono j
  replace hin1 := d.mono j
  have g : Fun.At _ g2 0 f p := ⟨Mem.of_get b3, hin⟩
  obtain ⟨m, l, u, o, c5, c3⟩ := g.get
  have c2 : MemN _ _ _ _ _ := ⟨rfl, g.1⟩
  have c4 := g.2
  have w : MemN _ _ _ _ _ := ⟨rfl, m.1⟩
  have v := m.2
  have y : MemN _ _ _ _ _ := ⟨rfl, l.1⟩
  have r := l.2
  refine .R rfl (.boxR rfl sz_33_E rfl) ?_
  rintro _ H3 ⟨g3, rfl, e7, ge3, b6⟩
  have nx_H3 := e7.1
  replace j := j.trans e7
  replace b3 := e7.2 _ _ b3
  have lt_at3 := GHeap.ltg b6
  replace hin := e.mono j
  replace hin1 := d.mono j
  clear g m l u o c5 c3 c2 c4 w v y r
  have g : Fun.At _ g2 0 f p := ⟨Mem.of_get b3, hin⟩
  obtain ⟨m, l, u, o, c5, c3⟩ := g.get
  have c2 : MemN _ _ _ _ _ := ⟨rfl, g.1⟩
  have c4 := g.2
  have w : MemN _ _ _ _ _ := ⟨rfl, m.1⟩
  have v := m.2
  have y : MemN _ _ _ _ _ := ⟨rfl, l.1⟩
  have r := l.2
  have h : Fun.At _ g3 0 k q := ⟨Mem.of_get b6, hin1⟩
  obtain ⟨a2, a3, a5, a6, c8, d0⟩ := h.get
  have c7 : MemN _ _ _ _ _ := ⟨rfl, h.1⟩
  have c9 := h.2
  have b0 : MemN _ _ _ _ _ := ⟨rfl, a2.1⟩
  have a7 := a2.2
  have b1 : MemN _ _ _ _ _ := ⟨rfl, a3.1⟩
  have a4 := a3.2
  refine .mv rfl (.nil (g5 _ _ (.seq (fun K2 g7 => .region ?_))))
  refine .R rfl (.litA rfl sl_25_B ze_24_E rfl rfl rfl rfl) ?_
  rintro _ f8 ⟨g1, rfl, d4, ge10, d8⟩
  have nx_H10 := d4.1
  replace j := j.trans d4
  replace b3 := d4.2 _ _ b3
  replace b6 := d4.2 _ _ b6
  have lt_at10 := GHeap.ltg d8
  replace hin := e.mono j
  replace hin1 := d.mono j
  clear g m l u o c5 c3 c2 c4 w v y r
  have g : Fun.At _ g2 0 f p := ⟨Mem.of_get b3, hin⟩
  obtain ⟨m, l, u, o, c5, c3⟩ := g.get
  have c2 : MemN _ _ _ _ _ := ⟨rfl, g.1⟩
  have c4 := g.2
  have w : MemN _ _ _ _ _ := ⟨rfl, m.1⟩
  have v := m.2
  have y : MemN _ _ _ _ _ := ⟨rfl, l.1⟩
  have r := l.2
  clear h a2 a3 a5 a6 c8 d0 c7 c9 b0 a7 b1 a4
  have h : Fun.At _ g3 0 k q := ⟨Mem.of_get b6, hin1⟩
  obtain ⟨a2, a3, a5, a6, c8, d0⟩ := h.get
  have c7 : MemN _ _ _ _ _ := ⟨rfl, h.1⟩
  have c9 := h.2
  have b0 : MemN _ _ _ _ _ := ⟨rfl, a2.1⟩
  have a7 := a2.2
  have b1 : MemN _ _ _ _ _ := ⟨rfl, a3.1⟩
  have a4 := a3.2
  refine .mv rfl (.nil (g7 _ _ (.seq (fun K3 g9 => .seq (fun K4 g8 => .region (.mv rfl (.nil (g8 _ _ ?_))))))))
  refine .block ?_
  refine .loopR (σ := Nat × (Nat → Option Addr) × Nat × Nat) [(2, some _), (3, some _)] (fun (a, rr, d2, d5) => [(6, some (.int .i64 (a : Int))), (5, some (.slice (some ⟨d2, 0, none⟩) d5 d5))]) (fun (a, rr, d2, d5) H' => St [g1] f8 H' ∧ H'.get d2 = some (.row ((slsL rr (kmO f k a 0 0))) 24 true) ∧ (d2 = g1 ∨ f8.next ≤ d2) ∧ d5 = (slsL rr (kmO f k a 0 0)).length ∧ a ≤ f.ob.length ∧ OwnL H.next H' 2 rr (kmO f k a 0 0)) (fun (a, rr, d2, d5) => f.ob.length - a) ((0, fun _ => none, _, _)) ⟨rfl, rfl, trivial⟩ ⟨rfl, rfl, trivial⟩ ?_ ?_
  ·
   refine ⟨.refl _ _, by first | assumption | exact d8 | simpa using d8, .inl rfl, by first | rfl | assumption | simp | omega, ?_⟩
   exact ⟨by omega, .nil _ _ _ _⟩
  rintro ⟨a, rr, d2, d5⟩ HL1 ⟨a0, d1, pl_L5, d9, hI⟩ KL1 f4
  refine .forget (fr' := [(6, some (.int .i64 (a : Int))), (5, some (.slice (some ⟨d2, 0, none⟩) d5 d5)), (2, some _), (3, some _)]) ⟨rfl, rfl, rfl, rfl, trivial⟩ ?_
  have ge_L5 : H.next ≤ d2 := by omega
  have nx_HL1 := a0.nx
  replace j := j.st a0 (fun k hk => ⟨by omega, trivial⟩)
  replace b3 := a0.s b3
  replace b6 := a0.s b6
  have lt_at_L5 := GHeap.ltg d1
  replace hin := e.mono j
  replace hin1 := d.mono j
  clear g m l u o c5 c3 c2 c4 w v y r
  have g : Fun.At _ g2 0 f p := ⟨Mem.of_get b3, hin⟩
  obtain ⟨m, l, u, o, c5, c3⟩ := g.get
  have c2 : MemN _ _ _ _ _ := ⟨rfl, g.1⟩
  have c4 := g.2
  have w : MemN _ _ _ _ _ := ⟨rfl, m.1⟩
  have v := m.2
  have y : MemN _ _ _ _ _ := ⟨rfl, l.1⟩
  have r := l.2
  clear h a2 a3 a5 a6 c8 d0 c7 c9 b0 a7 b1 a4
  have h : Fun.At _ g3 0 k q := ⟨Mem.of_get b6, hin1⟩
  obtain ⟨a2, a3, a5, a6, c8, d0⟩ := h.get
  have c7 : MemN _ _ _ _ _ := ⟨rfl, h.1⟩
  have c9 := h.2
  have b0 : MemN _ _ _ _ _ := ⟨rfl, a2.1⟩
  have a7 := a2.2
  have b1 : MemN _ _ _ _ _ := ⟨rfl, a3.1⟩
  have a4 := a3.2
  obtain ⟨ha, hR⟩ := hI
  refine .seq (fun K5 h3 => .seq (fun K6 g4 => .region (.mv rfl (.q rfl (.fieldAddr fo_33_0_E rfl) (.q rfl (.fieldAddr fo_27_0_B rfl) ?_)))))
  refine .q rfl (.load on_2_A rfl (by first | assumption | exact Mem.of_get b3 0 _ rfl)) ?_
  refine .q rfl (.cmp rfl rfl rfl) (.nil (g4 _ _ ?_))
  refine .cond rfl (fun f7 => ?_) (fun f7 => ?_)
  ·
   simp only [sps] at f7
   refine .skip ?_
   refine h3 _ _ (.seq (fun K7 h1 => ?_))
   refine .block ?_
   refine .seq (fun K8 h2 => .region (.mv rfl (.nil (h2 _ _ ?_))))
   refine .block ?_
   refine .loopR (σ := Nat × (Nat → Option Addr) × Nat × Nat) [(2, some _), (3, some _), (6, some _)] (fun (b, r2, z, b8) => [(7, some (.int .i64 (b : Int))), (5, some (.slice (some ⟨z, 0, none⟩) b8 b8))]) (fun (b, r2, z, b8) H' => St [d2] HL1 H' ∧ H'.get z = some (.row ((slsL r2 (kmO f k a b 0))) 24 true) ∧ (z = d2 ∨ HL1.next ≤ z) ∧ b8 = (slsL r2 (kmO f k a b 0)).length ∧ b ≤ k.ob.length ∧ OwnL H.next H' 2 r2 (kmO f k a b 0)) (fun (b, r2, z, b8) => k.ob.length - b) ((0, rr, _, _)) ⟨rfl, rfl, rfl, trivial⟩ ⟨rfl, rfl, trivial⟩ ?_ ?_
   ·
    refine ⟨.refl _ _, by first | assumption | exact d1 | simpa using d1, .inl rfl, by first | rfl | assumption | simp | omega, ?_⟩
    exact ⟨by omega, hR⟩
   rintro ⟨b, r2, z, b8⟩ HL2 ⟨a9, b5, pl_L5v2, ln_L5v2, hI⟩ KL2 f2
   refine .forget (fr' := [(7, some (.int .i64 (b : Int))), (5, some (.slice (some ⟨z, 0, none⟩) b8 b8)), (2, some _), (3, some _), (6, some _)]) ⟨rfl, rfl, rfl, rfl, rfl, trivial⟩ ?_
   have ge_L5v2 : H.next ≤ z := by omega
   have nx_HL2 := a9.nx
   replace j := j.st a9 (fun k hk => ⟨by omega, trivial⟩)
   replace a0 := a0.sA a9
   replace b3 := a9.s b3
   replace b6 := a9.s b6
   have lt_at_L5v2 := GHeap.ltg b5
   replace hin := e.mono j
   replace hin1 := d.mono j
   clear g m l u o c5 c3 c2 c4 w v y r
   have g : Fun.At _ g2 0 f p := ⟨Mem.of_get b3, hin⟩
   obtain ⟨m, l, u, o, c5, c3⟩ := g.get
   have c2 : MemN _ _ _ _ _ := ⟨rfl, g.1⟩
   have c4 := g.2
   have w : MemN _ _ _ _ _ := ⟨rfl, m.1⟩
   have v := m.2
   have y : MemN _ _ _ _ _ := ⟨rfl, l.1⟩
   have r := l.2
   clear h a2 a3 a5 a6 c8 d0 c7 c9 b0 a7 b1 a4
   have h : Fun.At _ g3 0 k q := ⟨Mem.of_get b6, hin1⟩
   obtain ⟨a2, a3, a5, a6, c8, d0⟩ := h.get
   have c7 : MemN _ _ _ _ _ := ⟨rfl, h.1⟩
   have c9 := h.2
   have b0 : MemN _ _ _ _ _ := ⟨rfl, a2.1⟩
   have a7 := a2.2
   have b1 : MemN _ _ _ _ _ := ⟨rfl, a3.1⟩
   have a4 := a3.2
   obtain ⟨hb, hR⟩ := hI
   refine .seq (fun K9 h0 => .seq (fun K10 f6 => .region (.mv rfl (.q rfl (.fieldAddr fo_33_0_E rfl) (.q rfl (.fieldAddr fo_27_0_B rfl) ?_)))))
   refine .q rfl (.load on_2_A rfl (by first | assumption | exact Mem.of_get b6 0 _ rfl)) ?_
   refine .q rfl (.cmp rfl rfl rfl) (.nil (f6 _ _ ?_))
   refine .cond rfl (fun e4 => ?_) (fun e4 => ?_)
   ·
    simp only [sps] at e4
    have hHH : (kmH f k a b).length = (f.t.hom (f.ob.getD a 0) (k.ob.getD b 0)).length := rfl
    have hH40 : (kmH f k a b).length ≤ f.t.src.length := Cat.hom_le _ _ _
    refine .skip ?_
    refine h0 _ _ (.seq (fun K11 f5 => ?_))
    refine .block ?_
    refine .seq (fun K12 f0 => ?_)
    refine .regionD mo_B (.q 0 (.q 1 (.q 2 (.q 3 (.q 4 (.q 5 (.q 6 (.q 7 (.q 8 (.q 9 (.q 10 (.q 11 (.c 12 0 (.q 13 (.done))))))))))))))) (by kernel_rfl) ?_
    refine .q rfl (.fieldAddr fo_33_1_E rfl) ?_
    refine .q rfl (.loadM ag_27_D rfl (by assumption)) ?_
    refine .q rfl (.fieldAddr fo_33_2_E rfl) ?_
    refine .q rfl (.load on_24_B rfl (by first | assumption | exact Mem.of_get b3 10 _ rfl)) ?_
    refine .mv rfl rfl ?_
    refine .q rfl (.idxN sl_24_A (by assumption) rfl rfl (by omega)) ?_
    refine .q rfl (.loadI on_2_A (by assumption) rfl (by omega)) ?_
    refine .q rfl (.fieldAddr fo_33_2_E rfl) ?_
    refine .q rfl (.load on_24_B rfl (by first | assumption | exact Mem.of_get b6 10 _ rfl)) ?_
    refine .mv rfl rfl ?_
    refine .q rfl (.idxN sl_24_A (by assumption) rfl rfl (by omega)) ?_
    refine .q rfl (.loadI on_2_A (by assumption) rfl (by omega)) ?_
    refine .call0 rfl rfl rfl rfl rfl @Try.call114 rfl (l02Hom_c (hS := hS)) ?_
    rintro _ f9 ⟨c6, g37, rfl, a8, ge37⟩
    have nx_H37 := c6.1
    replace j := j.trans c6
    replace a0 := a0.le c6
    replace a9 := a9.le c6
    replace b3 := c6.2 _ _ b3
    replace b6 := c6.2 _ _ b6
    replace b5 := c6.2 _ _ b5
    have lt_at37 := GHeap.ltg a8
    replace hin := e.mono j
    replace hin1 := d.mono j
    clear g m l u o c5 c3 c2 c4 w v y r
    have g : Fun.At _ g2 0 f p := ⟨Mem.of_get b3, hin⟩
    obtain ⟨m, l, u, o, c5, c3⟩ := g.get
    have c2 : MemN _ _ _ _ _ := ⟨rfl, g.1⟩
    have c4 := g.2
    have w : MemN _ _ _ _ _ := ⟨rfl, m.1⟩
    have v := m.2
    have y : MemN _ _ _ _ _ := ⟨rfl, l.1⟩
    have r := l.2
    clear h a2 a3 a5 a6 c8 d0 c7 c9 b0 a7 b1 a4
    have h : Fun.At _ g3 0 k q := ⟨Mem.of_get b6, hin1⟩
    obtain ⟨a2, a3, a5, a6, c8, d0⟩ := h.get
    have c7 : MemN _ _ _ _ _ := ⟨rfl, h.1⟩
    have c9 := h.2
    have b0 : MemN _ _ _ _ _ := ⟨rfl, a2.1⟩
    have a7 := a2.2
    have b1 : MemN _ _ _ _ _ := ⟨rfl, a3.1⟩
    have a4 := a3.2
    have d6 := Ints.of_get a8
    refine .mv rfl rfl ?_
    refine .done ?_
    refine f0 _ _ (.seq (fun K13 e9 => .region (.mv rfl (.nil (e9 _ _ ?_)))))
    refine .block ?_
    refine .loopR (σ := Nat × (Nat → Option Addr) × Nat × Nat) [(2, some _), (3, some _), (6, some _), (7, some _), (8, some _)] (fun (i, r3, b2, b7) => [(9, some (.int .i64 (i : Int))), (5, some (.slice (some ⟨b2, 0, none⟩) b7 b7))]) (fun (i, r3, b2, b7) H' => St [z] f9 H' ∧ H'.get b2 = some (.row ((slsL r3 (kmO f k a b i))) 24 true) ∧ (b2 = z ∨ f9.next ≤ b2) ∧ b7 = (slsL r3 (kmO f k a b i)).length ∧ i ≤ (kmH f k a b).length ∧ OwnL H.next H' 2 r3 (kmO f k a b i)) (fun (i, r3, b2, b7) => (kmH f k a b).length - i) ((0, r2, _, _)) ⟨rfl, rfl, rfl, rfl, rfl, trivial⟩ ⟨rfl, rfl, trivial⟩ ?_ ?_
    ·
     refine ⟨.refl _ _, by first | assumption | exact b5 | simpa using b5, .inl rfl, by first | rfl | assumption | simp | omega, ?_⟩
     exact ⟨by omega, hR.keep (.of_le c6)⟩
    rintro ⟨i, r3, b2, b7⟩ HL3 ⟨b4, a1, pl_L5v3, ln_L5v3, hI⟩ KL3 e3
    refine .forget (fr' := [(9, some (.int .i64 (i : Int))), (5, some (.slice (some ⟨b2, 0, none⟩) b7 b7)), (2, some _), (3, some _), (6, some _), (7, some _), (8, some _)]) ⟨rfl, rfl, rfl, rfl, rfl, rfl, rfl, trivial⟩ ?_
    have ge_L5v3 : H.next ≤ b2 := by omega
    have nx_HL3 := b4.nx
    replace j := j.st b4 (fun k hk => ⟨by omega, trivial⟩)
    replace a0 := a0.sA b4
    replace a9 := a9.sA b4
    replace b3 := b4.s b3
    replace b6 := b4.s b6
    replace a8 := b4.s a8
    have lt_at_L5v3 := GHeap.ltg a1
    replace hin := e.mono j
    replace hin1 := d.mono j
    clear g m l u o c5 c3 c2 c4 w v y r
    have g : Fun.At _ g2 0 f p := ⟨Mem.of_get b3, hin⟩
    obtain ⟨m, l, u, o, c5, c3⟩ := g.get
    have c2 : MemN _ _ _ _ _ := ⟨rfl, g.1⟩
    have c4 := g.2
    have w : MemN _ _ _ _ _ := ⟨rfl, m.1⟩
    have v := m.2
    have y : MemN _ _ _ _ _ := ⟨rfl, l.1⟩
    have r := l.2
    clear h a2 a3 a5 a6 c8 d0 c7 c9 b0 a7 b1 a4
    have h : Fun.At _ g3 0 k q := ⟨Mem.of_get b6, hin1⟩
    obtain ⟨a2, a3, a5, a6, c8, d0⟩ := h.get
    have c7 : MemN _ _ _ _ _ := ⟨rfl, h.1⟩
    have c9 := h.2
    have b0 : MemN _ _ _ _ _ := ⟨rfl, a2.1⟩
    have a7 := a2.2
    have b1 : MemN _ _ _ _ _ := ⟨rfl, a3.1⟩
    have a4 := a3.2
    clear d6
    have d6 := Ints.of_get a8
    have rk := St.refl [b2] HL3
    obtain ⟨hi, hR⟩ := hI
    have f3 := a1
    have hln := kmO_le hN (a := a) (b := b) (i := i) (by omega) (by omega) hi
    have hfl : (slsL r3 (kmO f k a b i)).length = (kmO f k a b i).length := length_slsL _ _
    refine .seq (fun K14 e5 => .seq (fun K15 f1 => .region (.mv rfl (.mv rfl (.q rfl (.len sl_24_A rfl) (.q rfl (.cmp rfl rfl rfl) (.nil (f1 _ _ ?_))))))))
    refine .cond rfl (fun e0 => ?_) (fun e0 => ?_)
    ·
     simp only [sps] at e0
     refine .skip ?_
     refine e5 _ _ (.seq (fun K16 e6 => ?_))
     refine .block ?_
     refine .region (.mv rfl (.mv rfl (.mv rfl (.mv rfl (.mv rfl ?_)))))
     refine .q rfl (.idxN sl_24_A (by first | assumption | exact SlA.of_row a8 (by first | rfl | (simp; done) | (simp <;> omega))) rfl rfl (by omega)) ?_
     refine .q rfl (.loadI on_2_A (by first | assumption | exact Ints.of_get a8) rfl (by omega)) ?_
     refine .R rfl (.litA rfl sl_24_A ze_2_E rfl rfl rfl rfl) ?_
     rintro _ H51 ⟨g6, rfl, c1, ge51, d3⟩
     have nx_H51 := c1.1
     replace j := j.trans c1
     replace a0 := a0.le c1
     replace a9 := a9.le c1
     replace b4 := b4.le c1
     replace rk := rk.le c1
     replace b3 := c1.2 _ _ b3
     replace b6 := c1.2 _ _ b6
     replace a8 := c1.2 _ _ a8
     replace a1 := c1.2 _ _ a1
     have lt_at51 := GHeap.ltg d3
     replace hin := e.mono j
     replace hin1 := d.mono j
     clear g m l u o c5 c3 c2 c4 w v y r
     have g : Fun.At _ g2 0 f p := ⟨Mem.of_get b3, hin⟩
     obtain ⟨m, l, u, o, c5, c3⟩ := g.get
     have c2 : MemN _ _ _ _ _ := ⟨rfl, g.1⟩
     have c4 := g.2
     have w : MemN _ _ _ _ _ := ⟨rfl, m.1⟩
     have v := m.2
     have y : MemN _ _ _ _ _ := ⟨rfl, l.1⟩
     have r := l.2
     clear h a2 a3 a5 a6 c8 d0 c7 c9 b0 a7 b1 a4
     have h : Fun.At _ g3 0 k q := ⟨Mem.of_get b6, hin1⟩
     obtain ⟨a2, a3, a5, a6, c8, d0⟩ := h.get
     have c7 : MemN _ _ _ _ _ := ⟨rfl, h.1⟩
     have c9 := h.2
     have b0 : MemN _ _ _ _ _ := ⟨rfl, a2.1⟩
     have a7 := a2.2
     have b1 : MemN _ _ _ _ _ := ⟨rfl, a3.1⟩
     have a4 := a3.2
     clear d6
     have d6 := Ints.of_get a8
     refine .R rfl (.litA rfl sl_25_B ze_24_E rfl rfl rfl rfl) ?_
     rintro _ H52 ⟨g52, rfl, c0, ge52, d7⟩
     have nx_H52 := c0.1
     replace j := j.trans c0
     replace a0 := a0.le c0
     replace a9 := a9.le c0
     replace b4 := b4.le c0
     replace rk := rk.le c0
     replace b3 := c0.2 _ _ b3
     replace b6 := c0.2 _ _ b6
     replace a8 := c0.2 _ _ a8
     replace a1 := c0.2 _ _ a1
     replace d3 := c0.2 _ _ d3
     have lt_at52 := GHeap.ltg d7
     replace hin := e.mono j
     replace hin1 := d.mono j
     clear g m l u o c5 c3 c2 c4 w v y r
     have g : Fun.At _ g2 0 f p := ⟨Mem.of_get b3, hin⟩
     obtain ⟨m, l, u, o, c5, c3⟩ := g.get
     have c2 : MemN _ _ _ _ _ := ⟨rfl, g.1⟩
     have c4 := g.2
     have w : MemN _ _ _ _ _ := ⟨rfl, m.1⟩
     have v := m.2
     have y : MemN _ _ _ _ _ := ⟨rfl, l.1⟩
     have r := l.2
     clear h a2 a3 a5 a6 c8 d0 c7 c9 b0 a7 b1 a4
     have h : Fun.At _ g3 0 k q := ⟨Mem.of_get b6, hin1⟩
     obtain ⟨a2, a3, a5, a6, c8, d0⟩ := h.get
     have c7 : MemN _ _ _ _ _ := ⟨rfl, h.1⟩
     have c9 := h.2
     have b0 : MemN _ _ _ _ _ := ⟨rfl, a2.1⟩
     have a7 := a2.2
     have b1 : MemN _ _ _ _ _ := ⟨rfl, a3.1⟩
     have a4 := a3.2
     clear d6
     have d6 := Ints.of_get a8
     refine .R rfl (.appendV rfl sl_25_B ze_24_E rfl by_24_E sl_25_B rfl rfl (by assumption) (by assumption) (by first | omega | (simp <;> omega)) rfl rfl (by omega) (by omega)) ?_
     rintro _ H53 ⟨g53, rfl, b9, ge53, e1⟩
     have nx_H53 := b9.nx
     replace j := j.st b9 (fun k hk => ⟨by omega, trivial⟩)
     replace a0 := a0.sA b9
     replace a9 := a9.sA b9
     replace b4 := b4.sA b9
     replace rk := rk.sA b9
     replace b3 := b9.s b3
     replace b6 := b9.s b6
     replace a8 := b9.s a8
     replace d3 := b9.s d3
     replace d7 := b9.s d7
     have lt_at53 := GHeap.ltg e1
     replace hin := e.mono j
     replace hin1 := d.mono j
     clear g m l u o c5 c3 c2 c4 w v y r
     have g : Fun.At _ g2 0 f p := ⟨Mem.of_get b3, hin⟩
     obtain ⟨m, l, u, o, c5, c3⟩ := g.get
     have c2 : MemN _ _ _ _ _ := ⟨rfl, g.1⟩
     have c4 := g.2
     have w : MemN _ _ _ _ _ := ⟨rfl, m.1⟩
     have v := m.2
     have y : MemN _ _ _ _ _ := ⟨rfl, l.1⟩
     have r := l.2
     clear h a2 a3 a5 a6 c8 d0 c7 c9 b0 a7 b1 a4
     have h : Fun.At _ g3 0 k q := ⟨Mem.of_get b6, hin1⟩
     obtain ⟨a2, a3, a5, a6, c8, d0⟩ := h.get
     have c7 : MemN _ _ _ _ _ := ⟨rfl, h.1⟩
     have c9 := h.2
     have b0 : MemN _ _ _ _ _ := ⟨rfl, a2.1⟩
     have a7 := a2.2
     have b1 : MemN _ _ _ _ _ := ⟨rfl, a3.1⟩
     have a4 := a3.2
     clear d6
     have d6 := Ints.of_get a8
     refine .mv rfl (.nil (e6 _ _ (.region (.mv rfl ?_))))
     refine .q rfl (.add rfl rfl rfl (by omega) (by omega)) ?_
     refine .mv rfl (.nil ?_)
     refine e3 ((i + 1, upd r3 (kmO f k a b i).length (some ⟨g6, 0, none⟩), _, _)) _ _ ?_ ?_ ⟨rfl, rfl, rfl, rfl, rfl, rfl, rfl, trivial⟩
     ·
      refine ⟨b4, by first | assumption | (rw [kmO_snoc, slsL_snoc]; assumption), by omega, by first | omega | (simp only [List.length_append, List.length_cons, List.length_nil] <;> omega) | (rw [kmO_snoc, slsL_snoc] <;> (first | omega | (simp only [List.length_append, List.length_cons, List.length_nil] <;> omega))), ?_⟩
      exact ⟨by omega, by rw [kmO_snoc]; exact hR.snoc (x := [(a : Int), (b : Int), (kmH f k a b).getD i 0]) (rk.lasts1 f3 rfl) (by assumption) (by omega) (by omega)⟩
     (dsimp only; omega)
    try simp only [sps] at e0
    refine .exit ?_
    refine f5 _ _ (.region (.mv rfl ?_))
    refine .q rfl (.add rfl rfl rfl (by omega) (by omega)) ?_
    refine .mv rfl (.nil ?_)
    obtain rfl : i = (kmH f k a b).length := by omega
    refine f2 ((b + 1, r3, _, _)) _ _ ?_ ?_ ⟨rfl, rfl, rfl, rfl, rfl, trivial⟩
    ·
     refine ⟨a9, by first | assumption | (rw [kmO_next2]; assumption), by omega, by first | omega | (simp only [List.length_append, List.length_cons, List.length_nil] <;> omega) | (rw [kmO_next2] <;> (first | omega | (simp only [List.length_append, List.length_cons, List.length_nil] <;> omega))), ?_⟩
     exact ⟨by omega, by rw [kmO_next2]; exact hR⟩
    (dsimp only; omega)
   try simp only [sps] at e4
   refine .exit ?_
   refine h1 _ _ (.region (.mv rfl ?_))
   refine .q rfl (.add rfl rfl rfl (by omega) (by omega)) ?_
   refine .mv rfl (.nil ?_)
   obtain rfl : b = k.ob.length := by omega
   refine f4 ((a + 1, r2, _, _)) _ _ ?_ ?_ ⟨rfl, rfl, rfl, rfl, trivial⟩
   ·
    refine ⟨a0, by first | assumption | (rw [kmO_next1]; assumption), by omega, by first | omega | (simp only [List.length_append, List.length_cons, List.length_nil] <;> omega) | (rw [kmO_next1] <;> (first | omega | (simp only [List.length_append, List.length_cons, List.length_nil] <;> omega))), ?_⟩
    exact ⟨by omega, by rw [kmO_next1]; exact hR⟩
   (dsimp only; omega)
  try simp only [sps] at f7
  refine .exit ?_
  refine g9 _ _ (.seq (fun K17 e2 => .region (.mv rfl (.mv rfl (.nil (e2 _ _ ?_))))))
  refine .ret ?_
  refine e8 _ _ ?_
  refine ⟨_, rfl, ?_⟩
  obtain rfl : a = f.ob.length := by omega
  exact ⟨j, _, rr, by rw [d9, length_slsL]; rfl, hR.done d1 (by omega)⟩
set_option maxHeartbeats 8000000 in
theorem l09Arrows_c {f k : Fun} {p q : FunP} {ad : Option Addr} {O : List (List Int)} {r : Nat → Option Addr} {H : GHeap} (hin : f.In H p := by assumption) (hin1 : k.In H q := by assumption) (h : Intss H ad O r := by assumption) (ho : KmOk f k) (hO8 : O.length ≤ 8) (hX : ∀ i, i < O.length → KmX f k (O.getD i [])) :
    GCalls Try.prog 183 [.agg (f.cells p).toArray, .agg (k.cells q).toArray, .slice ad O.length O.length] H (NewIntssR H (kmAr f k O)) := by
  have hN := ho.n
  have q1 := ho.p.2.2.al
  have q2 := ho.q.2.2.al
  have q3 := ho.p.2.2.ar
  have q4 := ho.q.2.2.ar
  have q5 := ho.e
  have hS := ho.p.2.1.1
  have k1 := ho.p.1.1
  have j8 := ho.q.1.1
  obtain ⟨n1, n2, n3, n4, n5⟩ := id hN
  have q6 : k.t.src.length = f.t.src.length := by rw [q5]
  refine GCalls.body (N := 111) (rs := [.tmp 6]) Try.func183 rfl rfl rfl rfl (fun Qx h4 hend => ?_)
  refine .fg [0, 1, 2] rfl ?_
  have m := GHeap.Le.refl H
  have g := hin
  have d := hin1
  have v := h
  refine .seq (fun K1 j3 => .region ?_)
  refine .R rfl (.boxR rfl sz_33_E rfl) ?_
  rintro _ H3 ⟨g3, rfl, i8, ge3, c4⟩
  have nx_H3 := i8.1
  replace m := m.trans i8
  have lt_at3 := GHeap.ltg c4
  replace hin := g.mono m
  replace hin1 := d.mono m
  replace h := v.mono m
  have o : Fun.At _ g3 0 f p := ⟨Mem.of_get c4, hin⟩
  obtain ⟨z, a0, a2, a3, d7, d9⟩ := o.get
  have d6 : MemN _ _ _ _ _ := ⟨rfl, o.1⟩
  have d8 := o.2
  have a5 : MemN _ _ _ _ _ := ⟨rfl, z.1⟩
  have a4 := z.2
  have a6 : MemN _ _ _ _ _ := ⟨rfl, a0.1⟩
  have a1 := a0.2
  refine .R rfl (.boxR rfl sz_33_E rfl) ?_
  rintro _ H4 ⟨g4, rfl, h9, ge4, d1⟩
  have nx_H4 := h9.1
  replace m := m.trans h9
  replace c4 := h9.2 _ _ c4
  have lt_at4 := GHeap.ltg d1
  replace hin := g.mono m
  replace hin1 := d.mono m
  replace h := v.mono m
  clear o z a0 a2 a3 d7 d9 d6 d8 a5 a4 a6 a1
  have o : Fun.At _ g3 0 f p := ⟨Mem.of_get c4, hin⟩
  obtain ⟨z, a0, a2, a3, d7, d9⟩ := o.get
  have d6 : MemN _ _ _ _ _ := ⟨rfl, o.1⟩
  have d8 := o.2
  have a5 : MemN _ _ _ _ _ := ⟨rfl, z.1⟩
  have a4 := z.2
  have a6 : MemN _ _ _ _ _ := ⟨rfl, a0.1⟩
  have a1 := a0.2
  have u : Fun.At _ g4 0 k q := ⟨Mem.of_get d1, hin1⟩
  obtain ⟨b0, b1, b3, c2, e1, e2⟩ := u.get
  have e0 : MemN _ _ _ _ _ := ⟨rfl, u.1⟩
  have e3 := u.2
  have b4 : MemN _ _ _ _ _ := ⟨rfl, b0.1⟩
  have b5 := b0.2
  have b6 : MemN _ _ _ _ _ := ⟨rfl, b1.1⟩
  have b2 := b1.2
  refine .mv rfl (.nil (j3 _ _ (.seq (fun K2 j4 => .region ?_))))
  refine .R rfl (.litA rfl sl_25_B ze_24_E rfl rfl rfl rfl) ?_
  rintro _ j0 ⟨i9, rfl, f3, ge16, g8⟩
  have nx_H16 := f3.1
  replace m := m.trans f3
  replace c4 := f3.2 _ _ c4
  replace d1 := f3.2 _ _ d1
  have lt_at16 := GHeap.ltg g8
  replace hin := g.mono m
  replace hin1 := d.mono m
  replace h := v.mono m
  clear o z a0 a2 a3 d7 d9 d6 d8 a5 a4 a6 a1
  have o : Fun.At _ g3 0 f p := ⟨Mem.of_get c4, hin⟩
  obtain ⟨z, a0, a2, a3, d7, d9⟩ := o.get
  have d6 : MemN _ _ _ _ _ := ⟨rfl, o.1⟩
  have d8 := o.2
  have a5 : MemN _ _ _ _ _ := ⟨rfl, z.1⟩
  have a4 := z.2
  have a6 : MemN _ _ _ _ _ := ⟨rfl, a0.1⟩
  have a1 := a0.2
  clear u b0 b1 b3 c2 e1 e2 e0 e3 b4 b5 b6 b2
  have u : Fun.At _ g4 0 k q := ⟨Mem.of_get d1, hin1⟩
  obtain ⟨b0, b1, b3, c2, e1, e2⟩ := u.get
  have e0 : MemN _ _ _ _ _ := ⟨rfl, u.1⟩
  have e3 := u.2
  have b4 : MemN _ _ _ _ _ := ⟨rfl, b0.1⟩
  have b5 := b0.2
  have b6 : MemN _ _ _ _ _ := ⟨rfl, b1.1⟩
  have b2 := b1.2
  refine .mv rfl (.nil (j4 _ _ (.seq (fun K3 j6 => .seq (fun K4 j5 => .region (.mv rfl (.nil (j5 _ _ ?_))))))))
  refine .block ?_
  refine .loopR (σ := Nat × (Nat → Option Addr) × Nat × Nat) [(2, some _), (3, some _), (4, some _)] (fun (s, rr, f1, f5) => [(8, some (.int .i64 (s : Int))), (7, some (.slice (some ⟨f1, 0, none⟩) f5 f5))]) (fun (s, rr, f1, f5) H' => St [i9] j0 H' ∧ H'.get f1 = some (.row ((slsL rr (kmB f k O s 0 0 0))) 24 true) ∧ (f1 = i9 ∨ j0.next ≤ f1) ∧ f5 = (slsL rr (kmB f k O s 0 0 0)).length ∧ s ≤ O.length ∧ OwnL H.next H' 2 rr (kmB f k O s 0 0 0)) (fun (s, rr, f1, f5) => O.length - s) ((0, fun _ => none, _, _)) ⟨rfl, rfl, rfl, trivial⟩ ⟨rfl, rfl, trivial⟩ ?_ ?_
  ·
   refine ⟨.refl _ _, by (rw [kmB_zero]; assumption), .inl rfl, by first | rfl | assumption | simp | omega, ?_⟩
   exact ⟨by omega, by rw [kmB_zero]; exact .nil _ _ _ _⟩
  rintro ⟨s, rr, f1, f5⟩ HL1 ⟨a8, e7, pl_L7, f4, hI⟩ KL1 i4
  refine .forget (fr' := [(8, some (.int .i64 (s : Int))), (7, some (.slice (some ⟨f1, 0, none⟩) f5 f5)), (2, some _), (3, some _), (4, some _)]) ⟨rfl, rfl, rfl, rfl, rfl, trivial⟩ ?_
  have ge_L7 : H.next ≤ f1 := by omega
  have nx_HL1 := a8.nx
  replace m := m.st a8 (fun k hk => ⟨by omega, trivial⟩)
  replace c4 := a8.s c4
  replace d1 := a8.s d1
  have lt_at_L7 := GHeap.ltg e7
  replace hin := g.mono m
  replace hin1 := d.mono m
  replace h := v.mono m
  clear o z a0 a2 a3 d7 d9 d6 d8 a5 a4 a6 a1
  have o : Fun.At _ g3 0 f p := ⟨Mem.of_get c4, hin⟩
  obtain ⟨z, a0, a2, a3, d7, d9⟩ := o.get
  have d6 : MemN _ _ _ _ _ := ⟨rfl, o.1⟩
  have d8 := o.2
  have a5 : MemN _ _ _ _ _ := ⟨rfl, z.1⟩
  have a4 := z.2
  have a6 : MemN _ _ _ _ _ := ⟨rfl, a0.1⟩
  have a1 := a0.2
  clear u b0 b1 b3 c2 e1 e2 e0 e3 b4 b5 b6 b2
  have u : Fun.At _ g4 0 k q := ⟨Mem.of_get d1, hin1⟩
  obtain ⟨b0, b1, b3, c2, e1, e2⟩ := u.get
  have e0 : MemN _ _ _ _ _ := ⟨rfl, u.1⟩
  have e3 := u.2
  have b4 : MemN _ _ _ _ _ := ⟨rfl, b0.1⟩
  have b5 := b0.2
  have b6 : MemN _ _ _ _ _ := ⟨rfl, b1.1⟩
  have b2 := b1.2
  obtain ⟨ha, hR⟩ := hI
  refine .seq (fun K5 k2 => .seq (fun K6 j2 => .region (.mv rfl (.mv rfl (.q rfl (.len sl_25_B rfl) (.q rfl (.cmp rfl rfl rfl) (.nil (j2 _ _ ?_))))))))
  refine .cond rfl (fun h7 => ?_) (fun h7 => ?_)
  ·
   simp only [sps] at h7
   have x1 := hX s (by omega)
   have x1l := x1.l
   have x1a := x1.a
   have x1b := x1.b
   have x1c := x1.c
   have u1 := h.2 s (by omega)
   refine .skip ?_
   refine k2 _ _ (.seq (fun K7 j9 => ?_))
   refine .block ?_
   refine .seq (fun K8 k0 => .region (.mv rfl (.nil (k0 _ _ ?_))))
   refine .block ?_
   refine .loopR (σ := Nat × (Nat → Option Addr) × Nat × Nat) [(2, some _), (3, some _), (4, some _), (8, some _)] (fun (t, r2, c6, d4) => [(9, some (.int .i64 (t : Int))), (7, some (.slice (some ⟨c6, 0, none⟩) d4 d4))]) (fun (t, r2, c6, d4) H' => St [f1] HL1 H' ∧ H'.get c6 = some (.row ((slsL r2 (kmB f k O s t 0 0))) 24 true) ∧ (c6 = f1 ∨ HL1.next ≤ c6) ∧ d4 = (slsL r2 (kmB f k O s t 0 0)).length ∧ t ≤ O.length ∧ OwnL H.next H' 2 r2 (kmB f k O s t 0 0)) (fun (t, r2, c6, d4) => O.length - t) ((0, rr, _, _)) ⟨rfl, rfl, rfl, rfl, trivial⟩ ⟨rfl, rfl, trivial⟩ ?_ ?_
   ·
    refine ⟨.refl _ _, by first | assumption | exact e7 | simpa using e7, .inl rfl, by first | rfl | assumption | simp | omega, ?_⟩
    exact ⟨by omega, hR⟩
   rintro ⟨t, r2, c6, d4⟩ HL2 ⟨b8, c3, pl_L7v2, ln_L7v2, hI⟩ KL2 i3
   refine .forget (fr' := [(9, some (.int .i64 (t : Int))), (7, some (.slice (some ⟨c6, 0, none⟩) d4 d4)), (2, some _), (3, some _), (4, some _), (8, some _)]) ⟨rfl, rfl, rfl, rfl, rfl, rfl, trivial⟩ ?_
   have ge_L7v2 : H.next ≤ c6 := by omega
   have nx_HL2 := b8.nx
   replace m := m.st b8 (fun k hk => ⟨by omega, trivial⟩)
   replace a8 := a8.sA b8
   replace c4 := b8.s c4
   replace d1 := b8.s d1
   have lt_at_L7v2 := GHeap.ltg c3
   replace hin := g.mono m
   replace hin1 := d.mono m
   replace h := v.mono m
   clear o z a0 a2 a3 d7 d9 d6 d8 a5 a4 a6 a1
   have o : Fun.At _ g3 0 f p := ⟨Mem.of_get c4, hin⟩
   obtain ⟨z, a0, a2, a3, d7, d9⟩ := o.get
   have d6 : MemN _ _ _ _ _ := ⟨rfl, o.1⟩
   have d8 := o.2
   have a5 : MemN _ _ _ _ _ := ⟨rfl, z.1⟩
   have a4 := z.2
   have a6 : MemN _ _ _ _ _ := ⟨rfl, a0.1⟩
   have a1 := a0.2
   clear u b0 b1 b3 c2 e1 e2 e0 e3 b4 b5 b6 b2
   have u : Fun.At _ g4 0 k q := ⟨Mem.of_get d1, hin1⟩
   obtain ⟨b0, b1, b3, c2, e1, e2⟩ := u.get
   have e0 : MemN _ _ _ _ _ := ⟨rfl, u.1⟩
   have e3 := u.2
   have b4 : MemN _ _ _ _ _ := ⟨rfl, b0.1⟩
   have b5 := b0.2
   have b6 : MemN _ _ _ _ _ := ⟨rfl, b1.1⟩
   have b2 := b1.2
   clear u1
   have u1 := h.2 s (by omega)
   obtain ⟨hb, hR⟩ := hI
   refine .seq (fun K9 j7 => .seq (fun K10 i6 => .region (.mv rfl (.mv rfl (.q rfl (.len sl_25_B rfl) (.q rfl (.cmp rfl rfl rfl) (.nil (i6 _ _ ?_))))))))
   refine .cond rfl (fun h2 => ?_) (fun h2 => ?_)
   ·
    simp only [sps] at h2
    have y1 := hX t (by omega)
    have y1l := y1.l
    have y1a := y1.a
    have y1b := y1.b
    have y1c := y1.c
    have hUU : (kmU f (O.getD s []) (O.getD t [])).length = (f.s.hom ((O.getD s []).getD 0 0) ((O.getD t []).getD 0 0)).length := rfl
    have hVV : (kmV k (O.getD s []) (O.getD t [])).length = (k.s.hom ((O.getD s []).getD 1 0) ((O.getD t []).getD 1 0)).length := rfl
    have hU40 : (kmU f (O.getD s []) (O.getD t [])).length ≤ f.s.src.length := Cat.hom_le _ _ _
    have hV40 : (kmV k (O.getD s []) (O.getD t [])).length ≤ k.s.src.length := Cat.hom_le _ _ _
    have u2 := h.2 t (by omega)
    refine .skip ?_
    refine j7 _ _ (.seq (fun K11 i5 => ?_))
    refine .block ?_
    refine .seq (fun K12 i0 => ?_)
    refine .regionD mo_B (.q 0 (.q 1 (.q 2 (.q 3 (.q 4 (.q 5 (.q 6 (.q 7 (.q 8 (.q 9 (.done))))))))))) (by kernel_rfl) ?_
    refine .mv rfl rfl (.mv rfl rfl ?_)
    refine .q rfl (.idxN sl_25_B (Intss.sl (by assumption)) rfl rfl (by omega)) ?_
    refine .q rfl (.loadR on_24_B (by assumption) rfl (by omega)) ?_
    refine .mv rfl rfl (.mv rfl rfl ?_)
    refine .q rfl (.idxN sl_25_B (Intss.sl (by assumption)) rfl rfl (by omega)) ?_
    refine .q rfl (.loadR on_24_B (by assumption) rfl (by omega)) ?_
    refine .mv rfl rfl (.mv rfl rfl ?_)
    refine .done ?_
    refine i0 _ _ (.seq (fun K13 h8 => ?_))
    refine .regionD mo_B (.q 0 (.q 1 (.q 2 (.q 3 (.q 4 (.q 5 (.q 6 (.q 7 (.q 9 (.q 10 (.q 11 (.q 12 (.q 13 (.q 14 (.q 15 (.q 16 (.c 8 1 (.c 17 0 (.q 18 (.q 19 (.done))))))))))))))))))))) (by kernel_rfl) ?_
    refine .q rfl (.fieldAddr fo_33_0_E rfl) ?_
    refine .q rfl (.loadM ag_27_D rfl (by assumption)) ?_
    refine .mv rfl rfl ?_
    refine .q rfl (.idxN (j := 0) sl_24_A (by assumption) rfl rfl (by omega)) ?_
    refine .q rfl (.loadI on_2_A (by assumption) rfl (by omega)) ?_
    refine .mv rfl rfl ?_
    refine .q rfl (.idxN (j := 0) sl_24_A (by assumption) rfl rfl (by omega)) ?_
    refine .q rfl (.loadI on_2_A (by assumption) rfl (by omega)) ?_
    refine .q rfl (.fieldAddr fo_33_0_E rfl) ?_
    refine .q rfl (.loadM ag_27_D rfl (by assumption)) ?_
    refine .mv rfl rfl ?_
    refine .q rfl (.idxN (j := 1) sl_24_A (by assumption) rfl rfl (by omega)) ?_
    refine .q rfl (.loadI on_2_A (by assumption) rfl (by omega)) ?_
    refine .mv rfl rfl ?_
    refine .q rfl (.idxN (j := 1) sl_24_A (by assumption) rfl rfl (by omega)) ?_
    refine .q rfl (.loadI on_2_A (by assumption) rfl (by omega)) ?_
    refine .call1 rfl rfl rfl rfl rfl @Try.call114 rfl (l02Hom_c (hS := k1)) ?_
    rintro _ H45 ⟨e6, g45, rfl, w, ge45⟩
    have f6 := e6
    refine ⟨f6, ?_⟩
    have nx_H45 := e6.1
    replace m := m.trans e6
    replace a8 := a8.le e6
    replace b8 := b8.le e6
    replace c4 := e6.2 _ _ c4
    replace d1 := e6.2 _ _ d1
    replace c3 := e6.2 _ _ c3
    have lt_at45 := GHeap.ltg w
    replace hin := g.mono m
    replace hin1 := d.mono m
    replace h := v.mono m
    clear o z a0 a2 a3 d7 d9 d6 d8 a5 a4 a6 a1
    have o : Fun.At _ g3 0 f p := ⟨Mem.of_get c4, hin⟩
    obtain ⟨z, a0, a2, a3, d7, d9⟩ := o.get
    have d6 : MemN _ _ _ _ _ := ⟨rfl, o.1⟩
    have d8 := o.2
    have a5 : MemN _ _ _ _ _ := ⟨rfl, z.1⟩
    have a4 := z.2
    have a6 : MemN _ _ _ _ _ := ⟨rfl, a0.1⟩
    have a1 := a0.2
    clear u b0 b1 b3 c2 e1 e2 e0 e3 b4 b5 b6 b2
    have u : Fun.At _ g4 0 k q := ⟨Mem.of_get d1, hin1⟩
    obtain ⟨b0, b1, b3, c2, e1, e2⟩ := u.get
    have e0 : MemN _ _ _ _ _ := ⟨rfl, u.1⟩
    have e3 := u.2
    have b4 : MemN _ _ _ _ _ := ⟨rfl, b0.1⟩
    have b5 := b0.2
    have b6 : MemN _ _ _ _ _ := ⟨rfl, b1.1⟩
    have b2 := b1.2
    clear u1
    have u1 := h.2 s (by omega)
    clear u2
    have u2 := h.2 t (by omega)
    have e9 := Ints.of_get w
    refine .call0 rfl rfl rfl rfl rfl @Try.call114 rfl (l02Hom_c (hS := j8)) ?_
    rintro _ j1 ⟨e4, g54, rfl, a9, ge54⟩
    have nx_H54 := e4.1
    replace m := m.trans e4
    replace a8 := a8.le e4
    replace b8 := b8.le e4
    replace c4 := e4.2 _ _ c4
    replace d1 := e4.2 _ _ d1
    replace c3 := e4.2 _ _ c3
    replace w := e4.2 _ _ w
    have lt_at54 := GHeap.ltg a9
    replace hin := g.mono m
    replace hin1 := d.mono m
    replace h := v.mono m
    clear o z a0 a2 a3 d7 d9 d6 d8 a5 a4 a6 a1
    have o : Fun.At _ g3 0 f p := ⟨Mem.of_get c4, hin⟩
    obtain ⟨z, a0, a2, a3, d7, d9⟩ := o.get
    have d6 : MemN _ _ _ _ _ := ⟨rfl, o.1⟩
    have d8 := o.2
    have a5 : MemN _ _ _ _ _ := ⟨rfl, z.1⟩
    have a4 := z.2
    have a6 : MemN _ _ _ _ _ := ⟨rfl, a0.1⟩
    have a1 := a0.2
    clear u b0 b1 b3 c2 e1 e2 e0 e3 b4 b5 b6 b2
    have u : Fun.At _ g4 0 k q := ⟨Mem.of_get d1, hin1⟩
    obtain ⟨b0, b1, b3, c2, e1, e2⟩ := u.get
    have e0 : MemN _ _ _ _ _ := ⟨rfl, u.1⟩
    have e3 := u.2
    have b4 : MemN _ _ _ _ _ := ⟨rfl, b0.1⟩
    have b5 := b0.2
    have b6 : MemN _ _ _ _ _ := ⟨rfl, b1.1⟩
    have b2 := b1.2
    clear u1
    have u1 := h.2 s (by omega)
    clear u2
    have u2 := h.2 t (by omega)
    clear e9
    have e9 := Ints.of_get w
    have f2 := Ints.of_get a9
    refine .mv rfl rfl (.mv rfl rfl ?_)
    refine .done ?_
    refine h8 _ _ (.seq (fun K14 h1 => .region (.mv rfl (.nil (h1 _ _ ?_)))))
    refine .block ?_
    refine .loopR (σ := Nat × (Nat → Option Addr) × Nat × Nat) [(2, some _), (3, some _), (4, some _), (8, some _), (9, some _), (10, some _), (11, some _), (12, some _), (13, some _)] (fun (i, r3, c8, d5) => [(14, some (.int .i64 (i : Int))), (7, some (.slice (some ⟨c8, 0, none⟩) d5 d5))]) (fun (i, r3, c8, d5) H' => St [c6] j1 H' ∧ H'.get c8 = some (.row ((slsL r3 (kmB f k O s t i 0))) 24 true) ∧ (c8 = c6 ∨ j1.next ≤ c8) ∧ d5 = (slsL r3 (kmB f k O s t i 0)).length ∧ i ≤ (kmU f (O.getD s []) (O.getD t [])).length ∧ OwnL H.next H' 2 r3 (kmB f k O s t i 0)) (fun (i, r3, c8, d5) => (kmU f (O.getD s []) (O.getD t [])).length - i) ((0, r2, _, _)) ⟨rfl, rfl, rfl, rfl, rfl, rfl, rfl, rfl, rfl, trivial⟩ ⟨rfl, rfl, trivial⟩ ?_ ?_
    ·
     refine ⟨.refl _ _, by first | assumption | exact c3 | simpa using c3, .inl rfl, by first | rfl | assumption | simp | omega, ?_⟩
     exact ⟨by omega, (hR.keep (.of_le e6)).keep (.of_le e4)⟩
    rintro ⟨i, r3, c8, d5⟩ HL3 ⟨c7, e5, pl_L7v3, ln_L7v3, hI⟩ KL3 g9
    refine .forget (fr' := [(14, some (.int .i64 (i : Int))), (7, some (.slice (some ⟨c8, 0, none⟩) d5 d5)), (2, some _), (3, some _), (4, some _), (8, some _), (9, some _), (10, some _), (11, some _), (12, some _), (13, some _)]) ⟨rfl, rfl, rfl, rfl, rfl, rfl, rfl, rfl, rfl, rfl, rfl, trivial⟩ ?_
    have ge_L7v3 : H.next ≤ c8 := by omega
    have nx_HL3 := c7.nx
    replace m := m.st c7 (fun k hk => ⟨by omega, trivial⟩)
    replace a8 := a8.sA c7
    replace b8 := b8.sA c7
    replace c4 := c7.s c4
    replace d1 := c7.s d1
    replace w := c7.s w
    replace a9 := c7.s a9
    have lt_at_L7v3 := GHeap.ltg e5
    replace hin := g.mono m
    replace hin1 := d.mono m
    replace h := v.mono m
    clear o z a0 a2 a3 d7 d9 d6 d8 a5 a4 a6 a1
    have o : Fun.At _ g3 0 f p := ⟨Mem.of_get c4, hin⟩
    obtain ⟨z, a0, a2, a3, d7, d9⟩ := o.get
    have d6 : MemN _ _ _ _ _ := ⟨rfl, o.1⟩
    have d8 := o.2
    have a5 : MemN _ _ _ _ _ := ⟨rfl, z.1⟩
    have a4 := z.2
    have a6 : MemN _ _ _ _ _ := ⟨rfl, a0.1⟩
    have a1 := a0.2
    clear u b0 b1 b3 c2 e1 e2 e0 e3 b4 b5 b6 b2
    have u : Fun.At _ g4 0 k q := ⟨Mem.of_get d1, hin1⟩
    obtain ⟨b0, b1, b3, c2, e1, e2⟩ := u.get
    have e0 : MemN _ _ _ _ _ := ⟨rfl, u.1⟩
    have e3 := u.2
    have b4 : MemN _ _ _ _ _ := ⟨rfl, b0.1⟩
    have b5 := b0.2
    have b6 : MemN _ _ _ _ _ := ⟨rfl, b1.1⟩
    have b2 := b1.2
    clear u1
    have u1 := h.2 s (by omega)
    clear u2
    have u2 := h.2 t (by omega)
    clear e9
    have e9 := Ints.of_get w
    clear f2
    have f2 := Ints.of_get a9
    obtain ⟨hi, hR⟩ := hI
    refine .seq (fun K15 i1 => .seq (fun K16 h3 => .region (.mv rfl (.mv rfl (.q rfl (.len sl_24_A rfl) (.q rfl (.cmp rfl rfl rfl) (.nil (h3 _ _ ?_))))))))
    refine .cond rfl (fun h5 => ?_) (fun h5 => ?_)
    ·
     simp only [sps] at h5
     obtain ⟨uu, uu1, uu2, uu3, uu4⟩ := Cat.hom_get (c := f.s) (x := (O.getD s []).getD 0 0) (y := (O.getD t []).getD 0 0) (i := i) (by omega)
     have q7 := q3 ((f.s.hom ((O.getD s []).getD 0 0) ((O.getD t []).getD 0 0)).getD i 0).toNat (by omega)
     refine .skip ?_
     refine i1 _ _ (.seq (fun K17 g7 => ?_))
     refine .block ?_
     refine .seq (fun K18 g5 => .region (.mv rfl (.nil (g5 _ _ ?_))))
     refine .block ?_
     refine .loopR (σ := Nat × (Nat → Option Addr) × Nat × Nat) [(2, some _), (3, some _), (4, some _), (8, some _), (9, some _), (10, some _), (11, some _), (12, some _), (13, some _), (14, some _)] (fun (j, r4, d2, d3) => [(15, some (.int .i64 (j : Int))), (7, some (.slice (some ⟨d2, 0, none⟩) d3 d3))]) (fun (j, r4, d2, d3) H' => St [c8] HL3 H' ∧ H'.get d2 = some (.row ((slsL r4 (kmB f k O s t i j))) 24 true) ∧ (d2 = c8 ∨ HL3.next ≤ d2) ∧ d3 = (slsL r4 (kmB f k O s t i j)).length ∧ j ≤ (kmV k (O.getD s []) (O.getD t [])).length ∧ OwnL H.next H' 2 r4 (kmB f k O s t i j)) (fun (j, r4, d2, d3) => (kmV k (O.getD s []) (O.getD t [])).length - j) ((0, r3, _, _)) ⟨rfl, rfl, rfl, rfl, rfl, rfl, rfl, rfl, rfl, rfl, trivial⟩ ⟨rfl, rfl, trivial⟩ ?_ ?_
     ·
      refine ⟨.refl _ _, by first | assumption | exact e5 | simpa using e5, .inl rfl, by first | rfl | assumption | simp | omega, ?_⟩
      exact ⟨by omega, hR⟩
     rintro ⟨j, r4, d2, d3⟩ HL4 ⟨c5, c9, pl_L7v4, ln_L7v4, hI⟩ KL4 f8
     refine .forget (fr' := [(15, some (.int .i64 (j : Int))), (7, some (.slice (some ⟨d2, 0, none⟩) d3 d3)), (2, some _), (3, some _), (4, some _), (8, some _), (9, some _), (10, some _), (11, some _), (12, some _), (13, some _), (14, some _)]) ⟨rfl, rfl, rfl, rfl, rfl, rfl, rfl, rfl, rfl, rfl, rfl, rfl, trivial⟩ ?_
     have ge_L7v4 : H.next ≤ d2 := by omega
     have nx_HL4 := c5.nx
     replace m := m.st c5 (fun k hk => ⟨by omega, trivial⟩)
     replace a8 := a8.sA c5
     replace b8 := b8.sA c5
     replace c7 := c7.sA c5
     replace c4 := c5.s c4
     replace d1 := c5.s d1
     replace w := c5.s w
     replace a9 := c5.s a9
     have lt_at_L7v4 := GHeap.ltg c9
     replace hin := g.mono m
     replace hin1 := d.mono m
     replace h := v.mono m
     clear o z a0 a2 a3 d7 d9 d6 d8 a5 a4 a6 a1
     have o : Fun.At _ g3 0 f p := ⟨Mem.of_get c4, hin⟩
     obtain ⟨z, a0, a2, a3, d7, d9⟩ := o.get
     have d6 : MemN _ _ _ _ _ := ⟨rfl, o.1⟩
     have d8 := o.2
     have a5 : MemN _ _ _ _ _ := ⟨rfl, z.1⟩
     have a4 := z.2
     have a6 : MemN _ _ _ _ _ := ⟨rfl, a0.1⟩
     have a1 := a0.2
     clear u b0 b1 b3 c2 e1 e2 e0 e3 b4 b5 b6 b2
     have u : Fun.At _ g4 0 k q := ⟨Mem.of_get d1, hin1⟩
     obtain ⟨b0, b1, b3, c2, e1, e2⟩ := u.get
     have e0 : MemN _ _ _ _ _ := ⟨rfl, u.1⟩
     have e3 := u.2
     have b4 : MemN _ _ _ _ _ := ⟨rfl, b0.1⟩
     have b5 := b0.2
     have b6 : MemN _ _ _ _ _ := ⟨rfl, b1.1⟩
     have b2 := b1.2
     clear u1
     have u1 := h.2 s (by omega)
     clear u2
     have u2 := h.2 t (by omega)
     clear e9
     have e9 := Ints.of_get w
     clear f2
     have f2 := Ints.of_get a9
     have rk := St.refl [d2] HL4
     obtain ⟨hj, hR⟩ := hI
     have f9 := c9
     have hln := kmB_len (f := f) (k := k) (O := O) hN hO8 (s := s) (t := t) (i := i) (j := j) (by omega) (by omega) (by omega) hj
     have hfl : (slsL r4 (kmB f k O s t i j)).length = (kmB f k O s t i j).length := length_slsL _ _
     refine .seq (fun K19 h0 => .seq (fun K20 g6 => .region (.mv rfl (.mv rfl (.q rfl (.len sl_24_A rfl) (.q rfl (.cmp rfl rfl rfl) (.nil (g6 _ _ ?_))))))))
     refine .cond rfl (fun i2 => ?_) (fun i2 => ?_)
     ·
      simp only [sps] at i2
      obtain ⟨vv, vv1, vv2, vv3, vv4⟩ := Cat.hom_get (c := k.s) (x := (O.getD s []).getD 1 0) (y := (O.getD t []).getD 1 0) (i := j) (by omega)
      have q8 := q4 ((k.s.hom ((O.getD s []).getD 1 0) ((O.getD t []).getD 1 0)).getD j 0).toNat (by omega)
      refine .skip ?_
      refine h0 _ _ (.seq (fun K21 g1 => ?_))
      refine .block ?_
      refine .seq (fun K22 i7 => ?_)
      refine .regionD mo_B (.q 0 (.q 1 (.q 2 (.q 3 (.q 4 (.q 5 (.q 6 (.q 7 (.q 8 (.q 9 (.q 10 (.q 11 (.q 12 (.q 14 (.q 15 (.q 16 (.q 17 (.q 18 (.q 19 (.q 20 (.q 21 (.q 22 (.q 23 (.q 24 (.q 25 (.q 26 (.c 13 1 (.c 27 0 (.q 28 (.done)))))))))))))))))))))))))))))) (by kernel_rfl) ?_
      refine .q rfl (.fieldAddr fo_33_1_E rfl) ?_
      refine .q rfl (.loadM ag_27_D rfl (by assumption)) ?_
      refine .q rfl (.fieldAddr fo_33_3_E rfl) ?_
      refine .q rfl (.load on_24_B rfl (by first | assumption | exact Mem.of_get c4 11 _ rfl)) ?_
      refine .mv rfl rfl (.mv rfl rfl ?_)
      refine .q rfl (.idxN sl_24_A (by first | assumption | exact SlA.of_row w (by first | rfl | (simp; done) | (simp <;> omega))) rfl rfl (by omega)) ?_
      refine .q rfl (.loadI on_2_A (by first | assumption | exact Ints.of_get w) rfl (by omega)) ?_
      refine .q rfl (.idx1 sl_24_A (by assumption) rfl rfl (by omega) (by omega)) ?_
      refine .q rfl (.loadI on_2_A (by assumption) rfl (by omega)) ?_
      refine .mv rfl rfl ?_
      refine .q rfl (.idxN (j := 2) sl_24_A (by assumption) rfl rfl (by omega)) ?_
      refine .q rfl (.loadI on_2_A (by assumption) rfl (by omega)) ?_
      refine .q rfl (.fieldAddr fo_33_1_E rfl) ?_
      refine .q rfl (.loadM ag_27_D rfl (by assumption)) ?_
      refine .mv rfl rfl ?_
      refine .q rfl (.idxN (j := 2) sl_24_A (by assumption) rfl rfl (by omega)) ?_
      refine .q rfl (.loadI on_2_A (by assumption) rfl (by omega)) ?_
      refine .q rfl (.fieldAddr fo_33_3_E rfl) ?_
      refine .q rfl (.load on_24_B rfl (by first | assumption | exact Mem.of_get d1 11 _ rfl)) ?_
      refine .mv rfl rfl (.mv rfl rfl ?_)
      refine .q rfl (.idxN sl_24_A (by first | assumption | exact SlA.of_row a9 (by first | rfl | (simp; done) | (simp <;> omega))) rfl rfl (by omega)) ?_
      refine .q rfl (.loadI on_2_A (by first | assumption | exact Ints.of_get a9) rfl (by omega)) ?_
      refine .q rfl (.idx1 sl_24_A (by assumption) rfl rfl (by omega) (by omega)) ?_
      refine .q rfl (.loadI on_2_A (by assumption) rfl (by omega)) ?_
      refine .callQ1 rfl rfl rfl rfl rfl @Try.call209 rfl (l02Then_c (hS := hS)) (.refl _) ?_
      refine .callQ0 rfl rfl rfl rfl rfl @Try.call209 rfl (l02Then_c (hS := hS)) ?_
      refine .q rfl (.cmp rfl rfl rfl) ?_
      refine .done ?_
      refine i7 _ _ ?_
      refine .cond rfl (fun f7 => ?_) (fun f7 => ?_)
      ·
       simp only [sps] at f7
       have hT : kmT f k (O.getD s []) (O.getD t []) ((kmU f (O.getD s []) (O.getD t [])).getD i 0, (kmV k (O.getD s []) (O.getD t [])).getD j 0) = true := decide_eq_true f7
       refine .regionD mo_B (.q 0 (.q 1 (.q 2 (.q 3 (.q 4 (.q 5 (.q 6 (.q 7 (.q 8 (.q 9 (.q 10 (.c 11 1 (.c 12 1 (.c 13 0 (.c 14 0 (.done)))))))))))))))) (by kernel_rfl) ?_
       refine .mv rfl rfl (.mv rfl rfl (.mv rfl rfl (.mv rfl rfl (.mv rfl rfl ?_))))
       refine .q rfl (.idxN sl_24_A (by first | assumption | exact SlA.of_row w (by first | rfl | (simp; done) | (simp <;> omega))) rfl rfl (by omega)) ?_
       refine .q rfl (.loadI on_2_A (by first | assumption | exact Ints.of_get w) rfl (by omega)) ?_
       refine .mv rfl rfl (.mv rfl rfl ?_)
       refine .q rfl (.idxN sl_24_A (by first | assumption | exact SlA.of_row a9 (by first | rfl | (simp; done) | (simp <;> omega))) rfl rfl (by omega)) ?_
       refine .q rfl (.loadI on_2_A (by first | assumption | exact Ints.of_get a9) rfl (by omega)) ?_
       refine .c1 rfl rfl rfl rfl (.litA rfl sl_24_A ze_2_E rfl rfl rfl rfl) ?_
       rintro _ H107 ⟨g0, rfl, b9, ge107, e8⟩
       have f6 := b9
       refine ⟨f6, ?_⟩
       have nx_H107 := b9.1
       replace m := m.trans b9
       replace a8 := a8.le b9
       replace b8 := b8.le b9
       replace c7 := c7.le b9
       replace c5 := c5.le b9
       replace rk := rk.le b9
       replace c4 := b9.2 _ _ c4
       replace d1 := b9.2 _ _ d1
       replace w := b9.2 _ _ w
       replace a9 := b9.2 _ _ a9
       replace c9 := b9.2 _ _ c9
       have lt_at107 := GHeap.ltg e8
       replace hin := g.mono m
       replace hin1 := d.mono m
       replace h := v.mono m
       clear o z a0 a2 a3 d7 d9 d6 d8 a5 a4 a6 a1
       have o : Fun.At _ g3 0 f p := ⟨Mem.of_get c4, hin⟩
       obtain ⟨z, a0, a2, a3, d7, d9⟩ := o.get
       have d6 : MemN _ _ _ _ _ := ⟨rfl, o.1⟩
       have d8 := o.2
       have a5 : MemN _ _ _ _ _ := ⟨rfl, z.1⟩
       have a4 := z.2
       have a6 : MemN _ _ _ _ _ := ⟨rfl, a0.1⟩
       have a1 := a0.2
       clear u b0 b1 b3 c2 e1 e2 e0 e3 b4 b5 b6 b2
       have u : Fun.At _ g4 0 k q := ⟨Mem.of_get d1, hin1⟩
       obtain ⟨b0, b1, b3, c2, e1, e2⟩ := u.get
       have e0 : MemN _ _ _ _ _ := ⟨rfl, u.1⟩
       have e3 := u.2
       have b4 : MemN _ _ _ _ _ := ⟨rfl, b0.1⟩
       have b5 := b0.2
       have b6 : MemN _ _ _ _ _ := ⟨rfl, b1.1⟩
       have b2 := b1.2
       clear u1
       have u1 := h.2 s (by omega)
       clear u2
       have u2 := h.2 t (by omega)
       clear e9
       have e9 := Ints.of_get w
       clear f2
       have f2 := Ints.of_get a9
       refine .c1 rfl rfl rfl rfl (.litA rfl sl_25_B ze_24_E rfl rfl rfl rfl) ?_
       rintro _ H108 ⟨g108, rfl, a7, ge108, f0⟩
       replace f6 := f6.trans a7
       refine ⟨f6, ?_⟩
       have nx_H108 := a7.1
       replace m := m.trans a7
       replace a8 := a8.le a7
       replace b8 := b8.le a7
       replace c7 := c7.le a7
       replace c5 := c5.le a7
       replace rk := rk.le a7
       replace c4 := a7.2 _ _ c4
       replace d1 := a7.2 _ _ d1
       replace w := a7.2 _ _ w
       replace a9 := a7.2 _ _ a9
       replace c9 := a7.2 _ _ c9
       replace e8 := a7.2 _ _ e8
       have lt_at108 := GHeap.ltg f0
       replace hin := g.mono m
       replace hin1 := d.mono m
       replace h := v.mono m
       clear o z a0 a2 a3 d7 d9 d6 d8 a5 a4 a6 a1
       have o : Fun.At _ g3 0 f p := ⟨Mem.of_get c4, hin⟩
       obtain ⟨z, a0, a2, a3, d7, d9⟩ := o.get
       have d6 : MemN _ _ _ _ _ := ⟨rfl, o.1⟩
       have d8 := o.2
       have a5 : MemN _ _ _ _ _ := ⟨rfl, z.1⟩
       have a4 := z.2
       have a6 : MemN _ _ _ _ _ := ⟨rfl, a0.1⟩
       have a1 := a0.2
       clear u b0 b1 b3 c2 e1 e2 e0 e3 b4 b5 b6 b2
       have u : Fun.At _ g4 0 k q := ⟨Mem.of_get d1, hin1⟩
       obtain ⟨b0, b1, b3, c2, e1, e2⟩ := u.get
       have e0 : MemN _ _ _ _ _ := ⟨rfl, u.1⟩
       have e3 := u.2
       have b4 : MemN _ _ _ _ _ := ⟨rfl, b0.1⟩
       have b5 := b0.2
       have b6 : MemN _ _ _ _ _ := ⟨rfl, b1.1⟩
       have b2 := b1.2
       clear u1
       have u1 := h.2 s (by omega)
       clear u2
       have u2 := h.2 t (by omega)
       clear e9
       have e9 := Ints.of_get w
       clear f2
       have f2 := Ints.of_get a9
       refine .c0 rfl rfl rfl rfl (.appendV rfl sl_25_B ze_24_E rfl by_24_E sl_25_B rfl rfl (by assumption) (by assumption) (by first | omega | (simp <;> omega)) rfl rfl (by omega) (by omega)) ?_
       rintro _ H109 ⟨g109, rfl, b7, ge109, g2⟩
       have nx_H109 := b7.nx
       replace m := m.st b7 (fun k hk => ⟨by omega, trivial⟩)
       replace a8 := a8.sA b7
       replace b8 := b8.sA b7
       replace c7 := c7.sA b7
       replace c5 := c5.sA b7
       replace rk := rk.sA b7
       replace c4 := b7.s c4
       replace d1 := b7.s d1
       replace w := b7.s w
       replace a9 := b7.s a9
       replace e8 := b7.s e8
       replace f0 := b7.s f0
       have lt_at109 := GHeap.ltg g2
       replace hin := g.mono m
       replace hin1 := d.mono m
       replace h := v.mono m
       clear o z a0 a2 a3 d7 d9 d6 d8 a5 a4 a6 a1
       have o : Fun.At _ g3 0 f p := ⟨Mem.of_get c4, hin⟩
       obtain ⟨z, a0, a2, a3, d7, d9⟩ := o.get
       have d6 : MemN _ _ _ _ _ := ⟨rfl, o.1⟩
       have d8 := o.2
       have a5 : MemN _ _ _ _ _ := ⟨rfl, z.1⟩
       have a4 := z.2
       have a6 : MemN _ _ _ _ _ := ⟨rfl, a0.1⟩
       have a1 := a0.2
       clear u b0 b1 b3 c2 e1 e2 e0 e3 b4 b5 b6 b2
       have u : Fun.At _ g4 0 k q := ⟨Mem.of_get d1, hin1⟩
       obtain ⟨b0, b1, b3, c2, e1, e2⟩ := u.get
       have e0 : MemN _ _ _ _ _ := ⟨rfl, u.1⟩
       have e3 := u.2
       have b4 : MemN _ _ _ _ _ := ⟨rfl, b0.1⟩
       have b5 := b0.2
       have b6 : MemN _ _ _ _ _ := ⟨rfl, b1.1⟩
       have b2 := b1.2
       clear u1
       have u1 := h.2 s (by omega)
       clear u2
       have u2 := h.2 t (by omega)
       clear e9
       have e9 := Ints.of_get w
       clear f2
       have f2 := Ints.of_get a9
       refine .d0 rfl rfl rfl rfl (.quiet (.assign rfl) CIs.mk) ?_
       refine .done ?_
       refine g1 _ _ (.region (.mv rfl ?_))
       refine .q rfl (.add rfl rfl rfl (by omega) (by omega)) ?_
       refine .mv rfl (.nil ?_)
       refine f8 ((j + 1, by first | exact upd r4 (kmB f k O s t i j).length (some ⟨g0, 0, none⟩) | exact r4, _, _)) _ _ ?_ ?_ ⟨rfl, rfl, rfl, rfl, rfl, rfl, rfl, rfl, rfl, rfl, rfl, rfl, trivial⟩
       ·
        refine ⟨c5, by first | assumption | (rw [kmB_yes hT, slsL_snoc]; assumption) | (rw [kmB_no hT]; assumption), by omega, by first | omega | (simp only [List.length_append, List.length_cons, List.length_nil] <;> omega) | (rw [kmB_yes hT, slsL_snoc] <;> (first | omega | (simp only [List.length_append, List.length_cons, List.length_nil] <;> omega))) | (rw [kmB_no hT] <;> (first | omega | (simp only [List.length_append, List.length_cons, List.length_nil] <;> omega))), ?_⟩
        exact ⟨by omega, by first | (rw [kmB_yes hT]; exact hR.snoc (x := [(s : Int), (t : Int), (kmU f (O.getD s []) (O.getD t [])).getD i 0, (kmV k (O.getD s []) (O.getD t [])).getD j 0]) (rk.lasts1 f9 rfl) (by assumption) (by omega) (by omega)) | (rw [kmB_no hT]; exact hR)⟩
       (dsimp only; omega)
      simp only [sps] at f7
      have hT : kmT f k (O.getD s []) (O.getD t []) ((kmU f (O.getD s []) (O.getD t [])).getD i 0, (kmV k (O.getD s []) (O.getD t [])).getD j 0) = false := decide_eq_false f7
      refine .skip ?_
      refine g1 _ _ (.region (.mv rfl ?_))
      refine .q rfl (.add rfl rfl rfl (by omega) (by omega)) ?_
      refine .mv rfl (.nil ?_)
      refine f8 ((j + 1, by first | exact upd r4 (kmB f k O s t i j).length (some ⟨g0, 0, none⟩) | exact r4, _, _)) _ _ ?_ ?_ ⟨rfl, rfl, rfl, rfl, rfl, rfl, rfl, rfl, rfl, rfl, rfl, rfl, trivial⟩
      ·
       refine ⟨c5, by first | assumption | (rw [kmB_yes hT, slsL_snoc]; assumption) | (rw [kmB_no hT]; assumption), by omega, by first | omega | (simp only [List.length_append, List.length_cons, List.length_nil] <;> omega) | (rw [kmB_yes hT, slsL_snoc] <;> (first | omega | (simp only [List.length_append, List.length_cons, List.length_nil] <;> omega))) | (rw [kmB_no hT] <;> (first | omega | (simp only [List.length_append, List.length_cons, List.length_nil] <;> omega))), ?_⟩
       exact ⟨by omega, by first | (rw [kmB_yes hT]; exact hR.snoc (x := [(s : Int), (t : Int), (kmU f (O.getD s []) (O.getD t [])).getD i 0, (kmV k (O.getD s []) (O.getD t [])).getD j 0]) (rk.lasts1 f9 rfl) (by assumption) (by omega) (by omega)) | (rw [kmB_no hT]; exact hR)⟩
      (dsimp only; omega)
     try simp only [sps] at i2
     refine .exit ?_
     refine g7 _ _ (.region (.mv rfl ?_))
     refine .q rfl (.add rfl rfl rfl (by omega) (by omega)) ?_
     refine .mv rfl (.nil ?_)
     obtain rfl : j = (kmV k (O.getD s []) (O.getD t [])).length := by omega
     refine g9 ((i + 1, r4, _, _)) _ _ ?_ ?_ ⟨rfl, rfl, rfl, rfl, rfl, rfl, rfl, rfl, rfl, rfl, rfl, trivial⟩
     ·
      refine ⟨c7, by first | assumption | (rw [kmB_next3]; assumption), by omega, by first | omega | (simp only [List.length_append, List.length_cons, List.length_nil] <;> omega) | (rw [kmB_next3] <;> (first | omega | (simp only [List.length_append, List.length_cons, List.length_nil] <;> omega))), ?_⟩
      exact ⟨by omega, by rw [kmB_next3]; exact hR⟩
     (dsimp only; omega)
    try simp only [sps] at h5
    refine .exit ?_
    refine i5 _ _ (.region (.mv rfl ?_))
    refine .q rfl (.add rfl rfl rfl (by omega) (by omega)) ?_
    refine .mv rfl (.nil ?_)
    obtain rfl : i = (kmU f (O.getD s []) (O.getD t [])).length := by omega
    refine i3 ((t + 1, r3, _, _)) _ _ ?_ ?_ ⟨rfl, rfl, rfl, rfl, rfl, rfl, trivial⟩
    ·
     refine ⟨b8, by first | assumption | (rw [kmB_next2]; assumption), by omega, by first | omega | (simp only [List.length_append, List.length_cons, List.length_nil] <;> omega) | (rw [kmB_next2] <;> (first | omega | (simp only [List.length_append, List.length_cons, List.length_nil] <;> omega))), ?_⟩
     exact ⟨by omega, by rw [kmB_next2]; exact hR⟩
    (dsimp only; omega)
   try simp only [sps] at h2
   refine .exit ?_
   refine j9 _ _ (.region (.mv rfl ?_))
   refine .q rfl (.add rfl rfl rfl (by omega) (by omega)) ?_
   refine .mv rfl (.nil ?_)
   obtain rfl : t = O.length := by omega
   refine i4 ((s + 1, r2, _, _)) _ _ ?_ ?_ ⟨rfl, rfl, rfl, rfl, rfl, trivial⟩
   ·
    refine ⟨a8, by first | assumption | (rw [kmB_next1]; assumption), by omega, by first | omega | (simp only [List.length_append, List.length_cons, List.length_nil] <;> omega) | (rw [kmB_next1] <;> (first | omega | (simp only [List.length_append, List.length_cons, List.length_nil] <;> omega))), ?_⟩
    exact ⟨by omega, by rw [kmB_next1]; exact hR⟩
   (dsimp only; omega)
  try simp only [sps] at h7
  refine .exit ?_
  refine j6 _ _ (.seq (fun K23 h6 => .region (.mv rfl (.mv rfl (.nil (h6 _ _ ?_))))))
  refine .ret ?_
  refine h4 _ _ ?_
  refine ⟨_, rfl, ?_⟩
  obtain rfl : s = O.length := by omega
  rw [kmB_zero] at e7 f4 hR
  exact ⟨m, _, rr, by rw [f4, length_slsL]; rfl, hR.done e7 (by omega)⟩
end Go.Proofs.Ytiooclghkafokaa
namespace Go.Proofs.Ytiooclghkafokaa
open Go Go.GL Go.RowKit Go.Proofs
theorem bt_27_Mb : buildT Try.prog 27 = some ([.int .i64 0, .slice none 0 0, .slice none 0 0, .slice none 0 0, .slice none 0 0], [(0, 1), (1, 1), (2, 1), (3, 1), (4, 1)]) := by kernel_rfl
set_option maxHeartbeats 8000000 in
theorem l09Build_c {n : Nat} {ad aL aR : Option Addr} {A : List (List Int)} {r : Nat → Option Addr} {a b : Cat} {p q : CatP} {L R : List Int} {H : GHeap} (h : Intss H ad A r) (hin : a.In H p) (hin1 : b.In H q) (hL : Ints H aL L) (hR : Ints H aR R) (hSa : a.Shape) (hSb : b.Shape) (hn : n ≤ 8) (hLl : L.length = n) (hRl : R.length = n)
    (hA : A.length ≤ 102400) (hA4 : ∀ i, (A.getD i []).length ≤ 4) (hY : ∀ i, i < A.length → (A.getD i []).length = 4 ∧ (0 ≤ (A.getD i []).getD 2 0 ∧ (A.getD i []).getD 2 0 < a.src.length) ∧ 0 ≤ (A.getD i []).getD 3 0 ∧ (A.getD i []).getD 3 0 < b.src.length)
    (hLi : ∀ i, i < n → 0 ≤ L.getD i 0 ∧ L.getD i 0 < a.idn.length) (hRi : ∀ i, i < n → 0 ≤ R.getD i 0 ∧ R.getD i 0 < b.idn.length) :
    GCalls Try.prog 184 [.int .i64 (n : Int), .slice ad A.length A.length, .agg (a.cells p).toArray, .agg (b.cells q).toArray, .slice aL L.length L.length, .slice aR R.length R.length] H
      (fun v H' => H.Le H' ∧ ∃ (c : Cat) (p : CatP), v = .agg (c.cells p).toArray ∧ CatK H.next H' c p ∧ c.obj = n ∧ c.src.length = A.length) := by
  refine GCalls.body (N := 156) (rs := [.cell 12 27]) Try.func184 rfl rfl rfl rfl (fun Qx r6 hend => ?_)
  refine .fg [0, 1, 2, 3, 4, 5] rfl ?_
  have f := GHeap.Le.refl H
  have a1 := h
  have l := hin
  have e := hin1
  have u := hL
  have t := hR
  refine .seq (fun K1 w0 => .region ?_)
  refine .R rfl (.boxR rfl sz_27_D rfl) ?_
  rintro _ H8 ⟨g8, rfl, v6, ge8, a6⟩
  have nx_H8 := v6.1
  replace f := f.trans v6
  have lt_at8 := GHeap.ltg a6
  replace h := a1.mono f
  replace hin := l.mono f
  replace hin1 := e.mono f
  replace hL := u.mono f
  replace hR := t.mono f
  have w : Cat.At _ g8 0 a p := ⟨Mem.of_get a6, hin⟩
  obtain ⟨b9, b7, c5, c3, b3, b5, c2, b4, c4⟩ := w.get
  have b8 : MemN _ _ _ _ _ := ⟨rfl, w.1⟩
  have b6 := w.2
  refine .R rfl (.boxR rfl sz_27_D rfl) ?_
  rintro _ H9 ⟨g9, rfl, s7, ge9, a7⟩
  have nx_H9 := s7.1
  replace f := f.trans s7
  replace a6 := s7.2 _ _ a6
  have lt_at9 := GHeap.ltg a7
  replace h := a1.mono f
  replace hin := l.mono f
  replace hin1 := e.mono f
  replace hL := u.mono f
  replace hR := t.mono f
  clear w b9 b7 c5 c3 b3 b5 c2 b4 c4 b8 b6
  have w : Cat.At _ g8 0 a p := ⟨Mem.of_get a6, hin⟩
  obtain ⟨b9, b7, c5, c3, b3, b5, c2, b4, c4⟩ := w.get
  have b8 : MemN _ _ _ _ _ := ⟨rfl, w.1⟩
  have b6 := w.2
  have y : Cat.At _ g9 0 b q := ⟨Mem.of_get a7, hin1⟩
  obtain ⟨d2, d4, d6, d1, c6, d7, c9, d3, d5⟩ := y.get
  have d8 : MemN _ _ _ _ _ := ⟨rfl, y.1⟩
  have c8 := y.2
  refine .R rfl (.allocR rfl ze_27_E rfl) ?_
  rintro _ H12 ⟨l6, rfl, q1, ge12, a3⟩
  have nx_H12 := q1.1
  replace f := f.trans q1
  replace a6 := q1.2 _ _ a6
  replace a7 := q1.2 _ _ a7
  have lt_at12 := GHeap.ltg a3
  replace h := a1.mono f
  replace hin := l.mono f
  replace hin1 := e.mono f
  replace hL := u.mono f
  replace hR := t.mono f
  clear w b9 b7 c5 c3 b3 b5 c2 b4 c4 b8 b6
  have w : Cat.At _ g8 0 a p := ⟨Mem.of_get a6, hin⟩
  obtain ⟨b9, b7, c5, c3, b3, b5, c2, b4, c4⟩ := w.get
  have b8 : MemN _ _ _ _ _ := ⟨rfl, w.1⟩
  have b6 := w.2
  clear y d2 d4 d6 d1 c6 d7 c9 d3 d5 d8 c8
  have y : Cat.At _ g9 0 b q := ⟨Mem.of_get a7, hin1⟩
  obtain ⟨d2, d4, d6, d1, c6, d7, c9, d3, d5⟩ := y.get
  have d8 : MemN _ _ _ _ _ := ⟨rfl, y.1⟩
  have c8 := y.2
  refine .nil (w0 _ _ (.seq (fun K2 w3 => .region (.mv rfl ?_))))
  refine .R rfl (.litA rfl sl_24_A ze_2_E rfl rfl rfl rfl) ?_
  rintro _ w2 ⟨p9, rfl, p5, ge22, j7⟩
  have nx_H22 := p5.1
  replace f := f.trans p5
  replace a6 := p5.2 _ _ a6
  replace a7 := p5.2 _ _ a7
  replace a3 := p5.2 _ _ a3
  have lt_at22 := GHeap.ltg j7
  replace h := a1.mono f
  replace hin := l.mono f
  replace hin1 := e.mono f
  replace hL := u.mono f
  replace hR := t.mono f
  clear w b9 b7 c5 c3 b3 b5 c2 b4 c4 b8 b6
  have w : Cat.At _ g8 0 a p := ⟨Mem.of_get a6, hin⟩
  obtain ⟨b9, b7, c5, c3, b3, b5, c2, b4, c4⟩ := w.get
  have b8 : MemN _ _ _ _ _ := ⟨rfl, w.1⟩
  have b6 := w.2
  clear y d2 d4 d6 d1 c6 d7 c9 d3 d5 d8 c8
  have y : Cat.At _ g9 0 b q := ⟨Mem.of_get a7, hin1⟩
  obtain ⟨d2, d4, d6, d1, c6, d7, c9, d3, d5⟩ := y.get
  have d8 : MemN _ _ _ _ _ := ⟨rfl, y.1⟩
  have c8 := y.2
  replace j7 : GHeap.get w2 p9 = some (.row (ints []) 2 true) := j7
  refine .R rfl (.litA rfl sl_24_A ze_2_E rfl rfl rfl rfl) ?_
  rintro _ w1 ⟨q0, rfl, o7, ge23, k8⟩
  have nx_H23 := o7.1
  replace f := f.trans o7
  replace a6 := o7.2 _ _ a6
  replace a7 := o7.2 _ _ a7
  replace a3 := o7.2 _ _ a3
  replace j7 := o7.2 _ _ j7
  have lt_at23 := GHeap.ltg k8
  replace h := a1.mono f
  replace hin := l.mono f
  replace hin1 := e.mono f
  replace hL := u.mono f
  replace hR := t.mono f
  clear w b9 b7 c5 c3 b3 b5 c2 b4 c4 b8 b6
  have w : Cat.At _ g8 0 a p := ⟨Mem.of_get a6, hin⟩
  obtain ⟨b9, b7, c5, c3, b3, b5, c2, b4, c4⟩ := w.get
  have b8 : MemN _ _ _ _ _ := ⟨rfl, w.1⟩
  have b6 := w.2
  clear y d2 d4 d6 d1 c6 d7 c9 d3 d5 d8 c8
  have y : Cat.At _ g9 0 b q := ⟨Mem.of_get a7, hin1⟩
  obtain ⟨d2, d4, d6, d1, c6, d7, c9, d3, d5⟩ := y.get
  have d8 : MemN _ _ _ _ _ := ⟨rfl, y.1⟩
  have c8 := y.2
  replace k8 : GHeap.get w1 q0 = some (.row (ints []) 2 true) := k8
  refine .R rfl (.litA rfl sl_24_A ze_2_E rfl rfl rfl rfl) ?_
  rintro _ x3 ⟨o1, rfl, o3, ge24, e9⟩
  have nx_H24 := o3.1
  replace f := f.trans o3
  replace a6 := o3.2 _ _ a6
  replace a7 := o3.2 _ _ a7
  replace a3 := o3.2 _ _ a3
  replace j7 := o3.2 _ _ j7
  replace k8 := o3.2 _ _ k8
  have lt_at24 := GHeap.ltg e9
  replace h := a1.mono f
  replace hin := l.mono f
  replace hin1 := e.mono f
  replace hL := u.mono f
  replace hR := t.mono f
  clear w b9 b7 c5 c3 b3 b5 c2 b4 c4 b8 b6
  have w : Cat.At _ g8 0 a p := ⟨Mem.of_get a6, hin⟩
  obtain ⟨b9, b7, c5, c3, b3, b5, c2, b4, c4⟩ := w.get
  have b8 : MemN _ _ _ _ _ := ⟨rfl, w.1⟩
  have b6 := w.2
  clear y d2 d4 d6 d1 c6 d7 c9 d3 d5 d8 c8
  have y : Cat.At _ g9 0 b q := ⟨Mem.of_get a7, hin1⟩
  obtain ⟨d2, d4, d6, d1, c6, d7, c9, d3, d5⟩ := y.get
  have d8 : MemN _ _ _ _ _ := ⟨rfl, y.1⟩
  have c8 := y.2
  replace e9 : GHeap.get x3 o1 = some (.row (ints []) 2 true) := e9
  refine .R rfl (.litA rfl sl_25_B ze_24_E rfl rfl rfl rfl) ?_
  rintro _ H25 ⟨n5, rfl, n6, ge25, d9⟩
  have nx_H25 := n6.1
  replace f := f.trans n6
  replace a6 := n6.2 _ _ a6
  replace a7 := n6.2 _ _ a7
  replace a3 := n6.2 _ _ a3
  replace j7 := n6.2 _ _ j7
  replace k8 := n6.2 _ _ k8
  replace e9 := n6.2 _ _ e9
  have lt_at25 := GHeap.ltg d9
  replace h := a1.mono f
  replace hin := l.mono f
  replace hin1 := e.mono f
  replace hL := u.mono f
  replace hR := t.mono f
  clear w b9 b7 c5 c3 b3 b5 c2 b4 c4 b8 b6
  have w : Cat.At _ g8 0 a p := ⟨Mem.of_get a6, hin⟩
  obtain ⟨b9, b7, c5, c3, b3, b5, c2, b4, c4⟩ := w.get
  have b8 : MemN _ _ _ _ _ := ⟨rfl, w.1⟩
  have b6 := w.2
  clear y d2 d4 d6 d1 c6 d7 c9 d3 d5 d8 c8
  have y : Cat.At _ g9 0 b q := ⟨Mem.of_get a7, hin1⟩
  obtain ⟨d2, d4, d6, d1, c6, d7, c9, d3, d5⟩ := y.get
  have d8 : MemN _ _ _ _ _ := ⟨rfl, y.1⟩
  have c8 := y.2
  refine .q rfl (.build bt_27_Mb rfl rfl rfl) ?_
  refine .R rfl (.allocR rfl ze_27_E rfl) ?_
  rintro _ H13 ⟨m2, rfl, n3, ge13, u3⟩
  have nx_H13 := n3.1
  replace f := f.trans n3
  replace a6 := n3.2 _ _ a6
  replace a7 := n3.2 _ _ a7
  replace a3 := n3.2 _ _ a3
  replace j7 := n3.2 _ _ j7
  replace k8 := n3.2 _ _ k8
  replace e9 := n3.2 _ _ e9
  replace d9 := n3.2 _ _ d9
  have lt_at13 := GHeap.ltg u3
  replace h := a1.mono f
  replace hin := l.mono f
  replace hin1 := e.mono f
  replace hL := u.mono f
  replace hR := t.mono f
  clear w b9 b7 c5 c3 b3 b5 c2 b4 c4 b8 b6
  have w : Cat.At _ g8 0 a p := ⟨Mem.of_get a6, hin⟩
  obtain ⟨b9, b7, c5, c3, b3, b5, c2, b4, c4⟩ := w.get
  have b8 : MemN _ _ _ _ _ := ⟨rfl, w.1⟩
  have b6 := w.2
  clear y d2 d4 d6 d1 c6 d7 c9 d3 d5 d8 c8
  have y : Cat.At _ g9 0 b q := ⟨Mem.of_get a7, hin1⟩
  obtain ⟨d2, d4, d6, d1, c6, d7, c9, d3, d5⟩ := y.get
  have d8 : MemN _ _ _ _ _ := ⟨rfl, y.1⟩
  have c8 := y.2
  refine .r0 rfl rfl (.fillA rfl sz_27_D rfl rfl rfl rfl) ?_
  rintro _ p4 ⟨rfl, h7, a4⟩
  have nx_H1007 := h7.nx
  replace f := f.st h7 (fun k hk => ⟨by omega, trivial⟩)
  have e1 : NE g8 m2 := .a
  replace a6 := h7.s a6 e1.ne
  have e0 : NE g9 m2 := .a
  replace a7 := h7.s a7 e0.ne
  have a9 : NE l6 m2 := .a
  replace a3 := h7.s a3 a9.ne
  replace j7 := h7.s j7
  replace k8 := h7.s k8
  have h0 : NE o1 m2 := .a
  replace e9 := h7.s e9 h0.ne
  have e5 : NE n5 m2 := .a
  replace d9 := h7.s d9 e5.ne
  have lt_at1007 := GHeap.ltg a4
  replace h := a1.mono f
  replace hin := l.mono f
  replace hin1 := e.mono f
  replace hL := u.mono f
  replace hR := t.mono f
  clear w b9 b7 c5 c3 b3 b5 c2 b4 c4 b8 b6
  have w : Cat.At _ g8 0 a p := ⟨Mem.of_get a6, hin⟩
  obtain ⟨b9, b7, c5, c3, b3, b5, c2, b4, c4⟩ := w.get
  have b8 : MemN _ _ _ _ _ := ⟨rfl, w.1⟩
  have b6 := w.2
  clear y d2 d4 d6 d1 c6 d7 c9 d3 d5 d8 c8
  have y : Cat.At _ g9 0 b q := ⟨Mem.of_get a7, hin1⟩
  obtain ⟨d2, d4, d6, d1, c6, d7, c9, d3, d5⟩ := y.get
  have d8 : MemN _ _ _ _ _ := ⟨rfl, y.1⟩
  have c8 := y.2
  have o : MemN _ _ _ _ _ := ⟨rfl, Mem.of_get a4⟩
  refine .nil (w3 _ _ (.seq (fun K3 w6 => .seq (fun K4 w5 => .region (.mv rfl (.nil (w5 _ _ ?_)))))))
  refine .block ?_
  refine .loopR (σ := Nat × List Int × List Int × Nat × Nat) [(0, some _), (1, some _), (4, some _), (5, some _), (8, some _), (9, some _), (12, some _), (13, some _)] (fun (i, ss, ts, gLF, gLT) => [(14, some (.int .i64 (i : Int)))]) (fun (i, ss, ts, gLF, gLT) H' => St [p9, q0, m2] p4 H' ∧ H'.get gLF = some (.row (ints ss) 2 true) ∧ PL gLF p9 p4.next ∧ H'.get gLT = some (.row (ints ts) 2 true) ∧ PL gLT q0 p4.next ∧ H'.get m2 = some (.row ([.int .i64 (n : Int), .slice (some ⟨gLF, 0, none⟩) ss.length ss.length, .slice (some ⟨gLT, 0, none⟩) ts.length ts.length, .slice (some ⟨o1, 0, none⟩) 0 0, .slice (some ⟨n5, 0, none⟩) 0 0]) 27 true) ∧ gLF ≠ gLT ∧ gLF ≠ m2 ∧ gLT ≠ m2 ∧ i ≤ A.length ∧ ss.length = i ∧ ts.length = i) (fun (i, ss, ts, gLF, gLT) => A.length - i) ((0, [], [], p9, q0)) ⟨rfl, rfl, rfl, rfl, rfl, rfl, rfl, rfl, trivial⟩ ⟨rfl, trivial⟩ ?_ ?_
  ·
   refine ⟨.refl _ _, by first | assumption | exact j7 | simpa using j7, ⟨.inl rfl⟩, by first | assumption | exact k8 | simpa using k8, ⟨.inl rfl⟩, by first | assumption | exact a4 | simpa using a4, by omega, by omega, by omega, ?_⟩
   exact ⟨by omega, rfl, rfl⟩
  rintro ⟨i, ss, ts, gLF, gLT⟩ HL1 ⟨g2, a2, i7, a0, i8, d, s0, o0, m8, hI⟩ KL1 u9
  refine .forget (fr' := [(14, some (.int .i64 (i : Int))), (0, some _), (1, some _), (4, some _), (5, some _), (8, some _), (9, some _), (12, some _), (13, some _)]) ⟨rfl, rfl, rfl, rfl, rfl, rfl, rfl, rfl, rfl, trivial⟩ ?_
  have q2 : H.next ≤ gLF := i7.ge (by omega) (by omega)
  have q4 : H.next ≤ gLT := i8.ge (by omega) (by omega)
  have nx_HL1 := g2.nx
  replace f := f.st g2 (fun k hk => ⟨by omega, by omega, by omega, trivial⟩)
  have m9 : NE g8 p9 := .a
  have n1 : NE g8 q0 := .a
  replace a6 := g2.same _ _ ⟨m9.ne, n1.ne, e1.ne, trivial⟩ a6
  have n0 : NE g9 p9 := .a
  have m6 : NE g9 q0 := .a
  replace a7 := g2.same _ _ ⟨n0.ne, m6.ne, e0.ne, trivial⟩ a7
  have h4 : NE l6 p9 := .a
  have h6 : NE l6 q0 := .a
  replace a3 := g2.same _ _ ⟨h4.ne, h6.ne, a9.ne, trivial⟩ a3
  have j2 : NE o1 p9 := .a
  have j9 : NE o1 q0 := .a
  replace e9 := g2.same _ _ ⟨j2.ne, j9.ne, h0.ne, trivial⟩ e9
  have j1 : NE n5 p9 := .a
  have i9 : NE n5 q0 := .a
  replace d9 := g2.same _ _ ⟨j1.ne, i9.ne, e5.ne, trivial⟩ d9
  have lt_at_LF := GHeap.ltg a2
  have lt_at_LT := GHeap.ltg a0
  have l7 := GHeap.ltg d
  replace h := a1.mono f
  replace hin := l.mono f
  replace hin1 := e.mono f
  replace hL := u.mono f
  replace hR := t.mono f
  clear w b9 b7 c5 c3 b3 b5 c2 b4 c4 b8 b6
  have w : Cat.At _ g8 0 a p := ⟨Mem.of_get a6, hin⟩
  obtain ⟨b9, b7, c5, c3, b3, b5, c2, b4, c4⟩ := w.get
  have b8 : MemN _ _ _ _ _ := ⟨rfl, w.1⟩
  have b6 := w.2
  clear y d2 d4 d6 d1 c6 d7 c9 d3 d5 d8 c8
  have y : Cat.At _ g9 0 b q := ⟨Mem.of_get a7, hin1⟩
  obtain ⟨d2, d4, d6, d1, c6, d7, c9, d3, d5⟩ := y.get
  have d8 : MemN _ _ _ _ _ := ⟨rfl, y.1⟩
  have c8 := y.2
  clear o
  have o : MemN _ _ _ _ _ := ⟨rfl, Mem.of_get a4⟩
  obtain ⟨hi, hsl, htl⟩ := hI
  refine .seq (fun K5 x2 => .seq (fun K6 v7 => .region (.mv rfl (.mv rfl (.q rfl (.len sl_25_B rfl) (.q rfl (.cmp rfl rfl rfl) (.nil (v7 _ _ ?_))))))))
  refine .cond rfl (fun t4 => ?_) (fun t4 => ?_)
  ·
   simp only [sps] at t4
   have y1 := hY i (by omega)
   have u1 := h.2 i (by omega)
   refine .skip ?_
   refine x2 _ _ (.seq (fun K7 w8 => ?_))
   refine .block ?_
   refine .seq (fun K8 x1 => ?_)
   refine .regionD mo_B (.q 0 (.q 1 (.q 2 (.q 3 (.q 4 (.q 5 (.q 6 (.q 7 (.c 8 1 (.c 9 0 (.q 10 (.c 11 0 (.done))))))))))))) (by kernel_rfl) ?_
   refine .q rfl (.fieldAddr fo_27_1_B rfl) ?_
   refine .q rfl (.load on_24_B rfl (by first | assumption | exact Mem.of_get d 1 _ rfl)) ?_
   refine .mv rfl rfl (.mv rfl rfl ?_)
   refine .q rfl (.idxN sl_25_B (Intss.sl (by assumption)) rfl rfl (by omega)) ?_
   refine .q rfl (.loadR on_24_B (by assumption) rfl (by omega)) ?_
   refine .q rfl (.idxN (j := 0) sl_24_A (by assumption) rfl rfl (by omega)) ?_
   refine .q rfl (.loadI on_2_A (by assumption) rfl (by omega)) ?_
   refine .c1 rfl rfl rfl rfl (.litA rfl sl_24_A ze_2_E rfl rfl rfl rfl) ?_
   rintro _ H41 ⟨v9, rfl, l1, ge41, l8⟩
   have o6 := l1
   refine ⟨o6, ?_⟩
   have nx_H41 := l1.1
   replace f := f.trans l1
   replace g2 := g2.le l1
   replace a6 := l1.2 _ _ a6
   replace a7 := l1.2 _ _ a7
   replace a3 := l1.2 _ _ a3
   replace e9 := l1.2 _ _ e9
   replace d9 := l1.2 _ _ d9
   replace a2 := l1.2 _ _ a2
   replace a0 := l1.2 _ _ a0
   replace d := l1.2 _ _ d
   have lt_at41 := GHeap.ltg l8
   replace h := a1.mono f
   replace hin := l.mono f
   replace hin1 := e.mono f
   replace hL := u.mono f
   replace hR := t.mono f
   clear w b9 b7 c5 c3 b3 b5 c2 b4 c4 b8 b6
   have w : Cat.At _ g8 0 a p := ⟨Mem.of_get a6, hin⟩
   obtain ⟨b9, b7, c5, c3, b3, b5, c2, b4, c4⟩ := w.get
   have b8 : MemN _ _ _ _ _ := ⟨rfl, w.1⟩
   have b6 := w.2
   clear y d2 d4 d6 d1 c6 d7 c9 d3 d5 d8 c8
   have y : Cat.At _ g9 0 b q := ⟨Mem.of_get a7, hin1⟩
   obtain ⟨d2, d4, d6, d1, c6, d7, c9, d3, d5⟩ := y.get
   have d8 : MemN _ _ _ _ _ := ⟨rfl, y.1⟩
   have c8 := y.2
   clear o
   have o : MemN _ _ _ _ _ := ⟨rfl, Mem.of_get a4⟩
   clear u1
   have u1 := h.2 i (by omega)
   refine .c0 rfl rfl rfl rfl (.appendI rfl sl_24_A ze_2_E rfl by_2_E sl_24_A rfl rfl (by assumption) (by assumption) (by first | omega | (simp <;> omega)) (by omega) (by omega)) ?_
   rintro _ H42 ⟨v5, rfl, m1, ge42, n4⟩
   have nx_H42 := m1.nx
   replace f := f.st m1 (fun k hk => ⟨by omega, trivial⟩)
   replace g2 := g2.sP m1
   replace a6 := m1.same _ _ ⟨(i7.ne m9.ne (by omega)), trivial⟩ a6
   replace a7 := m1.same _ _ ⟨(i7.ne n0.ne (by omega)), trivial⟩ a7
   have f4 : NE l6 gLF := ⟨i7.ne h4.ne (by omega)⟩
   replace a3 := m1.s a3 f4.ne
   have h8 : NE o1 gLF := ⟨i7.ne j2.ne (by omega)⟩
   replace e9 := m1.s e9 h8.ne
   have i0 : NE n5 gLF := ⟨i7.ne j1.ne (by omega)⟩
   replace d9 := m1.s d9 i0.ne
   replace a0 := m1.same _ _ ⟨(Ne.symm s0), trivial⟩ a0
   replace d := m1.same _ _ ⟨(Ne.symm o0), trivial⟩ d
   replace l8 := m1.s l8
   have lt_at42 := GHeap.ltg n4
   replace h := a1.mono f
   replace hin := l.mono f
   replace hin1 := e.mono f
   replace hL := u.mono f
   replace hR := t.mono f
   clear w b9 b7 c5 c3 b3 b5 c2 b4 c4 b8 b6
   have w : Cat.At _ g8 0 a p := ⟨Mem.of_get a6, hin⟩
   obtain ⟨b9, b7, c5, c3, b3, b5, c2, b4, c4⟩ := w.get
   have b8 : MemN _ _ _ _ _ := ⟨rfl, w.1⟩
   have b6 := w.2
   clear y d2 d4 d6 d1 c6 d7 c9 d3 d5 d8 c8
   have y : Cat.At _ g9 0 b q := ⟨Mem.of_get a7, hin1⟩
   obtain ⟨d2, d4, d6, d1, c6, d7, c9, d3, d5⟩ := y.get
   have d8 : MemN _ _ _ _ _ := ⟨rfl, y.1⟩
   have c8 := y.2
   clear o
   have o : MemN _ _ _ _ _ := ⟨rfl, Mem.of_get a4⟩
   clear u1
   have u1 := h.2 i (by omega)
   refine .q rfl (.fieldAddr fo_27_1_B rfl) ?_
   refine .r0 rfl rfl rfl (.storeR rfl sz_24_E rfl rfl rfl (by assumption) (by first | exact Nat.le_of_ble_eq_true rfl | (simp; done) | (simp <;> omega))) ?_
   rintro _ H5011 ⟨rfl, f3, j0⟩
   have nx_H5011 := f3.nx
   replace f := f.st f3 (fun k hk => ⟨by omega, trivial⟩)
   replace g2 := g2.sA f3
   replace a6 := f3.s a6 e1.ne
   replace a7 := f3.s a7 e0.ne
   replace a3 := f3.s a3 a9.ne
   replace e9 := f3.s e9 h0.ne
   replace d9 := f3.s d9 e5.ne
   replace a0 := f3.same _ _ ⟨m8, trivial⟩ a0
   have l9 : NE v9 m2 := .a
   replace l8 := f3.s l8 l9.ne
   have m0 : NE v5 m2 := .a
   replace n4 := f3.s n4 m0.ne
   have lt_at5011 := GHeap.ltg j0
   replace h := a1.mono f
   replace hin := l.mono f
   replace hin1 := e.mono f
   replace hL := u.mono f
   replace hR := t.mono f
   clear w b9 b7 c5 c3 b3 b5 c2 b4 c4 b8 b6
   have w : Cat.At _ g8 0 a p := ⟨Mem.of_get a6, hin⟩
   obtain ⟨b9, b7, c5, c3, b3, b5, c2, b4, c4⟩ := w.get
   have b8 : MemN _ _ _ _ _ := ⟨rfl, w.1⟩
   have b6 := w.2
   clear y d2 d4 d6 d1 c6 d7 c9 d3 d5 d8 c8
   have y : Cat.At _ g9 0 b q := ⟨Mem.of_get a7, hin1⟩
   obtain ⟨d2, d4, d6, d1, c6, d7, c9, d3, d5⟩ := y.get
   have d8 : MemN _ _ _ _ _ := ⟨rfl, y.1⟩
   have c8 := y.2
   clear o
   have o : MemN _ _ _ _ _ := ⟨rfl, Mem.of_get a4⟩
   clear u1
   have u1 := h.2 i (by omega)
   try simp only [Nat.zero_add, List.set_cons_succ, List.set_cons_zero] at j0
   refine .done ?_
   refine x1 _ _ ?_
   refine .regionD mo_B (.q 0 (.q 1 (.q 2 (.q 3 (.q 4 (.q 5 (.q 6 (.q 7 (.c 8 1 (.c 9 0 (.q 10 (.c 11 0 (.done))))))))))))) (by kernel_rfl) ?_
   refine .q rfl (.fieldAddr fo_27_2_B rfl) ?_
   refine .q rfl (.load on_24_B rfl (by first | assumption | exact Mem.of_get j0 2 _ rfl)) ?_
   refine .mv rfl rfl (.mv rfl rfl ?_)
   refine .q rfl (.idxN sl_25_B (Intss.sl (by assumption)) rfl rfl (by omega)) ?_
   refine .q rfl (.loadR on_24_B (by assumption) rfl (by omega)) ?_
   refine .q rfl (.idxN (j := 1) sl_24_A (by assumption) rfl rfl (by omega)) ?_
   refine .q rfl (.loadI on_2_A (by assumption) rfl (by omega)) ?_
   refine .c1 rfl rfl rfl rfl (.litA rfl sl_24_A ze_2_E rfl rfl rfl rfl) ?_
   rintro _ H52 ⟨g52, rfl, k4, ge52, p6⟩
   have o6 := k4
   refine ⟨o6, ?_⟩
   have nx_H52 := k4.1
   replace f := f.trans k4
   replace g2 := g2.le k4
   replace a6 := k4.2 _ _ a6
   replace a7 := k4.2 _ _ a7
   replace a3 := k4.2 _ _ a3
   replace e9 := k4.2 _ _ e9
   replace d9 := k4.2 _ _ d9
   replace a0 := k4.2 _ _ a0
   replace l8 := k4.2 _ _ l8
   replace n4 := k4.2 _ _ n4
   replace j0 := k4.2 _ _ j0
   have lt_at52 := GHeap.ltg p6
   replace h := a1.mono f
   replace hin := l.mono f
   replace hin1 := e.mono f
   replace hL := u.mono f
   replace hR := t.mono f
   clear w b9 b7 c5 c3 b3 b5 c2 b4 c4 b8 b6
   have w : Cat.At _ g8 0 a p := ⟨Mem.of_get a6, hin⟩
   obtain ⟨b9, b7, c5, c3, b3, b5, c2, b4, c4⟩ := w.get
   have b8 : MemN _ _ _ _ _ := ⟨rfl, w.1⟩
   have b6 := w.2
   clear y d2 d4 d6 d1 c6 d7 c9 d3 d5 d8 c8
   have y : Cat.At _ g9 0 b q := ⟨Mem.of_get a7, hin1⟩
   obtain ⟨d2, d4, d6, d1, c6, d7, c9, d3, d5⟩ := y.get
   have d8 : MemN _ _ _ _ _ := ⟨rfl, y.1⟩
   have c8 := y.2
   clear o
   have o : MemN _ _ _ _ _ := ⟨rfl, Mem.of_get a4⟩
   clear u1
   have u1 := h.2 i (by omega)
   refine .c0 rfl rfl rfl rfl (.appendI rfl sl_24_A ze_2_E rfl by_2_E sl_24_A rfl rfl (by assumption) (by assumption) (by first | omega | (simp <;> omega)) (by omega) (by omega)) ?_
   rintro _ H53 ⟨v8, rfl, l2, ge53, q7⟩
   have nx_H53 := l2.nx
   replace f := f.st l2 (fun k hk => ⟨by omega, trivial⟩)
   replace g2 := g2.sP l2
   replace a6 := l2.same _ _ ⟨(i8.ne n1.ne (by omega)), trivial⟩ a6
   replace a7 := l2.same _ _ ⟨(i8.ne m6.ne (by omega)), trivial⟩ a7
   have f7 : NE l6 gLT := ⟨i8.ne h6.ne (by omega)⟩
   replace a3 := l2.s a3 f7.ne
   have g7 : NE o1 gLT := ⟨i8.ne j9.ne (by omega)⟩
   replace e9 := l2.s e9 g7.ne
   have h2 : NE n5 gLT := ⟨i8.ne i9.ne (by omega)⟩
   replace d9 := l2.s d9 h2.ne
   replace l8 := l2.s l8
   replace n4 := l2.s n4
   replace j0 := l2.same _ _ ⟨(Ne.symm m8), trivial⟩ j0
   replace p6 := l2.s p6
   have lt_at53 := GHeap.ltg q7
   replace h := a1.mono f
   replace hin := l.mono f
   replace hin1 := e.mono f
   replace hL := u.mono f
   replace hR := t.mono f
   clear w b9 b7 c5 c3 b3 b5 c2 b4 c4 b8 b6
   have w : Cat.At _ g8 0 a p := ⟨Mem.of_get a6, hin⟩
   obtain ⟨b9, b7, c5, c3, b3, b5, c2, b4, c4⟩ := w.get
   have b8 : MemN _ _ _ _ _ := ⟨rfl, w.1⟩
   have b6 := w.2
   clear y d2 d4 d6 d1 c6 d7 c9 d3 d5 d8 c8
   have y : Cat.At _ g9 0 b q := ⟨Mem.of_get a7, hin1⟩
   obtain ⟨d2, d4, d6, d1, c6, d7, c9, d3, d5⟩ := y.get
   have d8 : MemN _ _ _ _ _ := ⟨rfl, y.1⟩
   have c8 := y.2
   clear o
   have o : MemN _ _ _ _ _ := ⟨rfl, Mem.of_get a4⟩
   clear u1
   have u1 := h.2 i (by omega)
   refine .q rfl (.fieldAddr fo_27_2_B rfl) ?_
   refine .r0 rfl rfl rfl (.storeR rfl sz_24_E rfl rfl rfl (by assumption) (by first | exact Nat.le_of_ble_eq_true rfl | (simp; done) | (simp <;> omega))) ?_
   rintro _ H6011 ⟨rfl, f0, p1⟩
   have nx_H6011 := f0.nx
   replace f := f.st f0 (fun k hk => ⟨by omega, trivial⟩)
   replace g2 := g2.sA f0
   replace a6 := f0.s a6 e1.ne
   replace a7 := f0.s a7 e0.ne
   replace a3 := f0.s a3 a9.ne
   replace e9 := f0.s e9 h0.ne
   replace d9 := f0.s d9 e5.ne
   replace l8 := f0.s l8 l9.ne
   replace n4 := f0.s n4 m0.ne
   replace p6 := f0.s p6
   replace q7 := f0.s q7
   have lt_at6011 := GHeap.ltg p1
   replace h := a1.mono f
   replace hin := l.mono f
   replace hin1 := e.mono f
   replace hL := u.mono f
   replace hR := t.mono f
   clear w b9 b7 c5 c3 b3 b5 c2 b4 c4 b8 b6
   have w : Cat.At _ g8 0 a p := ⟨Mem.of_get a6, hin⟩
   obtain ⟨b9, b7, c5, c3, b3, b5, c2, b4, c4⟩ := w.get
   have b8 : MemN _ _ _ _ _ := ⟨rfl, w.1⟩
   have b6 := w.2
   clear y d2 d4 d6 d1 c6 d7 c9 d3 d5 d8 c8
   have y : Cat.At _ g9 0 b q := ⟨Mem.of_get a7, hin1⟩
   obtain ⟨d2, d4, d6, d1, c6, d7, c9, d3, d5⟩ := y.get
   have d8 : MemN _ _ _ _ _ := ⟨rfl, y.1⟩
   have c8 := y.2
   clear o
   have o : MemN _ _ _ _ _ := ⟨rfl, Mem.of_get a4⟩
   clear u1
   have u1 := h.2 i (by omega)
   try simp only [Nat.zero_add, List.set_cons_succ, List.set_cons_zero] at p1
   refine .done ?_
   refine w8 _ _ (.region (.mv rfl ?_))
   refine .q rfl (.add rfl rfl rfl (by omega) (by omega)) ?_
   refine .mv rfl (.nil ?_)
   refine u9 ((i + 1, ss ++ [(A.getD i []).getD 0 0], ts ++ [(A.getD i []).getD 1 0], v5, v8)) _ _ ?_ ?_ ⟨rfl, rfl, rfl, rfl, rfl, rfl, rfl, rfl, rfl, trivial⟩
   ·
    refine ⟨g2, by first | assumption | (rw [List.length_append]; assumption) | (rw [List.length_append, List.length_append]; assumption), by first | assumption | exact ⟨.inr (by omega)⟩ | exact ⟨.inl rfl⟩, by first | assumption | (rw [List.length_append]; assumption) | (rw [List.length_append, List.length_append]; assumption), by first | assumption | exact ⟨.inr (by omega)⟩ | exact ⟨.inl rfl⟩, by first | assumption | (rw [List.length_append]; assumption) | (rw [List.length_append, List.length_append]; assumption), by first | assumption | omega, by first | assumption | omega, by first | assumption | omega, ?_⟩
    exact ⟨by omega, by simp; omega, by simp; omega⟩
   (dsimp only; omega)
  try simp only [sps] at t4
  refine .exit ?_
  refine w6 _ _ (.seq (fun K9 w7 => .seq (fun K10 v3 => .region (.mv rfl (.nil (v3 _ _ ?_))))))
  refine .block ?_
  refine .loopR (σ := Nat × List Int × Nat) [(0, some _), (1, some _), (4, some _), (5, some _), (8, some _), (9, some _), (12, some _), (13, some _)] (fun (x, is, gLI) => [(15, some (.int .i64 (x : Int)))]) (fun (x, is, gLI) H' => St [o1, m2] HL1 H' ∧ H'.get gLI = some (.row (ints is) 2 true) ∧ PL gLI o1 HL1.next ∧ H'.get m2 = some (.row ([.int .i64 (n : Int), .slice (some ⟨gLF, 0, none⟩) ss.length ss.length, .slice (some ⟨gLT, 0, none⟩) ts.length ts.length, .slice (some ⟨gLI, 0, none⟩) is.length is.length, .slice (some ⟨n5, 0, none⟩) 0 0]) 27 true) ∧ gLI ≠ m2 ∧ x ≤ n ∧ is.length = x) (fun (x, is, gLI) => n - x) ((0, [], o1)) ⟨rfl, rfl, rfl, rfl, rfl, rfl, rfl, rfl, trivial⟩ ⟨rfl, trivial⟩ ?_ ?_
  ·
   refine ⟨.refl _ _, by first | assumption | exact e9 | simpa using e9, ⟨.inl rfl⟩, by first | assumption | exact d | simpa using d, by omega, ?_⟩
   exact ⟨by omega, rfl⟩
  rintro ⟨x, is, gLI⟩ HL2 ⟨i3, a5, i6, d, p8, hI⟩ KL2 u6
  refine .forget (fr' := [(15, some (.int .i64 (x : Int))), (0, some _), (1, some _), (4, some _), (5, some _), (8, some _), (9, some _), (12, some _), (13, some _)]) ⟨rfl, rfl, rfl, rfl, rfl, rfl, rfl, rfl, rfl, trivial⟩ ?_
  have q3 : H.next ≤ gLI := i6.ge (by omega) (by omega)
  have nx_HL2 := i3.nx
  replace f := f.st i3 (fun k hk => ⟨by omega, by omega, trivial⟩)
  have m5 : NE g8 o1 := .a
  replace a6 := i3.same _ _ ⟨m5.ne, e1.ne, trivial⟩ a6
  have m4 : NE g9 o1 := .a
  replace a7 := i3.same _ _ ⟨m4.ne, e0.ne, trivial⟩ a7
  have h5 : NE l6 o1 := .a
  replace a3 := i3.same _ _ ⟨h5.ne, a9.ne, trivial⟩ a3
  have j5 : NE n5 o1 := .a
  replace d9 := i3.same _ _ ⟨j5.ne, e5.ne, trivial⟩ d9
  have h8 : NE o1 gLF := ⟨i7.ne j2.ne (by omega)⟩
  replace a2 := i3.same _ _ ⟨(Ne.symm h8.ne), o0, trivial⟩ a2
  have g7 : NE o1 gLT := ⟨i8.ne j9.ne (by omega)⟩
  replace a0 := i3.same _ _ ⟨(Ne.symm g7.ne), m8, trivial⟩ a0
  have lt_at_LI := GHeap.ltg a5
  have l7 := GHeap.ltg d
  replace h := a1.mono f
  replace hin := l.mono f
  replace hin1 := e.mono f
  replace hL := u.mono f
  replace hR := t.mono f
  clear w b9 b7 c5 c3 b3 b5 c2 b4 c4 b8 b6
  have w : Cat.At _ g8 0 a p := ⟨Mem.of_get a6, hin⟩
  obtain ⟨b9, b7, c5, c3, b3, b5, c2, b4, c4⟩ := w.get
  have b8 : MemN _ _ _ _ _ := ⟨rfl, w.1⟩
  have b6 := w.2
  clear y d2 d4 d6 d1 c6 d7 c9 d3 d5 d8 c8
  have y : Cat.At _ g9 0 b q := ⟨Mem.of_get a7, hin1⟩
  obtain ⟨d2, d4, d6, d1, c6, d7, c9, d3, d5⟩ := y.get
  have d8 : MemN _ _ _ _ _ := ⟨rfl, y.1⟩
  have c8 := y.2
  clear o
  have o : MemN _ _ _ _ _ := ⟨rfl, Mem.of_get a4⟩
  obtain ⟨hx, hil⟩ := hI
  refine .seq (fun K11 v2 => .seq (fun K12 u0 => .region (.mv rfl (.mv rfl (.q rfl (.cmp rfl rfl rfl) (.nil (u0 _ _ ?_)))))))
  refine .cond rfl (fun t2 => ?_) (fun t2 => ?_)
  ·
   simp only [sps] at t2
   have z1 := hLi x (by omega)
   have z2 := hRi x (by omega)
   refine .skip ?_
   refine v2 _ _ (.seq (fun K13 t8 => ?_))
   refine .block ?_
   refine .regionD mo_B (.q 0 (.q 1 (.q 2 (.q 3 (.q 4 (.q 5 (.q 6 (.q 7 (.q 8 (.q 9 (.q 10 (.q 11 (.q 12 (.q 13 (.q 14 (.q 15 (.q 16 (.q 17 (.q 18 (.q 19 (.q 20 (.c 21 1 (.c 22 1 (.c 23 1 (.c 24 0 (.q 25 (.c 26 0 (.done)))))))))))))))))))))))))))) (by kernel_rfl) ?_
   refine .q rfl (.fieldAddr fo_27_3_B rfl) ?_
   refine .q rfl (.load on_24_B rfl (by first | assumption | exact Mem.of_get d 3 _ rfl)) ?_
   refine .mv rfl rfl (.mv rfl rfl (.mv rfl rfl (.q rfl (.fieldAddr fo_27_3_B rfl) ?_)))
   refine .q rfl (.load on_24_B rfl (by first | assumption | exact Mem.of_get a6 3 _ rfl)) ?_
   refine .mv rfl rfl (.mv rfl rfl ?_)
   refine .q rfl (.idxN sl_24_A (by assumption) rfl rfl (by omega)) ?_
   refine .q rfl (.loadI on_2_A (by assumption) rfl (by omega)) ?_
   refine .q rfl (.idx1 sl_24_A (by assumption) rfl rfl (by omega) (by omega)) ?_
   refine .q rfl (.loadI on_2_A (by assumption) rfl (by omega)) ?_
   refine .q rfl (.fieldAddr fo_27_3_B rfl) ?_
   refine .q rfl (.load on_24_B rfl (by first | assumption | exact Mem.of_get a7 3 _ rfl)) ?_
   refine .mv rfl rfl (.mv rfl rfl ?_)
   refine .q rfl (.idxN sl_24_A (by assumption) rfl rfl (by omega)) ?_
   refine .q rfl (.loadI on_2_A (by assumption) rfl (by omega)) ?_
   refine .q rfl (.idx1 sl_24_A (by assumption) rfl rfl (by omega) (by omega)) ?_
   refine .q rfl (.loadI on_2_A (by assumption) rfl (by omega)) ?_
   refine .c1 rfl rfl rfl rfl (.litA rfl sl_24_A ze_2_E rfl rfl rfl rfl) ?_
   rintro _ H81 ⟨g81, rfl, l5, ge81, o2⟩
   have o6 := l5
   refine ⟨o6, ?_⟩
   have nx_H81 := l5.1
   replace f := f.trans l5
   replace i3 := i3.le l5
   replace a6 := l5.2 _ _ a6
   replace a7 := l5.2 _ _ a7
   replace a3 := l5.2 _ _ a3
   replace d9 := l5.2 _ _ d9
   replace a2 := l5.2 _ _ a2
   replace a0 := l5.2 _ _ a0
   replace a5 := l5.2 _ _ a5
   replace d := l5.2 _ _ d
   have lt_at81 := GHeap.ltg o2
   replace h := a1.mono f
   replace hin := l.mono f
   replace hin1 := e.mono f
   replace hL := u.mono f
   replace hR := t.mono f
   clear w b9 b7 c5 c3 b3 b5 c2 b4 c4 b8 b6
   have w : Cat.At _ g8 0 a p := ⟨Mem.of_get a6, hin⟩
   obtain ⟨b9, b7, c5, c3, b3, b5, c2, b4, c4⟩ := w.get
   have b8 : MemN _ _ _ _ _ := ⟨rfl, w.1⟩
   have b6 := w.2
   clear y d2 d4 d6 d1 c6 d7 c9 d3 d5 d8 c8
   have y : Cat.At _ g9 0 b q := ⟨Mem.of_get a7, hin1⟩
   obtain ⟨d2, d4, d6, d1, c6, d7, c9, d3, d5⟩ := y.get
   have d8 : MemN _ _ _ _ _ := ⟨rfl, y.1⟩
   have c8 := y.2
   clear o
   have o : MemN _ _ _ _ _ := ⟨rfl, Mem.of_get a4⟩
   refine .call1 rfl rfl rfl rfl rfl @Try.call210 rfl ((l09Find_c (by assumption) (Ints.of_get (xs := [(x : Int), (x : Int), a.idn.getD (L.getD x 0).toNat 0, b.idn.getD (R.getD x 0).toNat 0]) (by assumption)) (by omega) (fun i => by have := hA4 i; omega) (by show 4 ≤ 1048576; omega))) ?_
   rintro _ _ ⟨rfl, rfl⟩
   refine ⟨(by assumption), ?_⟩
   refine .c1 rfl rfl rfl rfl (.litA rfl sl_24_A ze_2_E rfl rfl rfl rfl) ?_
   rintro _ H83 ⟨g83, rfl, k3, ge83, p2⟩
   replace o6 := o6.trans k3
   refine ⟨o6, ?_⟩
   have nx_H83 := k3.1
   replace f := f.trans k3
   replace i3 := i3.le k3
   replace a6 := k3.2 _ _ a6
   replace a7 := k3.2 _ _ a7
   replace a3 := k3.2 _ _ a3
   replace d9 := k3.2 _ _ d9
   replace a2 := k3.2 _ _ a2
   replace a0 := k3.2 _ _ a0
   replace a5 := k3.2 _ _ a5
   replace d := k3.2 _ _ d
   replace o2 := k3.2 _ _ o2
   have lt_at83 := GHeap.ltg p2
   replace h := a1.mono f
   replace hin := l.mono f
   replace hin1 := e.mono f
   replace hL := u.mono f
   replace hR := t.mono f
   clear w b9 b7 c5 c3 b3 b5 c2 b4 c4 b8 b6
   have w : Cat.At _ g8 0 a p := ⟨Mem.of_get a6, hin⟩
   obtain ⟨b9, b7, c5, c3, b3, b5, c2, b4, c4⟩ := w.get
   have b8 : MemN _ _ _ _ _ := ⟨rfl, w.1⟩
   have b6 := w.2
   clear y d2 d4 d6 d1 c6 d7 c9 d3 d5 d8 c8
   have y : Cat.At _ g9 0 b q := ⟨Mem.of_get a7, hin1⟩
   obtain ⟨d2, d4, d6, d1, c6, d7, c9, d3, d5⟩ := y.get
   have d8 : MemN _ _ _ _ _ := ⟨rfl, y.1⟩
   have c8 := y.2
   clear o
   have o : MemN _ _ _ _ _ := ⟨rfl, Mem.of_get a4⟩
   refine .c0 rfl rfl rfl rfl (.appendI rfl sl_24_A ze_2_E rfl by_2_E sl_24_A rfl rfl (by assumption) (by assumption) (by first | omega | (simp <;> omega)) (by omega) (by omega)) ?_
   rintro _ H84 ⟨w4, rfl, l4, ge84, q6⟩
   have nx_H84 := l4.nx
   replace f := f.st l4 (fun k hk => ⟨by omega, trivial⟩)
   replace i3 := i3.sP l4
   replace a6 := l4.same _ _ ⟨(i6.ne m5.ne (by omega)), trivial⟩ a6
   replace a7 := l4.same _ _ ⟨(i6.ne m4.ne (by omega)), trivial⟩ a7
   have f5 : NE l6 gLI := ⟨i6.ne h5.ne (by omega)⟩
   replace a3 := l4.s a3 f5.ne
   have h9 : NE n5 gLI := ⟨i6.ne j5.ne (by omega)⟩
   replace d9 := l4.s d9 h9.ne
   replace a2 := l4.same _ _ ⟨(i6.ne (Ne.symm h8.ne) (by omega)), trivial⟩ a2
   replace a0 := l4.same _ _ ⟨(i6.ne (Ne.symm g7.ne) (by omega)), trivial⟩ a0
   replace d := l4.same _ _ ⟨(Ne.symm p8), trivial⟩ d
   replace o2 := l4.s o2
   replace p2 := l4.s p2
   have lt_at84 := GHeap.ltg q6
   replace h := a1.mono f
   replace hin := l.mono f
   replace hin1 := e.mono f
   replace hL := u.mono f
   replace hR := t.mono f
   clear w b9 b7 c5 c3 b3 b5 c2 b4 c4 b8 b6
   have w : Cat.At _ g8 0 a p := ⟨Mem.of_get a6, hin⟩
   obtain ⟨b9, b7, c5, c3, b3, b5, c2, b4, c4⟩ := w.get
   have b8 : MemN _ _ _ _ _ := ⟨rfl, w.1⟩
   have b6 := w.2
   clear y d2 d4 d6 d1 c6 d7 c9 d3 d5 d8 c8
   have y : Cat.At _ g9 0 b q := ⟨Mem.of_get a7, hin1⟩
   obtain ⟨d2, d4, d6, d1, c6, d7, c9, d3, d5⟩ := y.get
   have d8 : MemN _ _ _ _ _ := ⟨rfl, y.1⟩
   have c8 := y.2
   clear o
   have o : MemN _ _ _ _ _ := ⟨rfl, Mem.of_get a4⟩
   refine .q rfl (.fieldAddr fo_27_3_B rfl) ?_
   refine .r0 rfl rfl rfl (.storeR rfl sz_24_E rfl rfl rfl (by assumption) (by first | exact Nat.le_of_ble_eq_true rfl | (simp; done) | (simp <;> omega))) ?_
   rintro _ H10026 ⟨rfl, c7, o5⟩
   have nx_H10026 := c7.nx
   replace f := f.st c7 (fun k hk => ⟨by omega, trivial⟩)
   replace i3 := i3.sA c7
   replace a6 := c7.s a6 e1.ne
   replace a7 := c7.s a7 e0.ne
   replace a3 := c7.s a3 a9.ne
   replace d9 := c7.s d9 e5.ne
   replace a2 := c7.same _ _ ⟨o0, trivial⟩ a2
   replace a0 := c7.same _ _ ⟨m8, trivial⟩ a0
   replace o2 := c7.s o2
   replace p2 := c7.s p2
   replace q6 := c7.s q6
   have lt_at10026 := GHeap.ltg o5
   replace h := a1.mono f
   replace hin := l.mono f
   replace hin1 := e.mono f
   replace hL := u.mono f
   replace hR := t.mono f
   clear w b9 b7 c5 c3 b3 b5 c2 b4 c4 b8 b6
   have w : Cat.At _ g8 0 a p := ⟨Mem.of_get a6, hin⟩
   obtain ⟨b9, b7, c5, c3, b3, b5, c2, b4, c4⟩ := w.get
   have b8 : MemN _ _ _ _ _ := ⟨rfl, w.1⟩
   have b6 := w.2
   clear y d2 d4 d6 d1 c6 d7 c9 d3 d5 d8 c8
   have y : Cat.At _ g9 0 b q := ⟨Mem.of_get a7, hin1⟩
   obtain ⟨d2, d4, d6, d1, c6, d7, c9, d3, d5⟩ := y.get
   have d8 : MemN _ _ _ _ _ := ⟨rfl, y.1⟩
   have c8 := y.2
   clear o
   have o : MemN _ _ _ _ _ := ⟨rfl, Mem.of_get a4⟩
   try simp only [Nat.zero_add, List.set_cons_succ, List.set_cons_zero] at o5
   refine .done ?_
   refine t8 _ _ (.region (.mv rfl ?_))
   refine .q rfl (.add rfl rfl rfl (by omega) (by omega)) ?_
   refine .mv rfl (.nil ?_)
   refine u6 ((x + 1, is ++ [idxLL A [(x : Int), (x : Int), a.idn.getD (L.getD x 0).toNat 0, b.idn.getD (R.getD x 0).toNat 0]], w4)) _ _ ?_ ?_ ⟨rfl, rfl, rfl, rfl, rfl, rfl, rfl, rfl, rfl, trivial⟩
   ·
    refine ⟨i3, by first | assumption | (rw [List.length_append]; assumption), by first | assumption | exact ⟨.inr (by omega)⟩ | exact ⟨.inl rfl⟩, by first | assumption | (rw [List.length_append]; assumption), by first | assumption | omega, ?_⟩
    exact ⟨by omega, by simp; omega⟩
   (dsimp only; omega)
  try simp only [sps] at t2
  refine .exit ?_
  refine w7 _ _ (.seq (fun K14 r4 => .seq (fun K15 u5 => .region (.mv rfl (.nil (u5 _ _ ?_))))))
  refine .block ?_
  refine .loopR (σ := Nat × (Nat → Option Addr) × List (List Int) × Nat) [(1, some _), (8, some _), (9, some _), (12, some _), (13, some _)] (fun (j, rc, cs, gLC) => [(16, some (.int .i64 (j : Int)))]) (fun (j, rc, cs, gLC) H' => St [n5, m2] HL2 H' ∧ H'.get gLC = some (.row ((slsL rc cs)) 24 true) ∧ PL gLC n5 HL2.next ∧ H'.get m2 = some (.row ([.int .i64 (n : Int), .slice (some ⟨gLF, 0, none⟩) ss.length ss.length, .slice (some ⟨gLT, 0, none⟩) ts.length ts.length, .slice (some ⟨gLI, 0, none⟩) is.length is.length, .slice (some ⟨gLC, 0, none⟩) cs.length cs.length]) 27 true) ∧ gLC ≠ m2 ∧ (j ≤ A.length ∧ cs.length = j) ∧ OwnL HL2.next H' 2 rc cs) (fun (j, rc, cs, gLC) => A.length - j) ((0, fun _ => none, [], n5)) ⟨rfl, rfl, rfl, rfl, rfl, trivial⟩ ⟨rfl, trivial⟩ ?_ ?_
  ·
   refine ⟨.refl _ _, by first | assumption | exact d9 | simpa using d9, ⟨.inl rfl⟩, by first | assumption | exact d | simpa using d, by omega, ?_⟩
   exact ⟨⟨by omega, rfl⟩, .nil _ _ _ _⟩
  rintro ⟨j, rc, cs, gLC⟩ HL3 ⟨e3, b0, k2, d, r9, hI⟩ KL3 s8
  refine .forget (fr' := [(16, some (.int .i64 (j : Int))), (1, some _), (8, some _), (9, some _), (12, some _), (13, some _)]) ⟨rfl, rfl, rfl, rfl, rfl, rfl, trivial⟩ ?_
  have q5 : H.next ≤ gLC := k2.ge (by omega) (by omega)
  have nx_HL3 := e3.nx
  replace f := f.st e3 (fun k hk => ⟨by omega, by omega, trivial⟩)
  have m3 : NE g8 n5 := .a
  replace a6 := e3.same _ _ ⟨m3.ne, e1.ne, trivial⟩ a6
  have m7 : NE g9 n5 := .a
  replace a7 := e3.same _ _ ⟨m7.ne, e0.ne, trivial⟩ a7
  have g5 : NE l6 n5 := .a
  replace a3 := e3.same _ _ ⟨g5.ne, a9.ne, trivial⟩ a3
  have i0 : NE n5 gLF := ⟨i7.ne j1.ne (by omega)⟩
  replace a2 := e3.same _ _ ⟨(Ne.symm i0.ne), o0, trivial⟩ a2
  have h2 : NE n5 gLT := ⟨i8.ne i9.ne (by omega)⟩
  replace a0 := e3.same _ _ ⟨(Ne.symm h2.ne), m8, trivial⟩ a0
  have h9 : NE n5 gLI := ⟨i6.ne j5.ne (by omega)⟩
  replace a5 := e3.same _ _ ⟨(Ne.symm h9.ne), p8, trivial⟩ a5
  have lt_at_LC := GHeap.ltg b0
  have l7 := GHeap.ltg d
  replace h := a1.mono f
  replace hin := l.mono f
  replace hin1 := e.mono f
  replace hL := u.mono f
  replace hR := t.mono f
  clear w b9 b7 c5 c3 b3 b5 c2 b4 c4 b8 b6
  have w : Cat.At _ g8 0 a p := ⟨Mem.of_get a6, hin⟩
  obtain ⟨b9, b7, c5, c3, b3, b5, c2, b4, c4⟩ := w.get
  have b8 : MemN _ _ _ _ _ := ⟨rfl, w.1⟩
  have b6 := w.2
  clear y d2 d4 d6 d1 c6 d7 c9 d3 d5 d8 c8
  have y : Cat.At _ g9 0 b q := ⟨Mem.of_get a7, hin1⟩
  obtain ⟨d2, d4, d6, d1, c6, d7, c9, d3, d5⟩ := y.get
  have d8 : MemN _ _ _ _ _ := ⟨rfl, y.1⟩
  have c8 := y.2
  clear o
  have o : MemN _ _ _ _ _ := ⟨rfl, Mem.of_get a4⟩
  have rk := St.refl [gLC, m2] HL3
  obtain ⟨⟨hj, hcl⟩, hO⟩ := hI
  have hatC := b0
  have r1 := d
  have hfl : (slsL rc cs).length = cs.length := length_slsL _ _
  refine .seq (fun K16 t3 => .seq (fun K17 r2 => .region (.mv rfl (.mv rfl (.q rfl (.len sl_25_B rfl) (.q rfl (.cmp rfl rfl rfl) (.mv rfl ?_)))))))
  refine .split (fun v1 => ?_) (fun v1 => ?_)
  ·
   simp only [sps] at v1
   have y2 := hY j (by omega)
   have u1 := h.2 j (by omega)
   refine .qg rfl (.loadM ag_27_D rfl ⟨rfl, Mem.of_get d⟩) ?_
   have hcc := l02Fits_c (c := ⟨(n : Int), ss, ts, is, cs⟩) (p := ⟨some ⟨gLF, 0, none⟩, some ⟨gLT, 0, none⟩, some ⟨gLI, 0, none⟩, some ⟨gLC, 0, none⟩, rc⟩) ⟨Ints.of_get a2, Ints.of_get a0, Ints.of_get a5, (hO.low (b' := 0) (Nat.zero_le _)).intss b0 (Nat.zero_le _)⟩
   refine .callQg rfl rfl rfl rfl rfl rfl @Try.call137 rfl (hcc) ?_
   refine .q rfl (.pickT rfl rfl) (.nil (r2 _ _ ?_))
   refine .cond rfl (fun t9 => ?_) (fun t9 => ?_)
   ·
    try simp only [sps] at t9
    refine .skip ?_
    refine t3 _ _ (.seq (fun K18 s2 => ?_))
    refine .block ?_
    refine .seq (fun K19 s9 => .region ?_)
    refine .R rfl (.litA rfl sl_24_A ze_2_E rfl rfl rfl rfl) ?_
    rintro _ t1 ⟨o8, rfl, l3, ge96, p7⟩
    have nx_H96 := l3.1
    replace f := f.trans l3
    replace e3 := e3.le l3
    replace rk := rk.le l3
    replace a6 := l3.2 _ _ a6
    replace a7 := l3.2 _ _ a7
    replace a3 := l3.2 _ _ a3
    replace a2 := l3.2 _ _ a2
    replace a0 := l3.2 _ _ a0
    replace a5 := l3.2 _ _ a5
    replace b0 := l3.2 _ _ b0
    replace d := l3.2 _ _ d
    have lt_at96 := GHeap.ltg p7
    replace h := a1.mono f
    replace hin := l.mono f
    replace hin1 := e.mono f
    replace hL := u.mono f
    replace hR := t.mono f
    clear w b9 b7 c5 c3 b3 b5 c2 b4 c4 b8 b6
    have w : Cat.At _ g8 0 a p := ⟨Mem.of_get a6, hin⟩
    obtain ⟨b9, b7, c5, c3, b3, b5, c2, b4, c4⟩ := w.get
    have b8 : MemN _ _ _ _ _ := ⟨rfl, w.1⟩
    have b6 := w.2
    clear y d2 d4 d6 d1 c6 d7 c9 d3 d5 d8 c8
    have y : Cat.At _ g9 0 b q := ⟨Mem.of_get a7, hin1⟩
    obtain ⟨d2, d4, d6, d1, c6, d7, c9, d3, d5⟩ := y.get
    have d8 : MemN _ _ _ _ _ := ⟨rfl, y.1⟩
    have c8 := y.2
    clear o
    have o : MemN _ _ _ _ _ := ⟨rfl, Mem.of_get a4⟩
    clear u1
    have u1 := h.2 j (by omega)
    replace p7 : GHeap.get t1 o8 = some (.row (ints []) 2 true) := p7
    refine .mv rfl (.nil (s9 _ _ (.seq (fun K20 s4 => .seq (fun K21 v0 => .region (.mv rfl (.nil (v0 _ _ ?_))))))))
    refine .block ?_
    refine .loopR (σ := Nat × List Int × Nat × Nat) [(1, some _), (8, some _), (9, some _), (12, some _), (13, some _), (16, some _), (91, some _), (92, some _)] (fun (m, row, e2, n9) => [(18, some (.int .i64 (m : Int))), (17, some (.slice (some ⟨e2, 0, none⟩) n9 n9))]) (fun (m, row, e2, n9) H' => St [o8] t1 H' ∧ H'.get e2 = some (.row (ints row) 2 true) ∧ PL e2 o8 t1.next ∧ n9 = row.length ∧ m ≤ A.length ∧ row.length = m) (fun (m, row, e2, n9) => A.length - m) ((0, [], _, _)) ⟨rfl, rfl, rfl, rfl, rfl, rfl, rfl, rfl, trivial⟩ ⟨rfl, rfl, trivial⟩ ?_ ?_
    ·
     refine ⟨.refl _ _, by first | assumption | exact p7 | simpa using p7, ⟨.inl rfl⟩, by first | rfl | assumption | simp | omega, ?_⟩
     exact ⟨by omega, rfl⟩
    rintro ⟨m, row, e2, n9⟩ HL4 ⟨f2, e4, a8, q8, hI⟩ KL4 r7
    refine .forget (fr' := [(18, some (.int .i64 (m : Int))), (17, some (.slice (some ⟨e2, 0, none⟩) n9 n9)), (1, some _), (8, some _), (9, some _), (12, some _), (13, some _), (16, some _), (91, some _), (92, some _)]) ⟨rfl, rfl, rfl, rfl, rfl, rfl, rfl, rfl, rfl, rfl, trivial⟩ ?_
    have ge_L17 : H.next ≤ e2 := a8.ge (by omega) (by omega)
    have nx_HL4 := f2.nx
    replace f := f.st f2 (fun k hk => ⟨by omega, trivial⟩)
    replace e3 := e3.sA f2
    replace rk := rk.sA f2
    have k5 : NE g8 o8 := .a
    replace a6 := f2.s a6 k5.ne
    have k9 : NE g9 o8 := .a
    replace a7 := f2.s a7 k9.ne
    have j6 : NE l6 o8 := .a
    replace a3 := f2.s a3 j6.ne
    have j3 : NE gLF o8 := .a
    replace a2 := f2.s a2 j3.ne
    have j4 : NE gLT o8 := .a
    replace a0 := f2.s a0 j4.ne
    have k1 : NE gLI o8 := .a
    replace a5 := f2.s a5 k1.ne
    have g6 : NE gLC o8 := .a
    replace b0 := f2.s b0 g6.ne
    have h1 : NE m2 o8 := .a
    replace d := f2.s d h1.ne
    have lt_at_L17 := GHeap.ltg e4
    replace h := a1.mono f
    replace hin := l.mono f
    replace hin1 := e.mono f
    replace hL := u.mono f
    replace hR := t.mono f
    clear w b9 b7 c5 c3 b3 b5 c2 b4 c4 b8 b6
    have w : Cat.At _ g8 0 a p := ⟨Mem.of_get a6, hin⟩
    obtain ⟨b9, b7, c5, c3, b3, b5, c2, b4, c4⟩ := w.get
    have b8 : MemN _ _ _ _ _ := ⟨rfl, w.1⟩
    have b6 := w.2
    clear y d2 d4 d6 d1 c6 d7 c9 d3 d5 d8 c8
    have y : Cat.At _ g9 0 b q := ⟨Mem.of_get a7, hin1⟩
    obtain ⟨d2, d4, d6, d1, c6, d7, c9, d3, d5⟩ := y.get
    have d8 : MemN _ _ _ _ _ := ⟨rfl, y.1⟩
    have c8 := y.2
    clear o
    have o : MemN _ _ _ _ _ := ⟨rfl, Mem.of_get a4⟩
    clear u1
    have u1 := h.2 j (by omega)
    obtain ⟨hm, hrl⟩ := hI
    refine .seq (fun K22 v4 => .seq (fun K23 t6 => .region (.mv rfl (.mv rfl (.q rfl (.len sl_25_B rfl) (.q rfl (.cmp rfl rfl rfl) (.nil (t6 _ _ ?_))))))))
    refine .cond rfl (fun q9 => ?_) (fun q9 => ?_)
    ·
     simp only [sps] at q9
     have y3 := hY m (by omega)
     have u2 := h.2 m (by omega)
     refine .skip ?_
     refine v4 _ _ (.seq (fun K24 r3 => ?_))
     refine .block ?_
     refine .seq (fun K25 u8 => ?_)
     refine .regionD mo_B (.q 0 (.q 1 (.q 2 (.q 3 (.q 4 (.q 5 (.q 6 (.q 7 (.q 8 (.q 9 (.done))))))))))) (by kernel_rfl) ?_
     refine .mv rfl rfl (.mv rfl rfl ?_)
     refine .q rfl (.idxN sl_25_B (Intss.sl (by assumption)) rfl rfl (by omega)) ?_
     refine .q rfl (.loadR on_24_B (by assumption) rfl (by omega)) ?_
     refine .mv rfl rfl (.mv rfl rfl ?_)
     refine .q rfl (.idxN sl_25_B (Intss.sl (by assumption)) rfl rfl (by omega)) ?_
     refine .q rfl (.loadR on_24_B (by assumption) rfl (by omega)) ?_
     refine .mv rfl rfl (.mv rfl rfl ?_)
     refine .done ?_
     refine u8 _ _ (.seq (fun K26 s5 => .seq (fun K27 t7 => ?_)))
     refine .regionD mo_B (.q 0 (.q 1 (.q 2 (.q 3 (.q 4 (.q 5 (.q 6 (.done)))))))) (by kernel_rfl) ?_
     refine .mv rfl rfl ?_
     refine .q rfl (.idxN (j := 1) sl_24_A (by assumption) rfl rfl (by omega)) ?_
     refine .q rfl (.loadI on_2_A (by assumption) rfl (by omega)) ?_
     refine .mv rfl rfl ?_
     refine .q rfl (.idxN (j := 0) sl_24_A (by assumption) rfl rfl (by omega)) ?_
     refine .q rfl (.loadI on_2_A (by assumption) rfl (by omega)) ?_
     refine .q rfl (.cmp rfl rfl rfl) ?_
     refine .done ?_
     refine t7 _ _ ?_
     refine .cond rfl (fun t0 => ?_) (fun t0 => ?_)
     ·
      obtain ⟨h3, r5⟩ : ∃ h3 : Int, h3 = -1 := ⟨_, rfl⟩
      refine .seq (fun K28 s3 => .region (.mv rfl ?_))
      refine .R rfl (.litA rfl sl_24_A ze_2_E rfl rfl rfl rfl) ?_
      rintro _ H119 ⟨g119, rfl, g1, ge119, p3⟩
      have nx_H119 := g1.1
      replace f := f.trans g1
      replace e3 := e3.le g1
      replace rk := rk.le g1
      replace f2 := f2.le g1
      replace a6 := g1.2 _ _ a6
      replace a7 := g1.2 _ _ a7
      replace a3 := g1.2 _ _ a3
      replace a2 := g1.2 _ _ a2
      replace a0 := g1.2 _ _ a0
      replace a5 := g1.2 _ _ a5
      replace b0 := g1.2 _ _ b0
      replace d := g1.2 _ _ d
      replace e4 := g1.2 _ _ e4
      have lt_at119 := GHeap.ltg p3
      replace h := a1.mono f
      replace hin := l.mono f
      replace hin1 := e.mono f
      replace hL := u.mono f
      replace hR := t.mono f
      clear w b9 b7 c5 c3 b3 b5 c2 b4 c4 b8 b6
      have w : Cat.At _ g8 0 a p := ⟨Mem.of_get a6, hin⟩
      obtain ⟨b9, b7, c5, c3, b3, b5, c2, b4, c4⟩ := w.get
      have b8 : MemN _ _ _ _ _ := ⟨rfl, w.1⟩
      have b6 := w.2
      clear y d2 d4 d6 d1 c6 d7 c9 d3 d5 d8 c8
      have y : Cat.At _ g9 0 b q := ⟨Mem.of_get a7, hin1⟩
      obtain ⟨d2, d4, d6, d1, c6, d7, c9, d3, d5⟩ := y.get
      have d8 : MemN _ _ _ _ _ := ⟨rfl, y.1⟩
      have c8 := y.2
      clear o
      have o : MemN _ _ _ _ _ := ⟨rfl, Mem.of_get a4⟩
      clear u1
      have u1 := h.2 j (by omega)
      clear u2
      have u2 := h.2 m (by omega)
      refine .R rfl (.appendI rfl sl_24_A ze_2_E rfl by_2_E sl_24_A rfl rfl (by assumption) (by assumption) (by first | omega | (simp <;> omega)) (by omega) (by omega)) ?_
      rintro _ H120 ⟨g120, rfl, g0, ge120, r8⟩
      have nx_H120 := g0.nx
      replace f := f.st g0 (fun k hk => ⟨by omega, trivial⟩)
      replace e3 := e3.sP g0
      replace rk := rk.sP g0
      replace f2 := f2.sP g0
      have k0 : NE g8 e2 := ⟨a8.ne k5.ne (by omega)⟩
      replace a6 := g0.s a6 k0.ne
      have j8 : NE g9 e2 := ⟨a8.ne k9.ne (by omega)⟩
      replace a7 := g0.s a7 j8.ne
      have i5 : NE l6 e2 := ⟨a8.ne j6.ne (by omega)⟩
      replace a3 := g0.s a3 i5.ne
      have i2 : NE gLF e2 := ⟨a8.ne j3.ne (by omega)⟩
      replace a2 := g0.s a2 i2.ne
      have i1 : NE gLT e2 := ⟨a8.ne j4.ne (by omega)⟩
      replace a0 := g0.s a0 i1.ne
      have i4 : NE gLI e2 := ⟨a8.ne k1.ne (by omega)⟩
      replace a5 := g0.s a5 i4.ne
      have e7 : NE gLC e2 := ⟨a8.ne g6.ne (by omega)⟩
      replace b0 := g0.s b0 e7.ne
      have e8 : NE m2 e2 := ⟨a8.ne h1.ne (by omega)⟩
      replace d := g0.s d e8.ne
      replace p3 := g0.s p3
      have lt_at120 := GHeap.ltg r8
      replace h := a1.mono f
      replace hin := l.mono f
      replace hin1 := e.mono f
      replace hL := u.mono f
      replace hR := t.mono f
      clear w b9 b7 c5 c3 b3 b5 c2 b4 c4 b8 b6
      have w : Cat.At _ g8 0 a p := ⟨Mem.of_get a6, hin⟩
      obtain ⟨b9, b7, c5, c3, b3, b5, c2, b4, c4⟩ := w.get
      have b8 : MemN _ _ _ _ _ := ⟨rfl, w.1⟩
      have b6 := w.2
      clear y d2 d4 d6 d1 c6 d7 c9 d3 d5 d8 c8
      have y : Cat.At _ g9 0 b q := ⟨Mem.of_get a7, hin1⟩
      obtain ⟨d2, d4, d6, d1, c6, d7, c9, d3, d5⟩ := y.get
      have d8 : MemN _ _ _ _ _ := ⟨rfl, y.1⟩
      have c8 := y.2
      clear o
      have o : MemN _ _ _ _ _ := ⟨rfl, Mem.of_get a4⟩
      clear u1
      have u1 := h.2 j (by omega)
      clear u2
      have u2 := h.2 m (by omega)
      refine .mv rfl (.nil (s3 _ _ ?_))
      refine .exit ?_
      refine r3 _ _ (.region (.mv rfl ?_))
      refine .q rfl (.add rfl rfl rfl (by omega) (by omega)) ?_
      refine .mv rfl (.nil ?_)
      refine r7 ((m + 1, row ++ [h3], _, _)) _ _ ?_ ?_ ⟨rfl, rfl, rfl, rfl, rfl, rfl, rfl, rfl, rfl, rfl, trivial⟩
      ·
       refine ⟨f2, by first | assumption | (rw [r5]; assumption), by first | assumption | exact ⟨.inr (by omega)⟩ | exact ⟨.inl rfl⟩, by first | omega | (simp only [List.length_append, List.length_cons, List.length_nil] <;> omega) | (rw [r5] <;> (first | omega | (simp only [List.length_append, List.length_cons, List.length_nil] <;> omega))), ?_⟩
       exact ⟨by omega, by simp; omega⟩
      (dsimp only; omega)
     obtain ⟨h3, r5⟩ : ∃ h3 : Int, h3 = idxLL A [(A.getD j []).getD 0 0, (A.getD m []).getD 1 0, a.th ((A.getD j []).getD 2 0) ((A.getD m []).getD 2 0), b.th ((A.getD j []).getD 3 0) ((A.getD m []).getD 3 0)] := ⟨_, rfl⟩
     refine .skip ?_
     refine s5 _ _ ?_
     refine .regionD mo_B (.q 0 (.q 1 (.q 2 (.q 3 (.q 4 (.q 5 (.q 6 (.q 7 (.q 8 (.q 9 (.q 10 (.q 11 (.q 12 (.q 13 (.q 14 (.q 16 (.q 17 (.q 18 (.q 19 (.q 20 (.q 21 (.q 22 (.c 15 1 (.c 23 1 (.c 24 1 (.c 25 1 (.c 26 1 (.c 27 0 (.c 28 0 (.done)))))))))))))))))))))))))))))) (by kernel_rfl) ?_
     refine .mv rfl rfl (.mv rfl rfl (.mv rfl rfl ?_))
     refine .q rfl (.idxN (j := 0) sl_24_A (by assumption) rfl rfl (by omega)) ?_
     refine .q rfl (.loadI on_2_A (by assumption) rfl (by omega)) ?_
     refine .mv rfl rfl ?_
     refine .q rfl (.idxN (j := 1) sl_24_A (by assumption) rfl rfl (by omega)) ?_
     refine .q rfl (.loadI on_2_A (by assumption) rfl (by omega)) ?_
     refine .q rfl (.loadM ag_27_D rfl ⟨rfl, Mem.of_get a6⟩) ?_
     refine .mv rfl rfl ?_
     refine .q rfl (.idxN (j := 2) sl_24_A (by assumption) rfl rfl (by omega)) ?_
     refine .q rfl (.loadI on_2_A (by assumption) rfl (by omega)) ?_
     refine .mv rfl rfl ?_
     refine .q rfl (.idxN (j := 2) sl_24_A (by assumption) rfl rfl (by omega)) ?_
     refine .q rfl (.loadI on_2_A (by assumption) rfl (by omega)) ?_
     refine .q rfl (.loadM ag_27_D rfl ⟨rfl, Mem.of_get a7⟩) ?_
     refine .mv rfl rfl ?_
     refine .q rfl (.idxN (j := 3) sl_24_A (by assumption) rfl rfl (by omega)) ?_
     refine .q rfl (.loadI on_2_A (by assumption) rfl (by omega)) ?_
     refine .mv rfl rfl ?_
     refine .q rfl (.idxN (j := 3) sl_24_A (by assumption) rfl rfl (by omega)) ?_
     refine .q rfl (.loadI on_2_A (by assumption) rfl (by omega)) ?_
     refine .callQ1 rfl rfl rfl rfl rfl @Try.call209 rfl (l02Then_c (hS := hSa)) (.refl _) ?_
     refine .callQ1 rfl rfl rfl rfl rfl @Try.call209 rfl (l02Then_c (hS := hSb)) (.refl _) ?_
     refine .c1 rfl rfl rfl rfl (.litA rfl sl_24_A ze_2_E rfl rfl rfl rfl) ?_
     rintro _ H145 ⟨g145, rfl, f6, ge145, n7⟩
     have o6 := f6
     refine ⟨o6, ?_⟩
     have nx_H145 := f6.1
     replace f := f.trans f6
     replace e3 := e3.le f6
     replace rk := rk.le f6
     replace f2 := f2.le f6
     replace a6 := f6.2 _ _ a6
     replace a7 := f6.2 _ _ a7
     replace a3 := f6.2 _ _ a3
     replace a2 := f6.2 _ _ a2
     replace a0 := f6.2 _ _ a0
     replace a5 := f6.2 _ _ a5
     replace b0 := f6.2 _ _ b0
     replace d := f6.2 _ _ d
     replace e4 := f6.2 _ _ e4
     have lt_at145 := GHeap.ltg n7
     replace h := a1.mono f
     replace hin := l.mono f
     replace hin1 := e.mono f
     replace hL := u.mono f
     replace hR := t.mono f
     clear w b9 b7 c5 c3 b3 b5 c2 b4 c4 b8 b6
     have w : Cat.At _ g8 0 a p := ⟨Mem.of_get a6, hin⟩
     obtain ⟨b9, b7, c5, c3, b3, b5, c2, b4, c4⟩ := w.get
     have b8 : MemN _ _ _ _ _ := ⟨rfl, w.1⟩
     have b6 := w.2
     clear y d2 d4 d6 d1 c6 d7 c9 d3 d5 d8 c8
     have y : Cat.At _ g9 0 b q := ⟨Mem.of_get a7, hin1⟩
     obtain ⟨d2, d4, d6, d1, c6, d7, c9, d3, d5⟩ := y.get
     have d8 : MemN _ _ _ _ _ := ⟨rfl, y.1⟩
     have c8 := y.2
     clear o
     have o : MemN _ _ _ _ _ := ⟨rfl, Mem.of_get a4⟩
     clear u1
     have u1 := h.2 j (by omega)
     clear u2
     have u2 := h.2 m (by omega)
     refine .call1 rfl rfl rfl rfl rfl @Try.call210 rfl ((l09Find_c (by assumption) (Ints.of_get (xs := [(A.getD j []).getD 0 0, (A.getD m []).getD 1 0, a.th ((A.getD j []).getD 2 0) ((A.getD m []).getD 2 0), b.th ((A.getD j []).getD 3 0) ((A.getD m []).getD 3 0)]) (by assumption)) (by omega) (fun i => by have := hA4 i; omega) (by show 4 ≤ 1048576; omega))) ?_
     rintro _ _ ⟨rfl, rfl⟩
     refine ⟨(by assumption), ?_⟩
     refine .c1 rfl rfl rfl rfl (.litA rfl sl_24_A ze_2_E rfl rfl rfl rfl) ?_
     rintro _ H147 ⟨g147, rfl, f1, ge147, o9⟩
     replace o6 := o6.trans f1
     refine ⟨o6, ?_⟩
     have nx_H147 := f1.1
     replace f := f.trans f1
     replace e3 := e3.le f1
     replace rk := rk.le f1
     replace f2 := f2.le f1
     replace a6 := f1.2 _ _ a6
     replace a7 := f1.2 _ _ a7
     replace a3 := f1.2 _ _ a3
     replace a2 := f1.2 _ _ a2
     replace a0 := f1.2 _ _ a0
     replace a5 := f1.2 _ _ a5
     replace b0 := f1.2 _ _ b0
     replace d := f1.2 _ _ d
     replace e4 := f1.2 _ _ e4
     replace n7 := f1.2 _ _ n7
     have lt_at147 := GHeap.ltg o9
     replace h := a1.mono f
     replace hin := l.mono f
     replace hin1 := e.mono f
     replace hL := u.mono f
     replace hR := t.mono f
     clear w b9 b7 c5 c3 b3 b5 c2 b4 c4 b8 b6
     have w : Cat.At _ g8 0 a p := ⟨Mem.of_get a6, hin⟩
     obtain ⟨b9, b7, c5, c3, b3, b5, c2, b4, c4⟩ := w.get
     have b8 : MemN _ _ _ _ _ := ⟨rfl, w.1⟩
     have b6 := w.2
     clear y d2 d4 d6 d1 c6 d7 c9 d3 d5 d8 c8
     have y : Cat.At _ g9 0 b q := ⟨Mem.of_get a7, hin1⟩
     obtain ⟨d2, d4, d6, d1, c6, d7, c9, d3, d5⟩ := y.get
     have d8 : MemN _ _ _ _ _ := ⟨rfl, y.1⟩
     have c8 := y.2
     clear o
     have o : MemN _ _ _ _ _ := ⟨rfl, Mem.of_get a4⟩
     clear u1
     have u1 := h.2 j (by omega)
     clear u2
     have u2 := h.2 m (by omega)
     refine .c0 rfl rfl rfl rfl (.appendI rfl sl_24_A ze_2_E rfl by_2_E sl_24_A rfl rfl (by assumption) (by assumption) (by first | omega | (simp <;> omega)) (by omega) (by omega)) ?_
     rintro _ H148 ⟨g148, rfl, f8, ge148, s1⟩
     have nx_H148 := f8.nx
     replace f := f.st f8 (fun k hk => ⟨by omega, trivial⟩)
     replace e3 := e3.sP f8
     replace rk := rk.sP f8
     replace f2 := f2.sP f8
     have k0 : NE g8 e2 := ⟨a8.ne k5.ne (by omega)⟩
     replace a6 := f8.s a6 k0.ne
     have j8 : NE g9 e2 := ⟨a8.ne k9.ne (by omega)⟩
     replace a7 := f8.s a7 j8.ne
     have i5 : NE l6 e2 := ⟨a8.ne j6.ne (by omega)⟩
     replace a3 := f8.s a3 i5.ne
     have i2 : NE gLF e2 := ⟨a8.ne j3.ne (by omega)⟩
     replace a2 := f8.s a2 i2.ne
     have i1 : NE gLT e2 := ⟨a8.ne j4.ne (by omega)⟩
     replace a0 := f8.s a0 i1.ne
     have i4 : NE gLI e2 := ⟨a8.ne k1.ne (by omega)⟩
     replace a5 := f8.s a5 i4.ne
     have e7 : NE gLC e2 := ⟨a8.ne g6.ne (by omega)⟩
     replace b0 := f8.s b0 e7.ne
     have e8 : NE m2 e2 := ⟨a8.ne h1.ne (by omega)⟩
     replace d := f8.s d e8.ne
     replace n7 := f8.s n7
     replace o9 := f8.s o9
     have lt_at148 := GHeap.ltg s1
     replace h := a1.mono f
     replace hin := l.mono f
     replace hin1 := e.mono f
     replace hL := u.mono f
     replace hR := t.mono f
     clear w b9 b7 c5 c3 b3 b5 c2 b4 c4 b8 b6
     have w : Cat.At _ g8 0 a p := ⟨Mem.of_get a6, hin⟩
     obtain ⟨b9, b7, c5, c3, b3, b5, c2, b4, c4⟩ := w.get
     have b8 : MemN _ _ _ _ _ := ⟨rfl, w.1⟩
     have b6 := w.2
     clear y d2 d4 d6 d1 c6 d7 c9 d3 d5 d8 c8
     have y : Cat.At _ g9 0 b q := ⟨Mem.of_get a7, hin1⟩
     obtain ⟨d2, d4, d6, d1, c6, d7, c9, d3, d5⟩ := y.get
     have d8 : MemN _ _ _ _ _ := ⟨rfl, y.1⟩
     have c8 := y.2
     clear o
     have o : MemN _ _ _ _ _ := ⟨rfl, Mem.of_get a4⟩
     clear u1
     have u1 := h.2 j (by omega)
     clear u2
     have u2 := h.2 m (by omega)
     refine .d0 rfl rfl rfl rfl (.quiet (.assign rfl) CIs.mk) ?_
     refine .done ?_
     refine r3 _ _ (.region (.mv rfl ?_))
     refine .q rfl (.add rfl rfl rfl (by omega) (by omega)) ?_
     refine .mv rfl (.nil ?_)
     refine r7 ((m + 1, row ++ [h3], _, _)) _ _ ?_ ?_ ⟨rfl, rfl, rfl, rfl, rfl, rfl, rfl, rfl, rfl, rfl, trivial⟩
     ·
      refine ⟨f2, by first | assumption | (rw [r5]; assumption), by first | assumption | exact ⟨.inr (by omega)⟩ | exact ⟨.inl rfl⟩, by first | omega | (simp only [List.length_append, List.length_cons, List.length_nil] <;> omega) | (rw [r5] <;> (first | omega | (simp only [List.length_append, List.length_cons, List.length_nil] <;> omega))), ?_⟩
      exact ⟨by omega, by simp; omega⟩
     (dsimp only; omega)
    try simp only [sps] at q9
    refine .exit ?_
    refine s4 _ _ (.region ?_)
    obtain rfl := q8
    refine .q rfl (.fieldAddr fo_27_4_B rfl) ?_
    refine .q rfl (.load on_25_B rfl (by first | assumption | exact Mem.of_get d 4 _ rfl)) ?_
    refine .mv rfl ?_
    refine .R rfl (.litA rfl sl_25_B ze_24_E rfl rfl rfl rfl) ?_
    rintro _ H152 ⟨g152, rfl, g4, ge152, n8⟩
    have nx_H152 := g4.1
    replace f := f.trans g4
    replace e3 := e3.le g4
    replace rk := rk.le g4
    replace a6 := g4.2 _ _ a6
    replace a7 := g4.2 _ _ a7
    replace a3 := g4.2 _ _ a3
    replace a2 := g4.2 _ _ a2
    replace a0 := g4.2 _ _ a0
    replace a5 := g4.2 _ _ a5
    replace b0 := g4.2 _ _ b0
    replace d := g4.2 _ _ d
    replace e4 := g4.2 _ _ e4
    have lt_at152 := GHeap.ltg n8
    replace h := a1.mono f
    replace hin := l.mono f
    replace hin1 := e.mono f
    replace hL := u.mono f
    replace hR := t.mono f
    clear w b9 b7 c5 c3 b3 b5 c2 b4 c4 b8 b6
    have w : Cat.At _ g8 0 a p := ⟨Mem.of_get a6, hin⟩
    obtain ⟨b9, b7, c5, c3, b3, b5, c2, b4, c4⟩ := w.get
    have b8 : MemN _ _ _ _ _ := ⟨rfl, w.1⟩
    have b6 := w.2
    clear y d2 d4 d6 d1 c6 d7 c9 d3 d5 d8 c8
    have y : Cat.At _ g9 0 b q := ⟨Mem.of_get a7, hin1⟩
    obtain ⟨d2, d4, d6, d1, c6, d7, c9, d3, d5⟩ := y.get
    have d8 : MemN _ _ _ _ _ := ⟨rfl, y.1⟩
    have c8 := y.2
    clear o
    have o : MemN _ _ _ _ _ := ⟨rfl, Mem.of_get a4⟩
    clear u1
    have u1 := h.2 j (by omega)
    refine .R rfl (.appendV rfl sl_25_B ze_24_E rfl by_24_E sl_25_B rfl rfl (by assumption) (by assumption) (by first | omega | (simp <;> omega)) rfl rfl (by omega) (by omega)) ?_
    rintro _ H153 ⟨t5, rfl, g3, ge153, p0⟩
    have nx_H153 := g3.nx
    replace f := f.st g3 (fun k hk => ⟨by omega, trivial⟩)
    replace e3 := e3.sP g3
    replace rk := rk.sP g3
    replace a6 := g3.same _ _ ⟨(k2.ne m3.ne (by omega)), trivial⟩ a6
    replace a7 := g3.same _ _ ⟨(k2.ne m7.ne (by omega)), trivial⟩ a7
    have f9 : NE l6 gLC := ⟨k2.ne g5.ne (by omega)⟩
    replace a3 := g3.s a3 f9.ne
    replace a2 := g3.same _ _ ⟨(k2.ne (Ne.symm i0.ne) (by omega)), trivial⟩ a2
    replace a0 := g3.same _ _ ⟨(k2.ne (Ne.symm h2.ne) (by omega)), trivial⟩ a0
    replace a5 := g3.same _ _ ⟨(k2.ne (Ne.symm h9.ne) (by omega)), trivial⟩ a5
    replace d := g3.same _ _ ⟨(Ne.symm r9), trivial⟩ d
    have e7 : NE gLC e2 := ⟨a8.ne g6.ne (by omega)⟩
    replace e4 := g3.s e4 (Ne.symm e7.ne)
    replace n8 := g3.s n8
    have lt_at153 := GHeap.ltg p0
    replace h := a1.mono f
    replace hin := l.mono f
    replace hin1 := e.mono f
    replace hL := u.mono f
    replace hR := t.mono f
    clear w b9 b7 c5 c3 b3 b5 c2 b4 c4 b8 b6
    have w : Cat.At _ g8 0 a p := ⟨Mem.of_get a6, hin⟩
    obtain ⟨b9, b7, c5, c3, b3, b5, c2, b4, c4⟩ := w.get
    have b8 : MemN _ _ _ _ _ := ⟨rfl, w.1⟩
    have b6 := w.2
    clear y d2 d4 d6 d1 c6 d7 c9 d3 d5 d8 c8
    have y : Cat.At _ g9 0 b q := ⟨Mem.of_get a7, hin1⟩
    obtain ⟨d2, d4, d6, d1, c6, d7, c9, d3, d5⟩ := y.get
    have d8 : MemN _ _ _ _ _ := ⟨rfl, y.1⟩
    have c8 := y.2
    clear o
    have o : MemN _ _ _ _ _ := ⟨rfl, Mem.of_get a4⟩
    clear u1
    have u1 := h.2 j (by omega)
    refine .q rfl (.fieldAddr fo_27_4_B rfl) ?_
    refine .r0 rfl rfl (.storeR rfl sz_25_E rfl rfl rfl (by assumption) (by first | exact Nat.le_of_ble_eq_true rfl | (simp; done) | (simp <;> omega))) ?_
    rintro _ H22006 ⟨rfl, b2, o4⟩
    have nx_H22006 := b2.nx
    replace f := f.st b2 (fun k hk => ⟨by omega, trivial⟩)
    replace e3 := e3.sA b2
    replace rk := rk.sA b2
    replace a6 := b2.s a6 e1.ne
    replace a7 := b2.s a7 e0.ne
    replace a3 := b2.s a3 a9.ne
    replace a2 := b2.same _ _ ⟨o0, trivial⟩ a2
    replace a0 := b2.same _ _ ⟨m8, trivial⟩ a0
    replace a5 := b2.same _ _ ⟨p8, trivial⟩ a5
    have e8 : NE m2 e2 := ⟨a8.ne h1.ne (by omega)⟩
    replace e4 := b2.s e4 (Ne.symm e8.ne)
    replace n8 := b2.s n8
    replace p0 := b2.s p0
    have lt_at22006 := GHeap.ltg o4
    replace h := a1.mono f
    replace hin := l.mono f
    replace hin1 := e.mono f
    replace hL := u.mono f
    replace hR := t.mono f
    clear w b9 b7 c5 c3 b3 b5 c2 b4 c4 b8 b6
    have w : Cat.At _ g8 0 a p := ⟨Mem.of_get a6, hin⟩
    obtain ⟨b9, b7, c5, c3, b3, b5, c2, b4, c4⟩ := w.get
    have b8 : MemN _ _ _ _ _ := ⟨rfl, w.1⟩
    have b6 := w.2
    clear y d2 d4 d6 d1 c6 d7 c9 d3 d5 d8 c8
    have y : Cat.At _ g9 0 b q := ⟨Mem.of_get a7, hin1⟩
    obtain ⟨d2, d4, d6, d1, c6, d7, c9, d3, d5⟩ := y.get
    have d8 : MemN _ _ _ _ _ := ⟨rfl, y.1⟩
    have c8 := y.2
    clear o
    have o : MemN _ _ _ _ _ := ⟨rfl, Mem.of_get a4⟩
    clear u1
    have u1 := h.2 j (by omega)
    try simp only [Nat.zero_add, List.set_cons_succ, List.set_cons_zero] at o4
    refine .nil (s2 _ _ (.region (.mv rfl ?_)))
    refine .q rfl (.add rfl rfl rfl (by omega) (by omega)) ?_
    refine .mv rfl (.nil ?_)
    refine s8 ((j + 1, upd rc cs.length (some ⟨e2, 0, none⟩), cs ++ [row], t5)) _ _ ?_ ?_ ⟨rfl, rfl, rfl, rfl, rfl, rfl, trivial⟩
    ·
     refine ⟨e3, by first | assumption | (rw [slsL_snoc]; assumption) | (rw [List.length_append]; assumption), by first | assumption | exact ⟨.inr (by omega)⟩ | exact ⟨.inl rfl⟩, by first | assumption | (rw [slsL_snoc]; assumption) | (rw [List.length_append]; assumption), by first | assumption | omega, ?_⟩
     have hO' := hO.st rk (.cons (hO.neT hatC rfl) (.cons (hO.neT r1 rfl) (.nil _ _)))
     have hb1 : HL2.next ≤ e2 := a8.ge (by omega) (by omega)
     have x0 : HL3.next ≤ e2 := a8.ge (by omega) (by omega)
     have w9 := hO.ne (g := e2) x0
     exact ⟨⟨by omega, by simp; omega⟩, hO'.snoc2 e4 w9 (by omega)⟩
    (dsimp only; omega)
   try simp only [sps] at t9
   refine .exit ?_
   refine r4 _ _ (.seq (fun K29 u4 => .region ?_))
   refine .q rfl (.loadM ag_27_D rfl ⟨rfl, Mem.of_get d⟩) ?_
   refine .r0 rfl rfl (.fillA rfl sz_27_D rfl rfl rfl rfl) ?_
   rintro _ H23001 ⟨rfl, e6, n2⟩
   have nx_H23001 := e6.nx
   replace f := f.st e6 (fun k hk => ⟨by omega, trivial⟩)
   have k7 : NE g8 l6 := .a
   replace a6 := e6.s a6 k7.ne
   have l0 : NE g9 l6 := .a
   replace a7 := e6.s a7 l0.ne
   have f4 : NE l6 gLF := ⟨i7.ne h4.ne (by omega)⟩
   replace a2 := e6.s a2 (Ne.symm f4.ne)
   have f7 : NE l6 gLT := ⟨i8.ne h6.ne (by omega)⟩
   replace a0 := e6.s a0 (Ne.symm f7.ne)
   have f5 : NE l6 gLI := ⟨i6.ne h5.ne (by omega)⟩
   replace a5 := e6.s a5 (Ne.symm f5.ne)
   have f9 : NE l6 gLC := ⟨k2.ne g5.ne (by omega)⟩
   replace b0 := e6.s b0 (Ne.symm f9.ne)
   replace d := e6.s d (Ne.symm a9.ne)
   have lt_at23001 := GHeap.ltg n2
   replace h := a1.mono f
   replace hin := l.mono f
   replace hin1 := e.mono f
   replace hL := u.mono f
   replace hR := t.mono f
   clear w b9 b7 c5 c3 b3 b5 c2 b4 c4 b8 b6
   have w : Cat.At _ g8 0 a p := ⟨Mem.of_get a6, hin⟩
   obtain ⟨b9, b7, c5, c3, b3, b5, c2, b4, c4⟩ := w.get
   have b8 : MemN _ _ _ _ _ := ⟨rfl, w.1⟩
   have b6 := w.2
   clear y d2 d4 d6 d1 c6 d7 c9 d3 d5 d8 c8
   have y : Cat.At _ g9 0 b q := ⟨Mem.of_get a7, hin1⟩
   obtain ⟨d2, d4, d6, d1, c6, d7, c9, d3, d5⟩ := y.get
   have d8 : MemN _ _ _ _ _ := ⟨rfl, y.1⟩
   have c8 := y.2
   clear o
   have o : MemN _ _ _ _ _ := ⟨rfl, Mem.of_get a4⟩
   clear u1
   have u1 := h.2 j (by omega)
   have mm23001 : MemN _ _ _ _ _ := ⟨rfl, Mem.of_get n2⟩
   refine .nil (u4 _ _ ?_)
   refine .ret ?_
   refine r6 _ _ ?_
   refine ⟨_, _, _, _, rfl, ag_27_D, (by rfl), (Mem.of_get n2), ?_⟩
   have u7 := hO.st e6 (.cons (hO.neT a3 rfl) (.nil _ _))
   exact ⟨f, ⟨(n : Int), ss, ts, is, cs⟩, ⟨some ⟨gLF, 0, none⟩, some ⟨gLT, 0, none⟩, some ⟨gLI, 0, none⟩, some ⟨gLC, 0, none⟩, rc⟩, rfl, ⟨.of_at a2 q2, .of_at a0 q4, .of_at a5 q3, (u7.low (b' := H.next) (by omega)).done b0 q5⟩, rfl, by show ss.length = _; omega⟩
  simp only [sps] at v1
  refine .z rfl (.z rfl (.q rfl (.pickF rfl rfl) (.nil (r2 _ _ ?_))))
  refine .condF rfl ?_
  refine .exit ?_
  refine r4 _ _ (.seq (fun K30 s6 => .region ?_))
  refine .q rfl (.loadM ag_27_D rfl ⟨rfl, Mem.of_get d⟩) ?_
  refine .r0 rfl rfl (.fillA rfl sz_27_D rfl rfl rfl rfl) ?_
  rintro _ H23001x2 ⟨rfl, b1, k6⟩
  have nx_H23001x2 := b1.nx
  replace f := f.st b1 (fun k hk => ⟨by omega, trivial⟩)
  have k7 : NE g8 l6 := .a
  replace a6 := b1.s a6 k7.ne
  have l0 : NE g9 l6 := .a
  replace a7 := b1.s a7 l0.ne
  have f4 : NE l6 gLF := ⟨i7.ne h4.ne (by omega)⟩
  replace a2 := b1.s a2 (Ne.symm f4.ne)
  have f7 : NE l6 gLT := ⟨i8.ne h6.ne (by omega)⟩
  replace a0 := b1.s a0 (Ne.symm f7.ne)
  have f5 : NE l6 gLI := ⟨i6.ne h5.ne (by omega)⟩
  replace a5 := b1.s a5 (Ne.symm f5.ne)
  have f9 : NE l6 gLC := ⟨k2.ne g5.ne (by omega)⟩
  replace b0 := b1.s b0 (Ne.symm f9.ne)
  replace d := b1.s d (Ne.symm a9.ne)
  have lt_at23001x2 := GHeap.ltg k6
  replace h := a1.mono f
  replace hin := l.mono f
  replace hin1 := e.mono f
  replace hL := u.mono f
  replace hR := t.mono f
  clear w b9 b7 c5 c3 b3 b5 c2 b4 c4 b8 b6
  have w : Cat.At _ g8 0 a p := ⟨Mem.of_get a6, hin⟩
  obtain ⟨b9, b7, c5, c3, b3, b5, c2, b4, c4⟩ := w.get
  have b8 : MemN _ _ _ _ _ := ⟨rfl, w.1⟩
  have b6 := w.2
  clear y d2 d4 d6 d1 c6 d7 c9 d3 d5 d8 c8
  have y : Cat.At _ g9 0 b q := ⟨Mem.of_get a7, hin1⟩
  obtain ⟨d2, d4, d6, d1, c6, d7, c9, d3, d5⟩ := y.get
  have d8 : MemN _ _ _ _ _ := ⟨rfl, y.1⟩
  have c8 := y.2
  clear o
  have o : MemN _ _ _ _ _ := ⟨rfl, Mem.of_get a4⟩
  have mm23001x2 : MemN _ _ _ _ _ := ⟨rfl, Mem.of_get k6⟩
  refine .nil (s6 _ _ ?_)
  refine .ret ?_
  refine r6 _ _ ?_
  refine ⟨_, _, _, _, rfl, ag_27_D, (by rfl), (Mem.of_get k6), ?_⟩
  have u7 := hO.st b1 (.cons (hO.neT a3 rfl) (.nil _ _))
  exact ⟨f, ⟨(n : Int), ss, ts, is, cs⟩, ⟨some ⟨gLF, 0, none⟩, some ⟨gLT, 0, none⟩, some ⟨gLI, 0, none⟩, some ⟨gLC, 0, none⟩, rc⟩, rfl, ⟨.of_at a2 q2, .of_at a0 q4, .of_at a5 q3, (u7.low (b' := H.next) (by omega)).done b0 q5⟩, rfl, by show ss.length = _; omega⟩
end Go.Proofs.Ytiooclghkafokaa
namespace Go.Proofs.Ytiooclghkafokaa
open Go Go.GL Go.RowKit Go.Proofs
set_option maxHeartbeats 8000000 in
theorem l09Comma_c {f k : Fun} {p q : FunP} {H : GHeap} (hin : f.In H p := by assumption) (hin1 : k.In H q := by assumption) (ho : KmOk f k) (h8 : (kmOb f k).length ≤ 8) :
    GCalls Try.prog 136 [.agg (f.cells p).toArray, .agg (k.cells q).toArray] H (fun v H' => H.Le H' ∧ ∃ (c : Cat) (pc : CatP) (a : Option Addr) (r : Nat → Option Addr) (b : Option Addr) (s : Nat → Option Addr),
      v = .tuple #[.agg (c.cells pc).toArray, .slice a (kmOb f k).length (kmOb f k).length, .slice b (kmAr f k (kmOb f k)).length (kmAr f k (kmOb f k)).length] ∧ CatK H.next H' c pc ∧ IntssR H.next H' a (kmOb f k) r ∧ IntssR H.next H' b (kmAr f k (kmOb f k)) s ∧ c.obj = (kmOb f k).length ∧ c.src.length = (kmAr f k (kmOb f k)).length) := by
  have hN := ho.n
  have q1 := ho.p.1.1.il
  have q2 := ho.q.1.1.il
  have hX := fun i (hi : i < (kmOb f k).length) => kmOb_x ho hi
  have f4 := kmOb_row f k
  refine GCalls.body (N := 30) (rs := [.cell 4 27, .tmp 5, .tmp 6]) Try.func136 rfl rfl rfl rfl (fun Qx f1 hend => ?_)
  refine .fg [0, 1] rfl ?_
  have x := GHeap.Le.refl H
  have j := hin
  have d := hin1
  refine .seq (fun K1 f9 => .region ?_)
  refine .R rfl (.boxR rfl sz_33_E rfl) ?_
  rintro _ H2 ⟨g2, rfl, f3, ge2, a8⟩
  have nx_H2 := f3.1
  replace x := x.trans f3
  have lt_at2 := GHeap.ltg a8
  replace hin := j.mono x
  replace hin1 := d.mono x
  have t : Fun.At _ g2 0 f p := ⟨Mem.of_get a8, hin⟩
  obtain ⟨y, z, a5, a0, c7, c5⟩ := t.get
  have c4 : MemN _ _ _ _ _ := ⟨rfl, t.1⟩
  have c6 := t.2
  have a3 : MemN _ _ _ _ _ := ⟨rfl, y.1⟩
  have a1 := y.2
  have a4 : MemN _ _ _ _ _ := ⟨rfl, z.1⟩
  have a2 := z.2
  refine .R rfl (.boxR rfl sz_33_E rfl) ?_
  rintro _ H3 ⟨g3, rfl, e9, ge3, b5⟩
  have nx_H3 := e9.1
  replace x := x.trans e9
  replace a8 := e9.2 _ _ a8
  have lt_at3 := GHeap.ltg b5
  replace hin := j.mono x
  replace hin1 := d.mono x
  clear t y z a5 a0 c7 c5 c4 c6 a3 a1 a4 a2
  have t : Fun.At _ g2 0 f p := ⟨Mem.of_get a8, hin⟩
  obtain ⟨y, z, a5, a0, c7, c5⟩ := t.get
  have c4 : MemN _ _ _ _ _ := ⟨rfl, t.1⟩
  have c6 := t.2
  have a3 : MemN _ _ _ _ _ := ⟨rfl, y.1⟩
  have a1 := y.2
  have a4 : MemN _ _ _ _ _ := ⟨rfl, z.1⟩
  have a2 := z.2
  have w : Fun.At _ g3 0 k q := ⟨Mem.of_get b5, hin1⟩
  obtain ⟨a6, a7, b2, b3, d1, d3⟩ := w.get
  have d0 : MemN _ _ _ _ _ := ⟨rfl, w.1⟩
  have d2 := w.2
  have a9 : MemN _ _ _ _ _ := ⟨rfl, a6.1⟩
  have b4 := a6.2
  have b1 : MemN _ _ _ _ _ := ⟨rfl, a7.1⟩
  have b0 := a7.2
  refine .R rfl (.allocR rfl ze_27_E rfl) ?_
  rintro _ H4 ⟨g4, rfl, e5, ge4, d8⟩
  have nx_H4 := e5.1
  replace x := x.trans e5
  replace a8 := e5.2 _ _ a8
  replace b5 := e5.2 _ _ b5
  have lt_at4 := GHeap.ltg d8
  replace hin := j.mono x
  replace hin1 := d.mono x
  clear t y z a5 a0 c7 c5 c4 c6 a3 a1 a4 a2
  have t : Fun.At _ g2 0 f p := ⟨Mem.of_get a8, hin⟩
  obtain ⟨y, z, a5, a0, c7, c5⟩ := t.get
  have c4 : MemN _ _ _ _ _ := ⟨rfl, t.1⟩
  have c6 := t.2
  have a3 : MemN _ _ _ _ _ := ⟨rfl, y.1⟩
  have a1 := y.2
  have a4 : MemN _ _ _ _ _ := ⟨rfl, z.1⟩
  have a2 := z.2
  clear w a6 a7 b2 b3 d1 d3 d0 d2 a9 b4 b1 b0
  have w : Fun.At _ g3 0 k q := ⟨Mem.of_get b5, hin1⟩
  obtain ⟨a6, a7, b2, b3, d1, d3⟩ := w.get
  have d0 : MemN _ _ _ _ _ := ⟨rfl, w.1⟩
  have d2 := w.2
  have a9 : MemN _ _ _ _ _ := ⟨rfl, a6.1⟩
  have b4 := a6.2
  have b1 : MemN _ _ _ _ _ := ⟨rfl, a7.1⟩
  have b0 := a7.2
  refine .mv rfl (.mv rfl (.nil (f9 _ _ (.seq (fun K2 g5 => .region ?_)))))
  refine .q rfl (.loadM ag_33_E rfl ⟨rfl, Mem.of_get a8⟩) ?_
  refine .q rfl (.loadM ag_33_E rfl ⟨rfl, Mem.of_get b5⟩) ?_
  refine .call rfl rfl rfl rfl @Try.call135 rfl (l09Objects_c (ho := ho)) ?_
  rintro _ e8 ⟨d7, a11, r11, rfl, d4⟩
  have nx_H11 := d7.1
  replace x := x.trans d7
  replace a8 := d7.2 _ _ a8
  replace b5 := d7.2 _ _ b5
  replace d8 := d7.2 _ _ d8
  have b8 := d4
  have e : Keep H4.next e8 e8 := fun _ _ _ h => h
  replace hin := j.mono x
  replace hin1 := d.mono x
  clear t y z a5 a0 c7 c5 c4 c6 a3 a1 a4 a2
  have t : Fun.At _ g2 0 f p := ⟨Mem.of_get a8, hin⟩
  obtain ⟨y, z, a5, a0, c7, c5⟩ := t.get
  have c4 : MemN _ _ _ _ _ := ⟨rfl, t.1⟩
  have c6 := t.2
  have a3 : MemN _ _ _ _ _ := ⟨rfl, y.1⟩
  have a1 := y.2
  have a4 : MemN _ _ _ _ _ := ⟨rfl, z.1⟩
  have a2 := z.2
  clear w a6 a7 b2 b3 d1 d3 d0 d2 a9 b4 b1 b0
  have w : Fun.At _ g3 0 k q := ⟨Mem.of_get b5, hin1⟩
  obtain ⟨a6, a7, b2, b3, d1, d3⟩ := w.get
  have d0 : MemN _ _ _ _ _ := ⟨rfl, w.1⟩
  have d2 := w.2
  have a9 : MemN _ _ _ _ _ := ⟨rfl, a6.1⟩
  have b4 := a6.2
  have b1 : MemN _ _ _ _ _ := ⟨rfl, a7.1⟩
  have b0 := a7.2
  have d9 := d4.intss
  refine .mv rfl (.nil (g5 _ _ (.seq (fun K3 g1 => .region ?_))))
  refine .q rfl (.loadM ag_33_E rfl ⟨rfl, Mem.of_get a8⟩) ?_
  refine .q rfl (.loadM ag_33_E rfl ⟨rfl, Mem.of_get b5⟩) ?_
  refine .mv rfl ?_
  refine .call rfl rfl rfl rfl @Try.call183 rfl (l09Arrows_c (O := kmOb f k) (ho := ho) (hO8 := h8) (hX := hX)) ?_
  rintro _ e4 ⟨d5, a15, r15, rfl, d6⟩
  have nx_H15 := d5.1
  replace x := x.trans d5
  replace a8 := d5.2 _ _ a8
  replace b5 := d5.2 _ _ b5
  replace d8 := d5.2 _ _ d8
  replace e := Keep.le e d5
  replace d4 := b8.keep e (Nat.le_refl _)
  have c0 := d6
  have m : Keep e8.next e4 e4 := fun _ _ _ h => h
  replace hin := j.mono x
  replace hin1 := d.mono x
  clear t y z a5 a0 c7 c5 c4 c6 a3 a1 a4 a2
  have t : Fun.At _ g2 0 f p := ⟨Mem.of_get a8, hin⟩
  obtain ⟨y, z, a5, a0, c7, c5⟩ := t.get
  have c4 : MemN _ _ _ _ _ := ⟨rfl, t.1⟩
  have c6 := t.2
  have a3 : MemN _ _ _ _ _ := ⟨rfl, y.1⟩
  have a1 := y.2
  have a4 : MemN _ _ _ _ _ := ⟨rfl, z.1⟩
  have a2 := z.2
  clear w a6 a7 b2 b3 d1 d3 d0 d2 a9 b4 b1 b0
  have w : Fun.At _ g3 0 k q := ⟨Mem.of_get b5, hin1⟩
  obtain ⟨a6, a7, b2, b3, d1, d3⟩ := w.get
  have d0 : MemN _ _ _ _ _ := ⟨rfl, w.1⟩
  have d2 := w.2
  have a9 : MemN _ _ _ _ _ := ⟨rfl, a6.1⟩
  have b4 := a6.2
  have b1 : MemN _ _ _ _ _ := ⟨rfl, a7.1⟩
  have b0 := a7.2
  clear d9
  have d9 := d4.intss
  have e0 := d6.intss
  refine .mv rfl (.nil (g1 _ _ (.seq (fun K4 g0 => ?_))))
  refine .regionDB mo_B (.q 0 (.q 1 (.q 2 (.q 3 (.q 4 (.q 5 (.q 6 (.q 7 (.q 9 (.q 12 (.q 13 (.c 8 1 (.c 10 1 (.c 11 1 (.c 14 1 (.q 15 (.q 16 (.done)))))))))))))))))) (by kernel_rfl) (GHeap.le_erase e4 g4) ?_
  have b6 := GHeap.le_erase e4 g4
  have f8 := GHeap.get_erase_of (g := g4) a8 (by omega)
  have f6 := GHeap.get_erase_of (g := g4) b5 (by omega)
  have m2B : MemN _ g2 (0 + 0) 5 (f.s.cells p.s) := ⟨rfl, (Mem.of_get f8).left⟩
  have m3B : MemN _ g3 (0 + 0) 5 (k.s.cells q.s) := ⟨rfl, (Mem.of_get f6).left⟩
  refine .qB rfl b6 (.move rfl) (.qB rfl b6 (.len sl_25_B rfl) (.qB rfl b6 (.move rfl) (.qB rfl b6 (.fieldAddr fo_33_0_E rfl) ?_)))
  refine .qB rfl b6 (.loadM ag_27_D rfl (by assumption)) ?_
  refine .qB rfl b6 (.fieldAddr fo_33_0_E rfl) ?_
  refine .qB rfl b6 (.loadM ag_27_D rfl (by assumption)) ?_
  refine .qB rfl b6 (.move rfl) (.qB rfl b6 (.move rfl) (.qB rfl b6 (.move rfl) (.qB rfl b6 (.move rfl) ?_)))
  refine .call1 rfl rfl rfl rfl rfl @Try.call185 rfl (l09Col_c (xss := kmOb f k) (k := 0) (hk := fun i hi => by have := (hX i hi).l; omega) (hl2 := fun i _ => by have := f4 i; omega)) ?_
  rintro _ H24 ⟨c3, g24, rfl, b7, ge24⟩
  replace b6 := b6.trans c3
  refine ⟨b6, ?_⟩
  have nx_H24 := c3.1
  replace x := x.trans c3
  replace a8 := c3.2 _ _ a8
  replace b5 := c3.2 _ _ b5
  replace d8 := c3.2 _ _ d8
  replace e := Keep.le e c3
  replace d4 := b8.keep e (Nat.le_refl _)
  replace m := Keep.le m c3
  replace d6 := c0.keep m (Nat.le_refl _)
  have lt_at24 := GHeap.ltg b7
  replace hin := j.mono x
  replace hin1 := d.mono x
  clear t y z a5 a0 c7 c5 c4 c6 a3 a1 a4 a2
  have t : Fun.At _ g2 0 f p := ⟨Mem.of_get a8, hin⟩
  obtain ⟨y, z, a5, a0, c7, c5⟩ := t.get
  have c4 : MemN _ _ _ _ _ := ⟨rfl, t.1⟩
  have c6 := t.2
  have a3 : MemN _ _ _ _ _ := ⟨rfl, y.1⟩
  have a1 := y.2
  have a4 : MemN _ _ _ _ _ := ⟨rfl, z.1⟩
  have a2 := z.2
  clear w a6 a7 b2 b3 d1 d3 d0 d2 a9 b4 b1 b0
  have w : Fun.At _ g3 0 k q := ⟨Mem.of_get b5, hin1⟩
  obtain ⟨a6, a7, b2, b3, d1, d3⟩ := w.get
  have d0 : MemN _ _ _ _ _ := ⟨rfl, w.1⟩
  have d2 := w.2
  have a9 : MemN _ _ _ _ _ := ⟨rfl, a6.1⟩
  have b4 := a6.2
  have b1 : MemN _ _ _ _ _ := ⟨rfl, a7.1⟩
  have b0 := a7.2
  clear d9
  have d9 := d4.intss
  clear e0
  have e0 := d6.intss
  have e2 := Ints.of_get b7
  refine .call1 rfl rfl rfl rfl rfl @Try.call185 rfl (l09Col_c (xss := kmOb f k) (k := 1) (hk := fun i hi => by have := (hX i hi).l; omega) (hl2 := fun i _ => by have := f4 i; omega)) ?_
  rintro _ f7 ⟨c1, g26, rfl, c2, ge26⟩
  replace b6 := b6.trans c1
  refine ⟨b6, ?_⟩
  have nx_H26 := c1.1
  replace x := x.trans c1
  replace a8 := c1.2 _ _ a8
  replace b5 := c1.2 _ _ b5
  replace d8 := c1.2 _ _ d8
  replace b7 := c1.2 _ _ b7
  replace e := Keep.le e c1
  replace d4 := b8.keep e (Nat.le_refl _)
  replace m := Keep.le m c1
  replace d6 := c0.keep m (Nat.le_refl _)
  have lt_at26 := GHeap.ltg c2
  replace hin := j.mono x
  replace hin1 := d.mono x
  clear t y z a5 a0 c7 c5 c4 c6 a3 a1 a4 a2
  have t : Fun.At _ g2 0 f p := ⟨Mem.of_get a8, hin⟩
  obtain ⟨y, z, a5, a0, c7, c5⟩ := t.get
  have c4 : MemN _ _ _ _ _ := ⟨rfl, t.1⟩
  have c6 := t.2
  have a3 : MemN _ _ _ _ _ := ⟨rfl, y.1⟩
  have a1 := y.2
  have a4 : MemN _ _ _ _ _ := ⟨rfl, z.1⟩
  have a2 := z.2
  clear w a6 a7 b2 b3 d1 d3 d0 d2 a9 b4 b1 b0
  have w : Fun.At _ g3 0 k q := ⟨Mem.of_get b5, hin1⟩
  obtain ⟨a6, a7, b2, b3, d1, d3⟩ := w.get
  have d0 : MemN _ _ _ _ _ := ⟨rfl, w.1⟩
  have d2 := w.2
  have a9 : MemN _ _ _ _ _ := ⟨rfl, a6.1⟩
  have b4 := a6.2
  have b1 : MemN _ _ _ _ _ := ⟨rfl, a7.1⟩
  have b0 := a7.2
  clear d9
  have d9 := d4.intss
  clear e0
  have e0 := d6.intss
  clear e2
  have e2 := Ints.of_get b7
  have e6 := Ints.of_get c2
  refine .call1 rfl rfl rfl rfl rfl @Try.call184 rfl (l09Build_c (n := (kmOb f k).length) (A := kmAr f k (kmOb f k)) (L := colI (kmOb f k) 0) (R := colI (kmOb f k) 1) (h := by assumption) (hin := by assumption) (hin1 := by assumption) (hL := Ints.of_get (by assumption)) (hR := Ints.of_get (by assumption)) (hSa := ho.p.1.1) (hSb := ho.q.1.1) (hn := h8) (hLl := length_colI _ _) (hRl := length_colI _ _) (hA := kmAr_len hN h8) (hA4 := kmAr_row f k _) (hY := fun i hi => ⟨(kmAr_y hi).l, (kmAr_y hi).u, (kmAr_y hi).v⟩) (hLi := fun i hi => by rw [colI_get hi]; have := (hX i hi).a; omega) (hRi := fun i hi => by rw [colI_get hi]; have := (hX i hi).b; omega)) ?_
  rintro _ f5 ⟨b9, c27, p27, rfl, e3, f0, e7⟩
  replace b6 := b6.trans b9
  refine ⟨b6, ?_⟩
  have nx_H27 := b9.1
  replace x := x.trans b9
  replace a8 := b9.2 _ _ a8
  replace b5 := b9.2 _ _ b5
  replace d8 := b9.2 _ _ d8
  replace b7 := b9.2 _ _ b7
  replace c2 := b9.2 _ _ c2
  replace e := Keep.le e b9
  replace d4 := b8.keep e (Nat.le_refl _)
  replace m := Keep.le m b9
  replace d6 := c0.keep m (Nat.le_refl _)
  have e1 := e3
  have c9 : Keep f7.next f5 f5 := fun _ _ _ h => h
  replace hin := j.mono x
  replace hin1 := d.mono x
  clear t y z a5 a0 c7 c5 c4 c6 a3 a1 a4 a2
  have t : Fun.At _ g2 0 f p := ⟨Mem.of_get a8, hin⟩
  obtain ⟨y, z, a5, a0, c7, c5⟩ := t.get
  have c4 : MemN _ _ _ _ _ := ⟨rfl, t.1⟩
  have c6 := t.2
  have a3 : MemN _ _ _ _ _ := ⟨rfl, y.1⟩
  have a1 := y.2
  have a4 : MemN _ _ _ _ _ := ⟨rfl, z.1⟩
  have a2 := z.2
  clear w a6 a7 b2 b3 d1 d3 d0 d2 a9 b4 b1 b0
  have w : Fun.At _ g3 0 k q := ⟨Mem.of_get b5, hin1⟩
  obtain ⟨a6, a7, b2, b3, d1, d3⟩ := w.get
  have d0 : MemN _ _ _ _ _ := ⟨rfl, w.1⟩
  have d2 := w.2
  have a9 : MemN _ _ _ _ _ := ⟨rfl, a6.1⟩
  have b4 := a6.2
  have b1 : MemN _ _ _ _ _ := ⟨rfl, a7.1⟩
  have b0 := a7.2
  clear d9
  have d9 := d4.intss
  clear e0
  have e0 := d6.intss
  clear e2
  have e2 := Ints.of_get b7
  clear e6
  have e6 := Ints.of_get c2
  have f2 := e3.inn
  refine .r1 rfl rfl rfl (.fillA rfl sz_27_D rfl rfl rfl rfl) ?_
  rintro _ H3014 ⟨rfl, o, c8⟩
  refine ⟨(b6.erase_st o), ?_⟩
  have nx_H3014 := o.nx
  replace x := x.st o (fun k hk => ⟨by omega, trivial⟩)
  replace a8 := o.s a8
  replace b5 := o.s b5
  replace b7 := o.s b7
  replace c2 := o.s c2
  replace e := Keep.st e o (fun k hb hk => ⟨by omega, trivial⟩)
  replace d4 := b8.keep e (Nat.le_refl _)
  replace m := Keep.st m o (fun k hb hk => ⟨by omega, trivial⟩)
  replace d6 := c0.keep m (Nat.le_refl _)
  replace c9 := Keep.st c9 o (fun k hb hk => ⟨by omega, trivial⟩)
  replace e3 := e1.keep c9 (Nat.le_refl _)
  have lt_at3014 := GHeap.ltg c8
  replace hin := j.mono x
  replace hin1 := d.mono x
  clear t y z a5 a0 c7 c5 c4 c6 a3 a1 a4 a2
  have t : Fun.At _ g2 0 f p := ⟨Mem.of_get a8, hin⟩
  obtain ⟨y, z, a5, a0, c7, c5⟩ := t.get
  have c4 : MemN _ _ _ _ _ := ⟨rfl, t.1⟩
  have c6 := t.2
  have a3 : MemN _ _ _ _ _ := ⟨rfl, y.1⟩
  have a1 := y.2
  have a4 : MemN _ _ _ _ _ := ⟨rfl, z.1⟩
  have a2 := z.2
  clear w a6 a7 b2 b3 d1 d3 d0 d2 a9 b4 b1 b0
  have w : Fun.At _ g3 0 k q := ⟨Mem.of_get b5, hin1⟩
  obtain ⟨a6, a7, b2, b3, d1, d3⟩ := w.get
  have d0 : MemN _ _ _ _ _ := ⟨rfl, w.1⟩
  have d2 := w.2
  have a9 : MemN _ _ _ _ _ := ⟨rfl, a6.1⟩
  have b4 := a6.2
  have b1 : MemN _ _ _ _ _ := ⟨rfl, a7.1⟩
  have b0 := a7.2
  clear d9
  have d9 := d4.intss
  clear e0
  have e0 := d6.intss
  clear e2
  have e2 := Ints.of_get b7
  clear e6
  have e6 := Ints.of_get c2
  clear f2
  have f2 := e3.inn
  have mm3014 : MemN _ _ _ _ _ := ⟨rfl, Mem.of_get c8⟩
  replace b6 := b6.erase_st o
  refine .qB rfl b6 (.assign rfl) (.qB rfl b6 (.assign rfl) ?_)
  refine .done ?_
  refine g0 _ _ ?_
  refine .ret ?_
  refine f1 _ _ ?_
  refine ⟨_, _, _, _, _, _, rfl, ag_27_D, (by rfl), (Mem.of_get c8), rfl, rfl, ?_⟩
  exact ⟨x, _, _, _, _, _, _, rfl, e3.keep (.of_le (.refl _)) (by omega), d4.keep (.of_le (.refl _)) (by omega), d6.keep (.of_le (.refl _)) (by omega), f0, e7⟩
set_option maxHeartbeats 8000000 in
theorem l09Code_c {f k : Fun} {p q : FunP} {H : GHeap} (hin : f.In H p := by assumption) (hin1 : k.In H q := by assumption) (hs : f.Small := by assumption) (hs1 : k.Small := by assumption) :
    GCalls Try.prog 72 [.agg (f.cells p).toArray, .agg (k.cells q).toArray] H (fun v H' => H.Le H' ∧ ∃ (c : Cat) (pc : CatP) (a : Option Addr) (r : Nat → Option Addr) (b : Option Addr) (s : Nat → Option Addr),
      v = .tuple #[.agg (c.cells pc).toArray, .slice a (kmRO f k).length (kmRO f k).length, .slice b (kmRA f k).length (kmRA f k).length, .int .i64 (kmC f k)] ∧ IntssR H.next H' a (kmRO f k) r ∧ IntssR H.next H' b (kmRA f k) s) := by
  refine GCalls.body (N := 46) (rs := [.cell 4 27, .tmp 5, .tmp 6, .tmp 7]) Try.func72 rfl rfl rfl rfl (fun Qx e6 hend => ?_)
  refine .fg [0, 1] rfl ?_
  have l := GHeap.Le.refl H
  have e := hin
  have d := hin1
  refine .seq (fun K1 h4 => .region ?_)
  refine .R rfl (.boxR rfl sz_33_E rfl) ?_
  rintro _ H2 ⟨g2, rfl, h2, ge2, b6⟩
  have nx_H2 := h2.1
  replace l := l.trans h2
  have lt_at2 := GHeap.ltg b6
  replace hin := e.mono l
  replace hin1 := d.mono l
  have m : Fun.At _ g2 0 f p := ⟨Mem.of_get b6, hin⟩
  obtain ⟨z, y, a2, a0, c4, c2⟩ := m.get
  have c1 : MemN _ _ _ _ _ := ⟨rfl, m.1⟩
  have c3 := m.2
  have a4 : MemN _ _ _ _ _ := ⟨rfl, z.1⟩
  have a3 := z.2
  have a5 : MemN _ _ _ _ _ := ⟨rfl, y.1⟩
  have a1 := y.2
  refine .R rfl (.boxR rfl sz_33_E rfl) ?_
  rintro _ H3 ⟨g3, rfl, g1, ge3, b7⟩
  have nx_H3 := g1.1
  replace l := l.trans g1
  replace b6 := g1.2 _ _ b6
  have lt_at3 := GHeap.ltg b7
  replace hin := e.mono l
  replace hin1 := d.mono l
  clear m z y a2 a0 c4 c2 c1 c3 a4 a3 a5 a1
  have m : Fun.At _ g2 0 f p := ⟨Mem.of_get b6, hin⟩
  obtain ⟨z, y, a2, a0, c4, c2⟩ := m.get
  have c1 : MemN _ _ _ _ _ := ⟨rfl, m.1⟩
  have c3 := m.2
  have a4 : MemN _ _ _ _ _ := ⟨rfl, z.1⟩
  have a3 := z.2
  have a5 : MemN _ _ _ _ _ := ⟨rfl, y.1⟩
  have a1 := y.2
  have n : Fun.At _ g3 0 k q := ⟨Mem.of_get b7, hin1⟩
  obtain ⟨a7, a8, b0, b1, c6, c8⟩ := n.get
  have c5 : MemN _ _ _ _ _ := ⟨rfl, n.1⟩
  have c7 := n.2
  have b3 : MemN _ _ _ _ _ := ⟨rfl, a7.1⟩
  have b2 := a7.2
  have b4 : MemN _ _ _ _ _ := ⟨rfl, a8.1⟩
  have a9 := a8.2
  refine .R rfl (.allocR rfl ze_27_E rfl) ?_
  rintro _ H4 ⟨g4, rfl, f8, ge4, f1⟩
  have nx_H4 := f8.1
  replace l := l.trans f8
  replace b6 := f8.2 _ _ b6
  replace b7 := f8.2 _ _ b7
  have lt_at4 := GHeap.ltg f1
  replace hin := e.mono l
  replace hin1 := d.mono l
  clear m z y a2 a0 c4 c2 c1 c3 a4 a3 a5 a1
  have m : Fun.At _ g2 0 f p := ⟨Mem.of_get b6, hin⟩
  obtain ⟨z, y, a2, a0, c4, c2⟩ := m.get
  have c1 : MemN _ _ _ _ _ := ⟨rfl, m.1⟩
  have c3 := m.2
  have a4 : MemN _ _ _ _ _ := ⟨rfl, z.1⟩
  have a3 := z.2
  have a5 : MemN _ _ _ _ _ := ⟨rfl, y.1⟩
  have a1 := y.2
  clear n a7 a8 b0 b1 c6 c8 c5 c7 b3 b2 b4 a9
  have n : Fun.At _ g3 0 k q := ⟨Mem.of_get b7, hin1⟩
  obtain ⟨a7, a8, b0, b1, c6, c8⟩ := n.get
  have c5 : MemN _ _ _ _ _ := ⟨rfl, n.1⟩
  have c7 := n.2
  have b3 : MemN _ _ _ _ _ := ⟨rfl, a7.1⟩
  have b2 := a7.2
  have b4 : MemN _ _ _ _ _ := ⟨rfl, a8.1⟩
  have a9 := a8.2
  refine .mv rfl (.mv rfl (.mv rfl (.nil (h4 _ _ (.seq (fun K2 h6 => .seq (fun K3 h9 => .region ?_)))))))
  refine .q rfl (.loadM ag_33_E rfl ⟨rfl, Mem.of_get b6⟩) ?_
  refine .q rfl (.loadM ag_33_E rfl ⟨rfl, Mem.of_get b7⟩) ?_
  refine .callQ rfl rfl rfl rfl @Try.call134 rfl (l06Two_c) ?_
  refine .mv rfl (.nil (h9 _ _ (.seq (fun K4 h7 => .region (.mv rfl (.q rfl (.cmp rfl rfl rfl) (.nil (h7 _ _ ?_))))))))
  refine .cond rfl (fun f4 => ?_) (fun f4 => ?_)
  ·
   simp only [sps] at f4
   have hI : ¬ (f.Is ∧ k.Is) := fun hh => by rw [B_true hh] at f4; exact f4 rfl
   have hC := kmC_1 hI
   refine .seq (fun K5 i3 => .region (.q rfl (.build bt_27_Mb rfl rfl rfl) (.mv rfl ?_)))
   refine .r0 rfl rfl (.fillA rfl sz_27_D rfl rfl rfl rfl) ?_
   rintro _ H3002 ⟨rfl, c9, d7⟩
   have nx_H3002 := c9.nx
   replace l := l.st c9 (fun k hk => ⟨by omega, trivial⟩)
   have i : NE g2 g4 := .a
   replace b6 := c9.s b6 i.ne
   have j : NE g3 g4 := .a
   replace b7 := c9.s b7 j.ne
   have lt_at3002 := GHeap.ltg d7
   replace hin := e.mono l
   replace hin1 := d.mono l
   clear m z y a2 a0 c4 c2 c1 c3 a4 a3 a5 a1
   have m : Fun.At _ g2 0 f p := ⟨Mem.of_get b6, hin⟩
   obtain ⟨z, y, a2, a0, c4, c2⟩ := m.get
   have c1 : MemN _ _ _ _ _ := ⟨rfl, m.1⟩
   have c3 := m.2
   have a4 : MemN _ _ _ _ _ := ⟨rfl, z.1⟩
   have a3 := z.2
   have a5 : MemN _ _ _ _ _ := ⟨rfl, y.1⟩
   have a1 := y.2
   clear n a7 a8 b0 b1 c6 c8 c5 c7 b3 b2 b4 a9
   have n : Fun.At _ g3 0 k q := ⟨Mem.of_get b7, hin1⟩
   obtain ⟨a7, a8, b0, b1, c6, c8⟩ := n.get
   have c5 : MemN _ _ _ _ _ := ⟨rfl, n.1⟩
   have c7 := n.2
   have b3 : MemN _ _ _ _ _ := ⟨rfl, a7.1⟩
   have b2 := a7.2
   have b4 : MemN _ _ _ _ _ := ⟨rfl, a8.1⟩
   have a9 := a8.2
   have mm3002 : MemN _ _ _ _ _ := ⟨rfl, Mem.of_get d7⟩
   refine .mv rfl (.mv rfl (.mv rfl (.nil (i3 _ _ ?_))))
   refine .ret ?_
   refine e6 _ _ ?_
   refine ⟨_, _, _, _, _, _, _, rfl, ag_27_D, (by rfl), (Mem.of_get d7), rfl, rfl, rfl, ?_⟩
   first
   | (obtain ⟨e1, e2⟩ := kmR_ok hC; rw [e1, e2, hC]; exact ⟨l, _, _, _, _, _, _, rfl, e7.keep (.of_le (.refl _)) (by omega), e9.keep (.of_le (.refl _)) (by omega)⟩)
   | (obtain ⟨e1, e2⟩ := kmR_not (f := f) (k := k) (by rw [hC]; decide); rw [e1, e2, hC]; exact ⟨l, .zero, .zero, none, fun _ => none, none, fun _ => none, by first | rfl | (rw [B_false hI]; rfl), .nil _ _ _, .nil _ _ _⟩)
  simp only [sps] at f4
  have hI : f.Is ∧ k.Is := by
    by_cases hh : f.Is ∧ k.Is
    · exact hh
    · rw [B_false hh] at f4; cases f4
  refine .skip ?_
  refine h6 _ _ (.seq (fun K6 h3 => .seq (fun K7 i1 => .region (.q rfl (.fieldAddr fo_33_1_E rfl) ?_))))
  refine .q rfl (.loadM ag_27_D rfl (by assumption)) ?_
  refine .q rfl (.fieldAddr fo_33_1_E rfl) ?_
  refine .q rfl (.loadM ag_27_D rfl (by assumption)) ?_
  refine .callQ rfl rfl rfl rfl @Try.call85 rfl (l02Same_c (hs := hs.2.1) (hs' := hs1.2.1)) ?_
  refine .q rfl (.not rfl) (.nil (i1 _ _ ?_))
  refine .cond rfl (fun f2 => ?_) (fun f2 => ?_)
  ·
   simp only [sps] at f2
   have hC := kmC_5 hI f2
   refine .seq (fun K8 i2 => .region (.q rfl (.build bt_27_Mb rfl rfl rfl) ?_))
   refine .r0 rfl rfl (.fillA rfl sz_27_D rfl rfl rfl rfl) ?_
   rintro _ H5001 ⟨rfl, d6, d8⟩
   have nx_H5001 := d6.nx
   replace l := l.st d6 (fun k hk => ⟨by omega, trivial⟩)
   have i : NE g2 g4 := .a
   replace b6 := d6.s b6 i.ne
   have j : NE g3 g4 := .a
   replace b7 := d6.s b7 j.ne
   have lt_at5001 := GHeap.ltg d8
   replace hin := e.mono l
   replace hin1 := d.mono l
   clear m z y a2 a0 c4 c2 c1 c3 a4 a3 a5 a1
   have m : Fun.At _ g2 0 f p := ⟨Mem.of_get b6, hin⟩
   obtain ⟨z, y, a2, a0, c4, c2⟩ := m.get
   have c1 : MemN _ _ _ _ _ := ⟨rfl, m.1⟩
   have c3 := m.2
   have a4 : MemN _ _ _ _ _ := ⟨rfl, z.1⟩
   have a3 := z.2
   have a5 : MemN _ _ _ _ _ := ⟨rfl, y.1⟩
   have a1 := y.2
   clear n a7 a8 b0 b1 c6 c8 c5 c7 b3 b2 b4 a9
   have n : Fun.At _ g3 0 k q := ⟨Mem.of_get b7, hin1⟩
   obtain ⟨a7, a8, b0, b1, c6, c8⟩ := n.get
   have c5 : MemN _ _ _ _ _ := ⟨rfl, n.1⟩
   have c7 := n.2
   have b3 : MemN _ _ _ _ _ := ⟨rfl, a7.1⟩
   have b2 := a7.2
   have b4 : MemN _ _ _ _ _ := ⟨rfl, a8.1⟩
   have a9 := a8.2
   have mm5001 : MemN _ _ _ _ _ := ⟨rfl, Mem.of_get d8⟩
   refine .mv rfl (.mv rfl (.mv rfl (.nil (i2 _ _ ?_))))
   refine .ret ?_
   refine e6 _ _ ?_
   refine ⟨_, _, _, _, _, _, _, rfl, ag_27_D, (by rfl), (Mem.of_get d8), rfl, rfl, rfl, ?_⟩
   first
   | (obtain ⟨e1, e2⟩ := kmR_ok hC; rw [e1, e2, hC]; exact ⟨l, _, _, _, _, _, _, rfl, e7.keep (.of_le (.refl _)) (by omega), e9.keep (.of_le (.refl _)) (by omega)⟩)
   | (obtain ⟨e1, e2⟩ := kmR_not (f := f) (k := k) (by rw [hC]; decide); rw [e1, e2, hC]; exact ⟨l, .zero, .zero, none, fun _ => none, none, fun _ => none, by first | rfl | (rw [B_false hI]; rfl), .nil _ _ _, .nil _ _ _⟩)
  simp only [sps] at f2
  have ho : KmOk f k := ⟨hI.1, hI.2, f2⟩
  refine .skip ?_
  refine h3 _ _ (.seq (fun K9 i0 => .seq (fun K10 h1 => .region ?_)))
  refine .q rfl (.loadM ag_33_E rfl ⟨rfl, Mem.of_get b6⟩) ?_
  refine .q rfl (.loadM ag_33_E rfl ⟨rfl, Mem.of_get b7⟩) ?_
  refine .call rfl rfl rfl rfl @Try.call135 rfl (l09Objects_c (ho := ho)) ?_
  rintro _ f6 ⟨e5, a28, r28, rfl, e0⟩
  have nx_H28 := e5.1
  replace l := l.trans e5
  replace b6 := e5.2 _ _ b6
  replace b7 := e5.2 _ _ b7
  replace f1 := e5.2 _ _ f1
  have b8 := e0
  have g : Keep H4.next f6 f6 := fun _ _ _ h => h
  replace hin := e.mono l
  replace hin1 := d.mono l
  clear m z y a2 a0 c4 c2 c1 c3 a4 a3 a5 a1
  have m : Fun.At _ g2 0 f p := ⟨Mem.of_get b6, hin⟩
  obtain ⟨z, y, a2, a0, c4, c2⟩ := m.get
  have c1 : MemN _ _ _ _ _ := ⟨rfl, m.1⟩
  have c3 := m.2
  have a4 : MemN _ _ _ _ _ := ⟨rfl, z.1⟩
  have a3 := z.2
  have a5 : MemN _ _ _ _ _ := ⟨rfl, y.1⟩
  have a1 := y.2
  clear n a7 a8 b0 b1 c6 c8 c5 c7 b3 b2 b4 a9
  have n : Fun.At _ g3 0 k q := ⟨Mem.of_get b7, hin1⟩
  obtain ⟨a7, a8, b0, b1, c6, c8⟩ := n.get
  have c5 : MemN _ _ _ _ _ := ⟨rfl, n.1⟩
  have c7 := n.2
  have b3 : MemN _ _ _ _ _ := ⟨rfl, a7.1⟩
  have b2 := a7.2
  have b4 : MemN _ _ _ _ _ := ⟨rfl, a8.1⟩
  have a9 := a8.2
  have e4 := e0.intss
  refine .q rfl (.len sl_25_B rfl) (.q rfl (.cmp rfl rfl rfl) (.nil (h1 _ _ ?_)))
  refine .cond rfl (fun g8 => ?_) (fun g8 => ?_)
  ·
   simp only [sps] at g8
   have hC := kmC_3 hI f2 (fun hh => by omega)
   refine .seq (fun K11 h0 => .region (.q rfl (.build bt_27_Mb rfl rfl rfl) ?_))
   refine .r0 rfl rfl (.fillA rfl sz_27_D rfl rfl rfl rfl) ?_
   rintro _ H7001 ⟨rfl, b9, d9⟩
   have nx_H7001 := b9.nx
   replace l := l.st b9 (fun k hk => ⟨by omega, trivial⟩)
   have i : NE g2 g4 := .a
   replace b6 := b9.s b6 i.ne
   have j : NE g3 g4 := .a
   replace b7 := b9.s b7 j.ne
   replace g := Keep.st g b9 (fun k hb hk => ⟨by omega, trivial⟩)
   replace e0 := b8.keep g (Nat.le_refl _)
   have lt_at7001 := GHeap.ltg d9
   replace hin := e.mono l
   replace hin1 := d.mono l
   clear m z y a2 a0 c4 c2 c1 c3 a4 a3 a5 a1
   have m : Fun.At _ g2 0 f p := ⟨Mem.of_get b6, hin⟩
   obtain ⟨z, y, a2, a0, c4, c2⟩ := m.get
   have c1 : MemN _ _ _ _ _ := ⟨rfl, m.1⟩
   have c3 := m.2
   have a4 : MemN _ _ _ _ _ := ⟨rfl, z.1⟩
   have a3 := z.2
   have a5 : MemN _ _ _ _ _ := ⟨rfl, y.1⟩
   have a1 := y.2
   clear n a7 a8 b0 b1 c6 c8 c5 c7 b3 b2 b4 a9
   have n : Fun.At _ g3 0 k q := ⟨Mem.of_get b7, hin1⟩
   obtain ⟨a7, a8, b0, b1, c6, c8⟩ := n.get
   have c5 : MemN _ _ _ _ _ := ⟨rfl, n.1⟩
   have c7 := n.2
   have b3 : MemN _ _ _ _ _ := ⟨rfl, a7.1⟩
   have b2 := a7.2
   have b4 : MemN _ _ _ _ _ := ⟨rfl, a8.1⟩
   have a9 := a8.2
   clear e4
   have e4 := e0.intss
   have mm7001 : MemN _ _ _ _ _ := ⟨rfl, Mem.of_get d9⟩
   refine .mv rfl (.mv rfl (.mv rfl (.nil (h0 _ _ ?_))))
   refine .ret ?_
   refine e6 _ _ ?_
   refine ⟨_, _, _, _, _, _, _, rfl, ag_27_D, (by rfl), (Mem.of_get d9), rfl, rfl, rfl, ?_⟩
   first
   | (obtain ⟨e1, e2⟩ := kmR_ok hC; rw [e1, e2, hC]; exact ⟨l, _, _, _, _, _, _, rfl, e7.keep (.of_le (.refl _)) (by omega), e9.keep (.of_le (.refl _)) (by omega)⟩)
   | (obtain ⟨e1, e2⟩ := kmR_not (f := f) (k := k) (by rw [hC]; decide); rw [e1, e2, hC]; exact ⟨l, .zero, .zero, none, fun _ => none, none, fun _ => none, by first | rfl | (rw [B_false hI]; rfl), .nil _ _ _, .nil _ _ _⟩)
  simp only [sps] at g8
  refine .skip ?_
  refine i0 _ _ (.seq (fun K12 g6 => .region ?_))
  refine .q rfl (.loadM ag_33_E rfl ⟨rfl, Mem.of_get b6⟩) ?_
  refine .q rfl (.loadM ag_33_E rfl ⟨rfl, Mem.of_get b7⟩) ?_
  refine .call rfl rfl rfl rfl @Try.call136 rfl (l09Comma_c (ho := ho) (h8 := by omega)) ?_
  rintro _ f5 ⟨e3, c35, p35, a35, r35, b35, s35, rfl, e8, e7, e9, ob35, sl35⟩
  have nx_H35 := e3.1
  replace l := l.trans e3
  replace b6 := e3.2 _ _ b6
  replace b7 := e3.2 _ _ b7
  replace f1 := e3.2 _ _ f1
  replace g := Keep.le g e3
  replace e0 := b8.keep g (Nat.le_refl _)
  have d0 := e8
  have o : Keep f6.next f5 f5 := fun _ _ _ h => h
  have d3 := e7
  have u : Keep f6.next f5 f5 := fun _ _ _ h => h
  have d2 := e9
  have t : Keep f6.next f5 f5 := fun _ _ _ h => h
  replace hin := e.mono l
  replace hin1 := d.mono l
  clear m z y a2 a0 c4 c2 c1 c3 a4 a3 a5 a1
  have m : Fun.At _ g2 0 f p := ⟨Mem.of_get b6, hin⟩
  obtain ⟨z, y, a2, a0, c4, c2⟩ := m.get
  have c1 : MemN _ _ _ _ _ := ⟨rfl, m.1⟩
  have c3 := m.2
  have a4 : MemN _ _ _ _ _ := ⟨rfl, z.1⟩
  have a3 := z.2
  have a5 : MemN _ _ _ _ _ := ⟨rfl, y.1⟩
  have a1 := y.2
  clear n a7 a8 b0 b1 c6 c8 c5 c7 b3 b2 b4 a9
  have n : Fun.At _ g3 0 k q := ⟨Mem.of_get b7, hin1⟩
  obtain ⟨a7, a8, b0, b1, c6, c8⟩ := n.get
  have c5 : MemN _ _ _ _ _ := ⟨rfl, n.1⟩
  have c7 := n.2
  have b3 : MemN _ _ _ _ _ := ⟨rfl, a7.1⟩
  have b2 := a7.2
  have b4 : MemN _ _ _ _ _ := ⟨rfl, a8.1⟩
  have a9 := a8.2
  clear e4
  have e4 := e0.intss
  have f3 := e8.inn
  refine .mv rfl (.q rfl (.extract rfl rfl) (.q rfl (.extract rfl rfl) (.q rfl (.extract rfl rfl) ?_)))
  refine .R rfl (.allocR rfl ze_27_E rfl) ?_
  rintro _ H9 ⟨g9, rfl, f0, ge9, h5⟩
  have nx_H9 := f0.1
  replace l := l.trans f0
  replace b6 := f0.2 _ _ b6
  replace b7 := f0.2 _ _ b7
  replace f1 := f0.2 _ _ f1
  replace g := Keep.le g f0
  replace e0 := b8.keep g (Nat.le_refl _)
  replace o := Keep.le o f0
  replace e8 := d0.keep o (Nat.le_refl _)
  replace u := Keep.le u f0
  replace e7 := d3.keep u (Nat.le_refl _)
  replace t := Keep.le t f0
  replace e9 := d2.keep t (Nat.le_refl _)
  have lt_at9 := GHeap.ltg h5
  replace hin := e.mono l
  replace hin1 := d.mono l
  clear m z y a2 a0 c4 c2 c1 c3 a4 a3 a5 a1
  have m : Fun.At _ g2 0 f p := ⟨Mem.of_get b6, hin⟩
  obtain ⟨z, y, a2, a0, c4, c2⟩ := m.get
  have c1 : MemN _ _ _ _ _ := ⟨rfl, m.1⟩
  have c3 := m.2
  have a4 : MemN _ _ _ _ _ := ⟨rfl, z.1⟩
  have a3 := z.2
  have a5 : MemN _ _ _ _ _ := ⟨rfl, y.1⟩
  have a1 := y.2
  clear n a7 a8 b0 b1 c6 c8 c5 c7 b3 b2 b4 a9
  have n : Fun.At _ g3 0 k q := ⟨Mem.of_get b7, hin1⟩
  obtain ⟨a7, a8, b0, b1, c6, c8⟩ := n.get
  have c5 : MemN _ _ _ _ _ := ⟨rfl, n.1⟩
  have c7 := n.2
  have b3 : MemN _ _ _ _ _ := ⟨rfl, a7.1⟩
  have b2 := a7.2
  have b4 : MemN _ _ _ _ _ := ⟨rfl, a8.1⟩
  have a9 := a8.2
  clear e4
  have e4 := e0.intss
  clear f3
  have f3 := e8.inn
  refine .r0 rfl rfl (.fillA rfl sz_27_D rfl rfl rfl rfl) ?_
  rintro _ H8008 ⟨rfl, b5, a6⟩
  have nx_H8008 := b5.nx
  replace l := l.st b5 (fun k hk => ⟨by omega, trivial⟩)
  replace b6 := b5.s b6
  replace b7 := b5.s b7
  have c0 : NE g4 g9 := .a
  replace f1 := b5.s f1 c0.ne
  replace g := Keep.st g b5 (fun k hb hk => ⟨by omega, trivial⟩)
  replace e0 := b8.keep g (Nat.le_refl _)
  replace o := Keep.st o b5 (fun k hb hk => ⟨by omega, trivial⟩)
  replace e8 := d0.keep o (Nat.le_refl _)
  replace u := Keep.st u b5 (fun k hb hk => ⟨by omega, trivial⟩)
  replace e7 := d3.keep u (Nat.le_refl _)
  replace t := Keep.st t b5 (fun k hb hk => ⟨by omega, trivial⟩)
  replace e9 := d2.keep t (Nat.le_refl _)
  have lt_at8008 := GHeap.ltg a6
  replace hin := e.mono l
  replace hin1 := d.mono l
  clear m z y a2 a0 c4 c2 c1 c3 a4 a3 a5 a1
  have m : Fun.At _ g2 0 f p := ⟨Mem.of_get b6, hin⟩
  obtain ⟨z, y, a2, a0, c4, c2⟩ := m.get
  have c1 : MemN _ _ _ _ _ := ⟨rfl, m.1⟩
  have c3 := m.2
  have a4 : MemN _ _ _ _ _ := ⟨rfl, z.1⟩
  have a3 := z.2
  have a5 : MemN _ _ _ _ _ := ⟨rfl, y.1⟩
  have a1 := y.2
  clear n a7 a8 b0 b1 c6 c8 c5 c7 b3 b2 b4 a9
  have n : Fun.At _ g3 0 k q := ⟨Mem.of_get b7, hin1⟩
  obtain ⟨a7, a8, b0, b1, c6, c8⟩ := n.get
  have c5 : MemN _ _ _ _ _ := ⟨rfl, n.1⟩
  have c7 := n.2
  have b3 : MemN _ _ _ _ _ := ⟨rfl, a7.1⟩
  have b2 := a7.2
  have b4 : MemN _ _ _ _ _ := ⟨rfl, a8.1⟩
  have a9 := a8.2
  clear e4
  have e4 := e0.intss
  clear f3
  have f3 := e8.inn
  have d5 : MemN _ _ _ _ _ := ⟨rfl, Mem.of_get a6⟩
  refine .mv rfl (.mv rfl (.nil (g6 _ _ (.seq (fun K13 g5 => .seq (fun K14 f9 => .region ?_))))))
  refine .q rfl (.loadM ag_27_D rfl ⟨rfl, Mem.of_get a6⟩) ?_
  refine .callQ rfl rfl rfl rfl @Try.call137 rfl (l02Fits_c) ?_
  refine .q rfl (.not rfl) (.nil (f9 _ _ ?_))
  refine .cond rfl (fun f7 => ?_) (fun f7 => ?_)
  ·
   simp only [sps] at f7
   have hC := kmC_3 hI f2 (fun hh => f7 ⟨by omega, by omega⟩)
   refine .seq (fun K15 g7 => .region (.q rfl (.build bt_27_Mb rfl rfl rfl) ?_))
   refine .r0 rfl rfl (.fillA rfl sz_27_D rfl rfl rfl rfl) ?_
   rintro _ H10001 ⟨rfl, w, d1⟩
   have nx_H10001 := w.nx
   replace l := l.st w (fun k hk => ⟨by omega, trivial⟩)
   have i : NE g2 g4 := .a
   replace b6 := w.s b6 i.ne
   have j : NE g3 g4 := .a
   replace b7 := w.s b7 j.ne
   replace a6 := w.s a6 (Ne.symm c0.ne)
   replace g := Keep.st g w (fun k hb hk => ⟨by omega, trivial⟩)
   replace e0 := b8.keep g (Nat.le_refl _)
   replace o := Keep.st o w (fun k hb hk => ⟨by omega, trivial⟩)
   replace e8 := d0.keep o (Nat.le_refl _)
   replace u := Keep.st u w (fun k hb hk => ⟨by omega, trivial⟩)
   replace e7 := d3.keep u (Nat.le_refl _)
   replace t := Keep.st t w (fun k hb hk => ⟨by omega, trivial⟩)
   replace e9 := d2.keep t (Nat.le_refl _)
   have lt_at10001 := GHeap.ltg d1
   replace hin := e.mono l
   replace hin1 := d.mono l
   clear m z y a2 a0 c4 c2 c1 c3 a4 a3 a5 a1
   have m : Fun.At _ g2 0 f p := ⟨Mem.of_get b6, hin⟩
   obtain ⟨z, y, a2, a0, c4, c2⟩ := m.get
   have c1 : MemN _ _ _ _ _ := ⟨rfl, m.1⟩
   have c3 := m.2
   have a4 : MemN _ _ _ _ _ := ⟨rfl, z.1⟩
   have a3 := z.2
   have a5 : MemN _ _ _ _ _ := ⟨rfl, y.1⟩
   have a1 := y.2
   clear n a7 a8 b0 b1 c6 c8 c5 c7 b3 b2 b4 a9
   have n : Fun.At _ g3 0 k q := ⟨Mem.of_get b7, hin1⟩
   obtain ⟨a7, a8, b0, b1, c6, c8⟩ := n.get
   have c5 : MemN _ _ _ _ _ := ⟨rfl, n.1⟩
   have c7 := n.2
   have b3 : MemN _ _ _ _ _ := ⟨rfl, a7.1⟩
   have b2 := a7.2
   have b4 : MemN _ _ _ _ _ := ⟨rfl, a8.1⟩
   have a9 := a8.2
   clear e4
   have e4 := e0.intss
   clear f3
   have f3 := e8.inn
   clear d5
   have d5 : MemN _ _ _ _ _ := ⟨rfl, Mem.of_get a6⟩
   have mm10001 : MemN _ _ _ _ _ := ⟨rfl, Mem.of_get d1⟩
   refine .mv rfl (.mv rfl (.mv rfl (.nil (g7 _ _ ?_))))
   refine .ret ?_
   refine e6 _ _ ?_
   refine ⟨_, _, _, _, _, _, _, rfl, ag_27_D, (by rfl), (Mem.of_get d1), rfl, rfl, rfl, ?_⟩
   first
   | (obtain ⟨e1, e2⟩ := kmR_ok hC; rw [e1, e2, hC]; exact ⟨l, _, _, _, _, _, _, rfl, e7.keep (.of_le (.refl _)) (by omega), e9.keep (.of_le (.refl _)) (by omega)⟩)
   | (obtain ⟨e1, e2⟩ := kmR_not (f := f) (k := k) (by rw [hC]; decide); rw [e1, e2, hC]; exact ⟨l, .zero, .zero, none, fun _ => none, none, fun _ => none, by first | rfl | (rw [B_false hI]; rfl), .nil _ _ _, .nil _ _ _⟩)
  simp only [sps] at f7
  have hC := kmC_0 hI f2 (by omega) (by omega)
  refine .skip ?_
  refine g5 _ _ (.seq (fun K16 g0 => .region ?_))
  refine .q rfl (.loadM ag_27_D rfl ⟨rfl, Mem.of_get a6⟩) ?_
  refine .mv rfl (.mv rfl ?_)
  refine .r0 rfl rfl (.fillA rfl sz_27_D rfl rfl rfl rfl) ?_
  rintro _ H11003 ⟨rfl, x, d4⟩
  have nx_H11003 := x.nx
  replace l := l.st x (fun k hk => ⟨by omega, trivial⟩)
  have i : NE g2 g4 := .a
  replace b6 := x.s b6 i.ne
  have j : NE g3 g4 := .a
  replace b7 := x.s b7 j.ne
  replace a6 := x.s a6 (Ne.symm c0.ne)
  replace g := Keep.st g x (fun k hb hk => ⟨by omega, trivial⟩)
  replace e0 := b8.keep g (Nat.le_refl _)
  replace o := Keep.st o x (fun k hb hk => ⟨by omega, trivial⟩)
  replace e8 := d0.keep o (Nat.le_refl _)
  replace u := Keep.st u x (fun k hb hk => ⟨by omega, trivial⟩)
  replace e7 := d3.keep u (Nat.le_refl _)
  replace t := Keep.st t x (fun k hb hk => ⟨by omega, trivial⟩)
  replace e9 := d2.keep t (Nat.le_refl _)
  have lt_at11003 := GHeap.ltg d4
  replace hin := e.mono l
  replace hin1 := d.mono l
  clear m z y a2 a0 c4 c2 c1 c3 a4 a3 a5 a1
  have m : Fun.At _ g2 0 f p := ⟨Mem.of_get b6, hin⟩
  obtain ⟨z, y, a2, a0, c4, c2⟩ := m.get
  have c1 : MemN _ _ _ _ _ := ⟨rfl, m.1⟩
  have c3 := m.2
  have a4 : MemN _ _ _ _ _ := ⟨rfl, z.1⟩
  have a3 := z.2
  have a5 : MemN _ _ _ _ _ := ⟨rfl, y.1⟩
  have a1 := y.2
  clear n a7 a8 b0 b1 c6 c8 c5 c7 b3 b2 b4 a9
  have n : Fun.At _ g3 0 k q := ⟨Mem.of_get b7, hin1⟩
  obtain ⟨a7, a8, b0, b1, c6, c8⟩ := n.get
  have c5 : MemN _ _ _ _ _ := ⟨rfl, n.1⟩
  have c7 := n.2
  have b3 : MemN _ _ _ _ _ := ⟨rfl, a7.1⟩
  have b2 := a7.2
  have b4 : MemN _ _ _ _ _ := ⟨rfl, a8.1⟩
  have a9 := a8.2
  clear e4
  have e4 := e0.intss
  clear f3
  have f3 := e8.inn
  clear d5
  have d5 : MemN _ _ _ _ _ := ⟨rfl, Mem.of_get a6⟩
  have mm11003 : MemN _ _ _ _ _ := ⟨rfl, Mem.of_get d4⟩
  refine .mv rfl (.mv rfl (.mv rfl (.nil (g0 _ _ ?_))))
  refine .ret ?_
  refine e6 _ _ ?_
  refine ⟨_, _, _, _, _, _, _, rfl, ag_27_D, (by rfl), (Mem.of_get d4), rfl, rfl, rfl, ?_⟩
  first
  | (obtain ⟨e1, e2⟩ := kmR_ok hC; rw [e1, e2, hC]; exact ⟨l, _, _, _, _, _, _, rfl, e7.keep (.of_le (.refl _)) (by omega), e9.keep (.of_le (.refl _)) (by omega)⟩)
  | (obtain ⟨e1, e2⟩ := kmR_not (f := f) (k := k) (by rw [hC]; decide); rw [e1, e2, hC]; exact ⟨l, .zero, .zero, none, fun _ => none, none, fun _ => none, by first | rfl | (rw [B_false hI]; rfl), .nil _ _ _, .nil _ _ _⟩)
theorem specCommaObjects_c {f k : Fun} {p q : FunP} {H : GHeap} (hin : f.In H p := by assumption) (hin1 : k.In H q := by assumption) (hs : f.Small := by assumption) (hs1 : k.Small := by assumption) :
    GCalls Try.prog 32 [.agg (f.cells p).toArray, .agg (k.cells q).toArray] H (fun v H' => H.Le H' ∧ ∃ a r, v = .tuple #[.slice a (kmRO f k).length (kmRO f k).length, .int .i64 (kmC f k)] ∧ IntssR H.next H' a (kmRO f k) r) := by
  refine GCalls.body (N := 20) (rs := [.tmp 4, .tmp 5]) Try.func32 rfl rfl rfl rfl (fun Qx c6 hend => ?_)
  refine .fg [0, 1] rfl ?_
  have j := GHeap.Le.refl H
  have c := hin
  have b := hin1
  refine .seq (fun K1 c9 => .region ?_)
  refine .R rfl (.boxR rfl sz_33_E rfl) ?_
  rintro _ H2 ⟨g2, rfl, c7, ge2, z⟩
  have nx_H2 := c7.1
  replace j := j.trans c7
  have lt_at2 := GHeap.ltg z
  replace hin := c.mono j
  replace hin1 := b.mono j
  have i : Fun.At _ g2 0 f p := ⟨Mem.of_get z, hin⟩
  obtain ⟨l, m, y, o, b6, b4⟩ := i.get
  have b3 : MemN _ _ _ _ _ := ⟨rfl, i.1⟩
  have b5 := i.2
  have w : MemN _ _ _ _ _ := ⟨rfl, l.1⟩
  have t := l.2
  have x : MemN _ _ _ _ _ := ⟨rfl, m.1⟩
  have u := m.2
  refine .R rfl (.boxR rfl sz_33_E rfl) ?_
  rintro _ H3 ⟨g3, rfl, c5, ge3, a8⟩
  have nx_H3 := c5.1
  replace j := j.trans c5
  replace z := c5.2 _ _ z
  have lt_at3 := GHeap.ltg a8
  replace hin := c.mono j
  replace hin1 := b.mono j
  clear i l m y o b6 b4 b3 b5 w t x u
  have i : Fun.At _ g2 0 f p := ⟨Mem.of_get z, hin⟩
  obtain ⟨l, m, y, o, b6, b4⟩ := i.get
  have b3 : MemN _ _ _ _ _ := ⟨rfl, i.1⟩
  have b5 := i.2
  have w : MemN _ _ _ _ _ := ⟨rfl, l.1⟩
  have t := l.2
  have x : MemN _ _ _ _ _ := ⟨rfl, m.1⟩
  have u := m.2
  have n : Fun.At _ g3 0 k q := ⟨Mem.of_get a8, hin1⟩
  obtain ⟨a0, a1, a5, a6, b9, c1⟩ := n.get
  have b8 : MemN _ _ _ _ _ := ⟨rfl, n.1⟩
  have c0 := n.2
  have a2 : MemN _ _ _ _ _ := ⟨rfl, a0.1⟩
  have a7 := a0.2
  have a4 : MemN _ _ _ _ _ := ⟨rfl, a1.1⟩
  have a3 := a1.2
  refine .mv rfl (.mv rfl (.nil (c9 _ _ (.seq (fun K2 d1 => .region ?_)))))
  refine .q rfl (.loadM ag_33_E rfl ⟨rfl, Mem.of_get z⟩) ?_
  refine .q rfl (.loadM ag_33_E rfl ⟨rfl, Mem.of_get a8⟩) ?_
  refine .call rfl rfl rfl rfl @Try.call72 rfl (l09Code_c) ?_
  rintro _ c2 ⟨b2, c13, p13, a13, r13, b13, s13, rfl, c3, c4⟩
  have nx_H13 := b2.1
  replace j := j.trans b2
  replace z := b2.2 _ _ z
  replace a8 := b2.2 _ _ a8
  have a9 := c3
  have g : Keep H3.next c2 c2 := fun _ _ _ h => h
  have b0 := c4
  have d : Keep H3.next c2 c2 := fun _ _ _ h => h
  replace hin := c.mono j
  replace hin1 := b.mono j
  clear i l m y o b6 b4 b3 b5 w t x u
  have i : Fun.At _ g2 0 f p := ⟨Mem.of_get z, hin⟩
  obtain ⟨l, m, y, o, b6, b4⟩ := i.get
  have b3 : MemN _ _ _ _ _ := ⟨rfl, i.1⟩
  have b5 := i.2
  have w : MemN _ _ _ _ _ := ⟨rfl, l.1⟩
  have t := l.2
  have x : MemN _ _ _ _ _ := ⟨rfl, m.1⟩
  have u := m.2
  clear n a0 a1 a5 a6 b9 c1 b8 c0 a2 a7 a4 a3
  have n : Fun.At _ g3 0 k q := ⟨Mem.of_get a8, hin1⟩
  obtain ⟨a0, a1, a5, a6, b9, c1⟩ := n.get
  have b8 : MemN _ _ _ _ _ := ⟨rfl, n.1⟩
  have c0 := n.2
  have a2 : MemN _ _ _ _ _ := ⟨rfl, a0.1⟩
  have a7 := a0.2
  have a4 : MemN _ _ _ _ _ := ⟨rfl, a1.1⟩
  have a3 := a1.2
  refine .mv rfl (.q rfl (.extract rfl rfl) (.q rfl (.extract rfl rfl) (.q rfl (.extract rfl rfl) (.q rfl (.extract rfl rfl) ?_))))
  refine .R rfl (.allocR rfl ze_27_E rfl) ?_
  rintro _ H6 ⟨g6, rfl, b7, ge6, c8⟩
  have nx_H6 := b7.1
  replace j := j.trans b7
  replace z := b7.2 _ _ z
  replace a8 := b7.2 _ _ a8
  replace g := Keep.le g b7
  replace c3 := a9.keep g (Nat.le_refl _)
  replace d := Keep.le d b7
  replace c4 := b0.keep d (Nat.le_refl _)
  have lt_at6 := GHeap.ltg c8
  replace hin := c.mono j
  replace hin1 := b.mono j
  clear i l m y o b6 b4 b3 b5 w t x u
  have i : Fun.At _ g2 0 f p := ⟨Mem.of_get z, hin⟩
  obtain ⟨l, m, y, o, b6, b4⟩ := i.get
  have b3 : MemN _ _ _ _ _ := ⟨rfl, i.1⟩
  have b5 := i.2
  have w : MemN _ _ _ _ _ := ⟨rfl, l.1⟩
  have t := l.2
  have x : MemN _ _ _ _ _ := ⟨rfl, m.1⟩
  have u := m.2
  clear n a0 a1 a5 a6 b9 c1 b8 c0 a2 a7 a4 a3
  have n : Fun.At _ g3 0 k q := ⟨Mem.of_get a8, hin1⟩
  obtain ⟨a0, a1, a5, a6, b9, c1⟩ := n.get
  have b8 : MemN _ _ _ _ _ := ⟨rfl, n.1⟩
  have c0 := n.2
  have a2 : MemN _ _ _ _ _ := ⟨rfl, a0.1⟩
  have a7 := a0.2
  have a4 : MemN _ _ _ _ _ := ⟨rfl, a1.1⟩
  have a3 := a1.2
  refine .r0 rfl rfl (.fillA rfl sz_27_D rfl rfl rfl rfl) ?_
  rintro _ H1009 ⟨rfl, e, b1⟩
  have nx_H1009 := e.nx
  replace j := j.st e (fun k hk => ⟨by omega, trivial⟩)
  replace z := e.s z
  replace a8 := e.s a8
  replace g := Keep.st g e (fun k hb hk => ⟨by omega, trivial⟩)
  replace c3 := a9.keep g (Nat.le_refl _)
  replace d := Keep.st d e (fun k hb hk => ⟨by omega, trivial⟩)
  replace c4 := b0.keep d (Nat.le_refl _)
  have lt_at1009 := GHeap.ltg b1
  replace hin := c.mono j
  replace hin1 := b.mono j
  clear i l m y o b6 b4 b3 b5 w t x u
  have i : Fun.At _ g2 0 f p := ⟨Mem.of_get z, hin⟩
  obtain ⟨l, m, y, o, b6, b4⟩ := i.get
  have b3 : MemN _ _ _ _ _ := ⟨rfl, i.1⟩
  have b5 := i.2
  have w : MemN _ _ _ _ _ := ⟨rfl, l.1⟩
  have t := l.2
  have x : MemN _ _ _ _ _ := ⟨rfl, m.1⟩
  have u := m.2
  clear n a0 a1 a5 a6 b9 c1 b8 c0 a2 a7 a4 a3
  have n : Fun.At _ g3 0 k q := ⟨Mem.of_get a8, hin1⟩
  obtain ⟨a0, a1, a5, a6, b9, c1⟩ := n.get
  have b8 : MemN _ _ _ _ _ := ⟨rfl, n.1⟩
  have c0 := n.2
  have a2 : MemN _ _ _ _ _ := ⟨rfl, a0.1⟩
  have a7 := a0.2
  have a4 : MemN _ _ _ _ _ := ⟨rfl, a1.1⟩
  have a3 := a1.2
  have mm1009 : MemN _ _ _ _ _ := ⟨rfl, Mem.of_get b1⟩
  refine .mv rfl (.mv rfl (.mv rfl (.nil (d1 _ _ (.seq (fun K3 d0 => .region (.mv rfl (.mv rfl (.mv rfl (.mv rfl (.nil (d0 _ _ ?_))))))))))))
  refine .ret ?_
  refine c6 _ _ ?_
  refine ⟨_, _, rfl, rfl, ?_⟩
  exact ⟨j, _, _, rfl, c3.keep (.of_le (.refl _)) (by omega)⟩
end Go.Proofs.Ytiooclghkafokaa
