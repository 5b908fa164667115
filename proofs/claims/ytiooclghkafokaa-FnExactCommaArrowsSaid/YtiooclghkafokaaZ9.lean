/- Comma categories: the specification's objects and arrows. No condition but those of each statement. -/
import Derived.Test.YtiooclghkafokaaZ8
namespace Go.Proofs.Ytiooclghkafokaa
open Go Go.GL Go.RowKit Go.Proofs
theorem l09Col_c {a : Option Addr} {xss : List (List Int)} {r : Nat → Option Addr} {k : Nat} {H : GHeap} (h : Intss H a xss r := by assumption) (hk : ∀ i, i < xss.length → k < (xss.getD i []).length) (hl : xss.length ≤ 1048576 := by omega) (hl2 : ∀ i, i < xss.length → (xss.getD i []).length ≤ 1048576) :
    GCalls Try.prog 185 [.slice a xss.length xss.length, .int .i64 (k : Int)] H (NewInts 2 H (colI xss k)) := by
  refine GCalls.body (N := 25) (rs := [.tmp 4]) Try.func185 rfl rfl rfl rfl (fun Qx u hend => ?_)
  refine .fg [0, 1] rfl ?_
  have e := GHeap.Le.refl H
  have b := h
  refine .seq (fun K1 a1 => .region (.mv rfl (.nil (a1 _ _ (.seq (fun K2 x => .region ?_))))))
  refine .R rfl (.litA rfl sl_24_A ze_2_E rfl rfl rfl rfl) ?_
  rintro _ H7 ⟨g7, rfl, w, ge7, o⟩
  have nx_H7 := w.1
  replace e := e.trans w
  have lt_at7 := GHeap.ltg o
  replace h := b.mono e
  replace o : GHeap.get H7 g7 = some (.row (ints []) 2 true) := o
  refine .mv rfl (.nil (x _ _ (.seq (fun K3 a2 => .seq (fun K4 z => .region (.mv rfl (.nil (z _ _ ?_))))))))
  refine .block ?_
  refine .loopR (σ := Nat × Nat × Nat) [(0, some _), (1, some _)] (fun (i, g, l) => [(6, some (.int .i64 (i : Int))), (5, some (.slice (some ⟨g, 0, none⟩) l l))]) (fun (i, g, l) H' => St [g7] H7 H' ∧ H'.get g = some (.row (ints (colI (xss.take i) k)) 2 true) ∧ (g = g7 ∨ H7.next ≤ g) ∧ l = (colI (xss.take i) k).length ∧ i ≤ xss.length) (fun (i, g, l) => xss.length - i) ((0, _, _)) ⟨rfl, rfl, trivial⟩ ⟨rfl, rfl, trivial⟩ ?_ ?_
  ·
   refine ⟨.refl _ _, by first | assumption | exact o | simpa using o, .inl rfl, by first | rfl | assumption | simp | omega, ?_⟩
   omega
  rintro ⟨i, g, l⟩ HL1 ⟨d, c, pl_L5, m, hI⟩ KL1 v
  refine .forget (fr' := [(6, some (.int .i64 (i : Int))), (5, some (.slice (some ⟨g, 0, none⟩) l l)), (0, some _), (1, some _)]) ⟨rfl, rfl, rfl, rfl, trivial⟩ ?_
  have ge_L5 : H.next ≤ g := by omega
  have nx_HL1 := d.nx
  replace e := e.st d (fun k hk => ⟨by omega, trivial⟩)
  have lt_at_L5 := GHeap.ltg c
  replace h := b.mono e
  have hfl : (colI (xss.take i) k).length = i := by rw [length_colI, List.length_take]; omega
  refine .seq (fun K5 a3 => .seq (fun K6 y => .region (.mv rfl (.mv rfl (.q rfl (.len sl_25_B rfl) (.q rfl (.cmp rfl rfl rfl) (.nil (y _ _ ?_))))))))
  refine .cond rfl (fun t => ?_) (fun t => ?_)
  ·
   simp only [sps] at t
   have q1 := hk i (by omega)
   have q2 := hl2 i (by omega)
   have u1 := h.2 i (by omega)
   refine .skip ?_
   refine a3 _ _ (.seq (fun K7 a4 => ?_))
   refine .block ?_
   refine .region (.mv rfl (.mv rfl (.mv rfl ?_)))
   refine .q rfl (.idxN sl_25_B (Intss.sl (by assumption)) rfl rfl (by omega)) ?_
   refine .q rfl (.loadR on_24_B (by assumption) rfl (by omega)) ?_
   refine .mv rfl ?_
   refine .q rfl (.idxN sl_24_A (by assumption) rfl rfl (by omega)) ?_
   refine .q rfl (.loadI on_2_A (by assumption) rfl (by omega)) ?_
   refine .R rfl (.litA rfl sl_24_A ze_2_E rfl rfl rfl rfl) ?_
   rintro _ H22 ⟨g22, rfl, f, ge22, n⟩
   have nx_H22 := f.1
   replace e := e.trans f
   replace d := d.le f
   replace c := f.2 _ _ c
   have lt_at22 := GHeap.ltg n
   replace h := b.mono e
   clear u1
   have u1 := h.2 i (by omega)
   refine .R rfl (.appendI rfl sl_24_A ze_2_E rfl by_2_E sl_24_A rfl rfl (by assumption) (by assumption) (by first | omega | (simp <;> omega)) (by omega) (by omega)) ?_
   rintro _ H23 ⟨g23, rfl, j, ge23, p⟩
   have nx_H23 := j.nx
   replace e := e.st j (fun k hk => ⟨by omega, trivial⟩)
   replace d := d.sA j
   replace n := j.s n
   have lt_at23 := GHeap.ltg p
   replace h := b.mono e
   clear u1
   have u1 := h.2 i (by omega)
   refine .mv rfl (.nil (a4 _ _ (.region (.mv rfl ?_))))
   refine .q rfl (.add rfl rfl rfl (by omega) (by omega)) ?_
   refine .mv rfl (.nil ?_)
   refine v ((i + 1, _, _)) _ _ ?_ ?_ ⟨rfl, rfl, rfl, rfl, trivial⟩
   ·
    refine ⟨d, by first | assumption | (rw [colI_take (by omega)]; assumption), by omega, by first | omega | (simp only [List.length_append, List.length_cons, List.length_nil] <;> omega) | (rw [colI_take (by omega)] <;> (first | omega | (simp only [List.length_append, List.length_cons, List.length_nil] <;> omega))), ?_⟩
    omega
   (dsimp only; omega)
  try simp only [sps] at t
  refine .exit ?_
  refine a2 _ _ (.seq (fun K8 a0 => .region (.mv rfl (.mv rfl (.nil (a0 _ _ ?_))))))
  refine .ret ?_
  refine u _ _ ?_
  refine ⟨_, rfl, ?_⟩
  obtain rfl : i = xss.length := by omega
  rw [List.take_length] at c m
  exact ⟨e, _, by rw [m], c, by omega⟩
theorem l06Two_c {f k : Fun} {p q : FunP} {H : GHeap} (hin : f.In H p := by assumption) (hin1 : k.In H q := by assumption) (hs : f.Small := by assumption) (hs1 : k.Small := by assumption) :
    GCalls Try.prog 134 [.agg (f.cells p).toArray, .agg (k.cells q).toArray] H (Ret (.int .i64 (bif B (f.Is ∧ k.Is) then 0 else 1)) H) := by
  refine GCalls.ret rfl ?_
  refine GCalls.body (N := 13) (rs := [.tmp 4]) Try.func134 rfl rfl rfl rfl (fun Qx e hend => ?_)
  refine .fg [0, 1] rfl ?_
  have c := GHeap.Le.refl H
  have b := hin
  have a := hin1
  refine .seq (fun K1 a8 => .region ?_)
  refine .R rfl (.boxR rfl sz_33_E rfl) ?_
  rintro _ H2 ⟨g2, rfl, x, ge2, g⟩
  have nx_H2 := x.1
  replace c := c.trans x
  have lt_at2 := GHeap.ltg g
  replace hin := b.mono c
  replace hin1 := a.mono c
  have d : Fun.At _ g2 0 f p := ⟨Mem.of_get g, hin⟩
  obtain ⟨i, h, m, j, a3, w⟩ := d.get
  have a4 : MemN _ _ _ _ _ := ⟨rfl, d.1⟩
  have y := d.2
  have o : MemN _ _ _ _ _ := ⟨rfl, i.1⟩
  have l := i.2
  have n : MemN _ _ _ _ _ := ⟨rfl, h.1⟩
  have r := h.2
  refine .R rfl (.boxR rfl sz_33_E rfl) ?_
  rintro _ H3 ⟨g3, rfl, t, ge3, v⟩
  have nx_H3 := t.1
  replace c := c.trans t
  replace g := t.2 _ _ g
  have lt_at3 := GHeap.ltg v
  replace hin := b.mono c
  replace hin1 := a.mono c
  clear d i h m j a3 w a4 y o l n r
  have d : Fun.At _ g2 0 f p := ⟨Mem.of_get g, hin⟩
  obtain ⟨i, h, m, j, a3, w⟩ := d.get
  have a4 : MemN _ _ _ _ _ := ⟨rfl, d.1⟩
  have y := d.2
  have o : MemN _ _ _ _ _ := ⟨rfl, i.1⟩
  have l := i.2
  have n : MemN _ _ _ _ _ := ⟨rfl, h.1⟩
  have r := h.2
  have u : Fun.At _ g3 0 k q := ⟨Mem.of_get v, hin1⟩
  obtain ⟨a1, a0, c103, c113, j13, j23⟩ := u.get
  have hm3 : MemN _ _ _ _ _ := ⟨rfl, u.1⟩
  have hi3 := u.2
  have hms3 : MemN _ _ _ _ _ := ⟨rfl, a1.1⟩
  have his3 := a1.2
  have hmt3 : MemN _ _ _ _ _ := ⟨rfl, a0.1⟩
  have hit3 := a0.2
  refine .mv rfl (.nil (a8 _ _ (.seq (fun K2 a5 => .seq (fun K3 a2 => .region ?_)))))
  refine .q rfl (.loadM ag_33_E rfl ⟨rfl, Mem.of_get g⟩) ?_
  refine .callQ rfl rfl rfl rfl @Try.call59 rfl (l06Is_c) ?_
  refine .q rfl (.not rfl) (.mv rfl ?_)
  refine .split (fun h8 => ?_) (fun h8 => ?_)
  ·
   simp only [sps] at h8
   refine .z rfl (.z rfl (.z rfl (.q rfl (.pickT rfl rfl) (.nil (a2 _ _ ?_)))))
   refine .condT rfl ?_
   refine .seq (fun K4 a7 => .region (.mv rfl (.nil (a7 _ _ ?_))))
   refine .ret ?_
   refine e _ _ ?_
   refine ⟨_, rfl, ?_⟩
   exact ⟨by rw [B_false fun hh => h8 hh.1]; rfl, c⟩
  simp only [sps] at h8
  refine .qg rfl (.loadM ag_33_E rfl ⟨rfl, Mem.of_get v⟩) ?_
  refine .callQg rfl rfl rfl rfl rfl rfl @Try.call59 rfl (l06Is_c) ?_
  refine .qg rfl (.not rfl) (.q rfl (.pickF rfl rfl) (.nil (a2 _ _ ?_)))
  refine .cond rfl (fun s => ?_) (fun s => ?_)
  ·
   simp only [sps] at s
   refine .seq (fun K5 a9 => .region (.mv rfl (.nil (a9 _ _ ?_))))
   refine .ret ?_
   refine e _ _ ?_
   refine ⟨_, rfl, ?_⟩
   exact ⟨by rw [B_false fun hh => s hh.2]; rfl, c⟩
  simp only [sps] at s
  refine .skip ?_
  refine a5 _ _ (.seq (fun K6 a6 => .region (.mv rfl (.nil (a6 _ _ ?_)))))
  refine .ret ?_
  refine e _ _ ?_
  refine ⟨_, rfl, ?_⟩
  exact ⟨by rw [B_true ⟨h8, s⟩]; rfl, c⟩
set_option maxHeartbeats 4000000 in
theorem l09Objects_c {f k : Fun} {p q : FunP} {H : GHeap} (hin : f.In H p := by assumption) (hin1 : k.In H q := by assumption) (ho : KmOk f k) :
    GCalls Try.prog 135 [.agg (f.cells p).toArray, .agg (k.cells q).toArray] H (NewIntssR H (kmOb f k)) := by
  have hN := ho.n
  have q1 := ho.p.2.2.ol
  have q2 := ho.q.2.2.ol
  have hS := ho.p.2.1.1
  obtain ⟨n1, n2, n3, n4, n5⟩ := id hN
  refine GCalls.body (N := 55) (rs := [.tmp 4]) Try.func135 rfl rfl rfl rfl (fun Qx f5 hend => ?_)
  refine .fg [0, 1] rfl ?_
  have j := GHeap.Le.refl H
  have e := hin
  have d := hin1
  refine .seq (fun K1 g9 => .region ?_)
  refine .R rfl (.boxR rfl sz_33_E rfl) ?_
  rintro _ H2 ⟨g2, rfl, f8, ge2, b3⟩
  have nx_H2 := f8.1
  replace j := j.trans f8
  have lt_at2 := GHeap.ltg b3
  replace hin := e.mono j
  replace hin1 := d.mono j
  have g : Fun.At _ g2 0 f p := ⟨Mem.of_get b3, hin⟩
  obtain ⟨m, l, r, o, c3, c2⟩ := g.get
  have c5 : MemN _ _ _ _ _ := ⟨rfl, g.1⟩
  have c4 := g.2
  have w : MemN _ _ _ _ _ := ⟨rfl, m.1⟩
  have v := m.2
  have u : MemN _ _ _ _ _ := ⟨rfl, l.1⟩
  have y := l.2
  refine .R rfl (.boxR rfl sz_33_E rfl) ?_
  rintro _ H3 ⟨g3, rfl, e1, ge3, b6⟩
  have nx_H3 := e1.1
  replace j := j.trans e1
  replace b3 := e1.2 _ _ b3
  have lt_at3 := GHeap.ltg b6
  replace hin := e.mono j
  replace hin1 := d.mono j
  clear g m l r o c3 c2 c5 c4 w v u y
  have g : Fun.At _ g2 0 f p := ⟨Mem.of_get b3, hin⟩
  obtain ⟨m, l, r, o, c3, c2⟩ := g.get
  have c5 : MemN _ _ _ _ _ := ⟨rfl, g.1⟩
  have c4 := g.2
  have w : MemN _ _ _ _ _ := ⟨rfl, m.1⟩
  have v := m.2
  have u : MemN _ _ _ _ _ := ⟨rfl, l.1⟩
  have y := l.2
  have h : Fun.At _ g3 0 k q := ⟨Mem.of_get b6, hin1⟩
  obtain ⟨a2, a3, a4, b0, c9, c7⟩ := h.get
  have c8 : MemN _ _ _ _ _ := ⟨rfl, h.1⟩
  have d0 := h.2
  have a5 : MemN _ _ _ _ _ := ⟨rfl, a2.1⟩
  have a6 := a2.2
  have a8 : MemN _ _ _ _ _ := ⟨rfl, a3.1⟩
  have a9 := a3.2
  refine .mv rfl (.nil (g9 _ _ (.seq (fun K2 h1 => .region ?_))))
  refine .R rfl (.litA rfl sl_25_B ze_24_E rfl rfl rfl rfl) ?_
  rintro _ g0 ⟨f9, rfl, d4, ge10, d7⟩
  have nx_H10 := d4.1
  replace j := j.trans d4
  replace b3 := d4.2 _ _ b3
  replace b6 := d4.2 _ _ b6
  have lt_at10 := GHeap.ltg d7
  replace hin := e.mono j
  replace hin1 := d.mono j
  clear g m l r o c3 c2 c5 c4 w v u y
  have g : Fun.At _ g2 0 f p := ⟨Mem.of_get b3, hin⟩
  obtain ⟨m, l, r, o, c3, c2⟩ := g.get
  have c5 : MemN _ _ _ _ _ := ⟨rfl, g.1⟩
  have c4 := g.2
  have w : MemN _ _ _ _ _ := ⟨rfl, m.1⟩
  have v := m.2
  have u : MemN _ _ _ _ _ := ⟨rfl, l.1⟩
  have y := l.2
  clear h a2 a3 a4 b0 c9 c7 c8 d0 a5 a6 a8 a9
  have h : Fun.At _ g3 0 k q := ⟨Mem.of_get b6, hin1⟩
  obtain ⟨a2, a3, a4, b0, c9, c7⟩ := h.get
  have c8 : MemN _ _ _ _ _ := ⟨rfl, h.1⟩
  have d0 := h.2
  have a5 : MemN _ _ _ _ _ := ⟨rfl, a2.1⟩
  have a6 := a2.2
  have a8 : MemN _ _ _ _ _ := ⟨rfl, a3.1⟩
  have a9 := a3.2
  refine .mv rfl (.nil (h1 _ _ (.seq (fun K3 g5 => .seq (fun K4 g4 => .region (.mv rfl (.nil (g4 _ _ ?_))))))))
  refine .block ?_
  refine .loopR (σ := Nat × (Nat → Option Addr) × Nat × Nat) [(2, some _), (3, some _)] (fun (a, rr, d3, d5) => [(6, some (.int .i64 (a : Int))), (5, some (.slice (some ⟨d3, 0, none⟩) d5 d5))]) (fun (a, rr, d3, d5) H' => St [f9] g0 H' ∧ H'.get d3 = some (.row ((slsL rr (kmO f k a 0 0))) 24 true) ∧ (d3 = f9 ∨ g0.next ≤ d3) ∧ d5 = (slsL rr (kmO f k a 0 0)).length ∧ a ≤ f.ob.length ∧ OwnL H.next H' 2 rr (kmO f k a 0 0)) (fun (a, rr, d3, d5) => f.ob.length - a) ((0, fun _ => none, _, _)) ⟨rfl, rfl, trivial⟩ ⟨rfl, rfl, trivial⟩ ?_ ?_
  ·
   refine ⟨.refl _ _, by first | assumption | exact d7 | simpa using d7, .inl rfl, by first | rfl | assumption | simp | omega, ?_⟩
   exact ⟨by omega, .nil _ _ _ _⟩
  rintro ⟨a, rr, d3, d5⟩ HL1 ⟨z, d1, pl_L5, d9, hI⟩ KL1 e3
  refine .forget (fr' := [(6, some (.int .i64 (a : Int))), (5, some (.slice (some ⟨d3, 0, none⟩) d5 d5)), (2, some _), (3, some _)]) ⟨rfl, rfl, rfl, rfl, trivial⟩ ?_
  have ge_L5 : H.next ≤ d3 := by omega
  have nx_HL1 := z.nx
  replace j := j.st z (fun k hk => ⟨by omega, trivial⟩)
  replace b3 := z.s b3
  replace b6 := z.s b6
  have lt_at_L5 := GHeap.ltg d1
  replace hin := e.mono j
  replace hin1 := d.mono j
  clear g m l r o c3 c2 c5 c4 w v u y
  have g : Fun.At _ g2 0 f p := ⟨Mem.of_get b3, hin⟩
  obtain ⟨m, l, r, o, c3, c2⟩ := g.get
  have c5 : MemN _ _ _ _ _ := ⟨rfl, g.1⟩
  have c4 := g.2
  have w : MemN _ _ _ _ _ := ⟨rfl, m.1⟩
  have v := m.2
  have u : MemN _ _ _ _ _ := ⟨rfl, l.1⟩
  have y := l.2
  clear h a2 a3 a4 b0 c9 c7 c8 d0 a5 a6 a8 a9
  have h : Fun.At _ g3 0 k q := ⟨Mem.of_get b6, hin1⟩
  obtain ⟨a2, a3, a4, b0, c9, c7⟩ := h.get
  have c8 : MemN _ _ _ _ _ := ⟨rfl, h.1⟩
  have d0 := h.2
  have a5 : MemN _ _ _ _ _ := ⟨rfl, a2.1⟩
  have a6 := a2.2
  have a8 : MemN _ _ _ _ _ := ⟨rfl, a3.1⟩
  have a9 := a3.2
  obtain ⟨ha, hR⟩ := hI
  refine .seq (fun K5 g6 => .seq (fun K6 g8 => .region (.mv rfl (.q rfl (.fieldAddr fo_33_0_E rfl) (.q rfl (.fieldAddr fo_27_0_B rfl) ?_)))))
  refine .q rfl (.load on_2_A rfl (by first | assumption | exact Mem.of_get b3 0 _ rfl)) ?_
  refine .q rfl (.cmp rfl rfl rfl) (.nil (g8 _ _ ?_))
  refine .cond rfl (fun e2 => ?_) (fun e2 => ?_)
  ·
   simp only [sps] at e2
   refine .skip ?_
   refine g6 _ _ (.seq (fun K7 g7 => ?_))
   refine .block ?_
   refine .seq (fun K8 h2 => .region (.mv rfl (.nil (h2 _ _ ?_))))
   refine .block ?_
   refine .loopR (σ := Nat × (Nat → Option Addr) × Nat × Nat) [(2, some _), (3, some _), (6, some _)] (fun (b, r2, a0, b8) => [(7, some (.int .i64 (b : Int))), (5, some (.slice (some ⟨a0, 0, none⟩) b8 b8))]) (fun (b, r2, a0, b8) H' => St [d3] HL1 H' ∧ H'.get a0 = some (.row ((slsL r2 (kmO f k a b 0))) 24 true) ∧ (a0 = d3 ∨ HL1.next ≤ a0) ∧ b8 = (slsL r2 (kmO f k a b 0)).length ∧ b ≤ k.ob.length ∧ OwnL H.next H' 2 r2 (kmO f k a b 0)) (fun (b, r2, a0, b8) => k.ob.length - b) ((0, rr, _, _)) ⟨rfl, rfl, rfl, trivial⟩ ⟨rfl, rfl, trivial⟩ ?_ ?_
   ·
    refine ⟨.refl _ _, by first | assumption | exact d1 | simpa using d1, .inl rfl, by first | rfl | assumption | simp | omega, ?_⟩
    exact ⟨by omega, hR⟩
   rintro ⟨b, r2, a0, b8⟩ HL2 ⟨a7, b5, pl_L5v2, ln_L5v2, hI⟩ KL2 e5
   refine .forget (fr' := [(7, some (.int .i64 (b : Int))), (5, some (.slice (some ⟨a0, 0, none⟩) b8 b8)), (2, some _), (3, some _), (6, some _)]) ⟨rfl, rfl, rfl, rfl, rfl, trivial⟩ ?_
   have ge_L5v2 : H.next ≤ a0 := by omega
   have nx_HL2 := a7.nx
   replace j := j.st a7 (fun k hk => ⟨by omega, trivial⟩)
   replace z := z.sA a7
   replace b3 := a7.s b3
   replace b6 := a7.s b6
   have lt_at_L5v2 := GHeap.ltg b5
   replace hin := e.mono j
   replace hin1 := d.mono j
   clear g m l r o c3 c2 c5 c4 w v u y
   have g : Fun.At _ g2 0 f p := ⟨Mem.of_get b3, hin⟩
   obtain ⟨m, l, r, o, c3, c2⟩ := g.get
   have c5 : MemN _ _ _ _ _ := ⟨rfl, g.1⟩
   have c4 := g.2
   have w : MemN _ _ _ _ _ := ⟨rfl, m.1⟩
   have v := m.2
   have u : MemN _ _ _ _ _ := ⟨rfl, l.1⟩
   have y := l.2
   clear h a2 a3 a4 b0 c9 c7 c8 d0 a5 a6 a8 a9
   have h : Fun.At _ g3 0 k q := ⟨Mem.of_get b6, hin1⟩
   obtain ⟨a2, a3, a4, b0, c9, c7⟩ := h.get
   have c8 : MemN _ _ _ _ _ := ⟨rfl, h.1⟩
   have d0 := h.2
   have a5 : MemN _ _ _ _ _ := ⟨rfl, a2.1⟩
   have a6 := a2.2
   have a8 : MemN _ _ _ _ _ := ⟨rfl, a3.1⟩
   have a9 := a3.2
   obtain ⟨hb, hR⟩ := hI
   refine .seq (fun K9 h3 => .seq (fun K10 f1 => .region (.mv rfl (.q rfl (.fieldAddr fo_33_0_E rfl) (.q rfl (.fieldAddr fo_27_0_B rfl) ?_)))))
   refine .q rfl (.load on_2_A rfl (by first | assumption | exact Mem.of_get b6 0 _ rfl)) ?_
   refine .q rfl (.cmp rfl rfl rfl) (.nil (f1 _ _ ?_))
   refine .cond rfl (fun f7 => ?_) (fun f7 => ?_)
   ·
    simp only [sps] at f7
    have hHH : (kmH f k a b).length = (f.t.hom (f.ob.getD a 0) (k.ob.getD b 0)).length := rfl
    have hH40 : (kmH f k a b).length ≤ f.t.src.length := Cat.hom_le _ _ _
    refine .skip ?_
    refine h3 _ _ (.seq (fun K11 e0 => ?_))
    refine .block ?_
    refine .seq (fun K12 f0 => ?_)
    refine .regionD mo_B (.q 0 (.q 1 (.q 2 (.q 3 (.q 4 (.q 5 (.q 6 (.q 7 (.q 8 (.q 9 (.q 10 (.q 11 (.c 12 0 (.q 13 (.done))))))))))))))) (by kernel_rfl) ?_
    refine .q rfl (.fieldAddr fo_33_1_E rfl) ?_
    refine .q rfl (.loadM ag_27_D rfl (by assumption)) ?_
    refine .q rfl (.fieldAddr fo_33_2_E rfl) ?_
    refine .q rfl (.load on_24_B rfl (by first | assumption | exact Mem.of_get b3 10 _ rfl)) ?_
    refine .mv rfl rfl ?_
    refine .q rfl (.idxN sl_24_A (by assumption) rfl rfl (by omega)) ?_
    refine .q rfl (.loadI on_2_A (by assumption) rfl (by omega)) ?_
    refine .q rfl (.fieldAddr fo_33_2_E rfl) ?_
    refine .q rfl (.load on_24_B rfl (by first | assumption | exact Mem.of_get b6 10 _ rfl)) ?_
    refine .mv rfl rfl ?_
    refine .q rfl (.idxN sl_24_A (by assumption) rfl rfl (by omega)) ?_
    refine .q rfl (.loadI on_2_A (by assumption) rfl (by omega)) ?_
    refine .call0 rfl rfl rfl rfl rfl @Try.call114 rfl (l02Hom_c (hS := hS)) ?_
    rintro _ g1 ⟨c6, g37, rfl, b1, ge37⟩
    have nx_H37 := c6.1
    replace j := j.trans c6
    replace z := z.le c6
    replace a7 := a7.le c6
    replace b3 := c6.2 _ _ b3
    replace b6 := c6.2 _ _ b6
    replace b5 := c6.2 _ _ b5
    have lt_at37 := GHeap.ltg b1
    replace hin := e.mono j
    replace hin1 := d.mono j
    clear g m l r o c3 c2 c5 c4 w v u y
    have g : Fun.At _ g2 0 f p := ⟨Mem.of_get b3, hin⟩
    obtain ⟨m, l, r, o, c3, c2⟩ := g.get
    have c5 : MemN _ _ _ _ _ := ⟨rfl, g.1⟩
    have c4 := g.2
    have w : MemN _ _ _ _ _ := ⟨rfl, m.1⟩
    have v := m.2
    have u : MemN _ _ _ _ _ := ⟨rfl, l.1⟩
    have y := l.2
    clear h a2 a3 a4 b0 c9 c7 c8 d0 a5 a6 a8 a9
    have h : Fun.At _ g3 0 k q := ⟨Mem.of_get b6, hin1⟩
    obtain ⟨a2, a3, a4, b0, c9, c7⟩ := h.get
    have c8 : MemN _ _ _ _ _ := ⟨rfl, h.1⟩
    have d0 := h.2
    have a5 : MemN _ _ _ _ _ := ⟨rfl, a2.1⟩
    have a6 := a2.2
    have a8 : MemN _ _ _ _ _ := ⟨rfl, a3.1⟩
    have a9 := a3.2
    have d6 := Ints.of_get b1
    refine .mv rfl rfl ?_
    refine .done ?_
    refine f0 _ _ (.seq (fun K13 f2 => .region (.mv rfl (.nil (f2 _ _ ?_)))))
    refine .block ?_
    refine .loopR (σ := Nat × (Nat → Option Addr) × Nat × Nat) [(2, some _), (3, some _), (6, some _), (7, some _), (8, some _)] (fun (i, r3, b2, b7) => [(9, some (.int .i64 (i : Int))), (5, some (.slice (some ⟨b2, 0, none⟩) b7 b7))]) (fun (i, r3, b2, b7) H' => St [a0] g1 H' ∧ H'.get b2 = some (.row ((slsL r3 (kmO f k a b i))) 24 true) ∧ (b2 = a0 ∨ g1.next ≤ b2) ∧ b7 = (slsL r3 (kmO f k a b i)).length ∧ i ≤ (kmH f k a b).length ∧ OwnL H.next H' 2 r3 (kmO f k a b i)) (fun (i, r3, b2, b7) => (kmH f k a b).length - i) ((0, r2, _, _)) ⟨rfl, rfl, rfl, rfl, rfl, trivial⟩ ⟨rfl, rfl, trivial⟩ ?_ ?_
    ·
     refine ⟨.refl _ _, by first | assumption | exact b5 | simpa using b5, .inl rfl, by first | rfl | assumption | simp | omega, ?_⟩
     exact ⟨by omega, hR.keep (.of_le c6)⟩
    rintro ⟨i, r3, b2, b7⟩ HL3 ⟨b4, a1, pl_L5v3, ln_L5v3, hI⟩ KL3 e7
    refine .forget (fr' := [(9, some (.int .i64 (i : Int))), (5, some (.slice (some ⟨b2, 0, none⟩) b7 b7)), (2, some _), (3, some _), (6, some _), (7, some _), (8, some _)]) ⟨rfl, rfl, rfl, rfl, rfl, rfl, rfl, trivial⟩ ?_
    have ge_L5v3 : H.next ≤ b2 := by omega
    have nx_HL3 := b4.nx
    replace j := j.st b4 (fun k hk => ⟨by omega, trivial⟩)
    replace z := z.sA b4
    replace a7 := a7.sA b4
    replace b3 := b4.s b3
    replace b6 := b4.s b6
    replace b1 := b4.s b1
    have lt_at_L5v3 := GHeap.ltg a1
    replace hin := e.mono j
    replace hin1 := d.mono j
    clear g m l r o c3 c2 c5 c4 w v u y
    have g : Fun.At _ g2 0 f p := ⟨Mem.of_get b3, hin⟩
    obtain ⟨m, l, r, o, c3, c2⟩ := g.get
    have c5 : MemN _ _ _ _ _ := ⟨rfl, g.1⟩
    have c4 := g.2
    have w : MemN _ _ _ _ _ := ⟨rfl, m.1⟩
    have v := m.2
    have u : MemN _ _ _ _ _ := ⟨rfl, l.1⟩
    have y := l.2
    clear h a2 a3 a4 b0 c9 c7 c8 d0 a5 a6 a8 a9
    have h : Fun.At _ g3 0 k q := ⟨Mem.of_get b6, hin1⟩
    obtain ⟨a2, a3, a4, b0, c9, c7⟩ := h.get
    have c8 : MemN _ _ _ _ _ := ⟨rfl, h.1⟩
    have d0 := h.2
    have a5 : MemN _ _ _ _ _ := ⟨rfl, a2.1⟩
    have a6 := a2.2
    have a8 : MemN _ _ _ _ _ := ⟨rfl, a3.1⟩
    have a9 := a3.2
    clear d6
    have d6 := Ints.of_get b1
    have rk := St.refl [b2] HL3
    obtain ⟨hi, hR⟩ := hI
    have f3 := a1
    have hln := kmO_le hN (a := a) (b := b) (i := i) (by omega) (by omega) hi
    have hfl : (slsL r3 (kmO f k a b i)).length = (kmO f k a b i).length := length_slsL _ _
    refine .seq (fun K14 e6 => .seq (fun K15 f6 => .region (.mv rfl (.mv rfl (.q rfl (.len sl_24_A rfl) (.q rfl (.cmp rfl rfl rfl) (.nil (f6 _ _ ?_))))))))
    refine .cond rfl (fun f4 => ?_) (fun f4 => ?_)
    ·
     simp only [sps] at f4
     refine .skip ?_
     refine e6 _ _ (.seq (fun K16 e9 => ?_))
     refine .block ?_
     refine .region (.mv rfl (.mv rfl (.mv rfl (.mv rfl (.mv rfl ?_)))))
     refine .q rfl (.idxN sl_24_A (by first | assumption | exact SlA.of_row b1 (by first | rfl | (simp; done) | (simp <;> omega))) rfl rfl (by omega)) ?_
     refine .q rfl (.loadI on_2_A (by first | assumption | exact Ints.of_get b1) rfl (by omega)) ?_
     refine .R rfl (.litA rfl sl_24_A ze_2_E rfl rfl rfl rfl) ?_
     rintro _ H51 ⟨h0, rfl, c1, ge51, d2⟩
     have nx_H51 := c1.1
     replace j := j.trans c1
     replace z := z.le c1
     replace a7 := a7.le c1
     replace b4 := b4.le c1
     replace rk := rk.le c1
     replace b3 := c1.2 _ _ b3
     replace b6 := c1.2 _ _ b6
     replace b1 := c1.2 _ _ b1
     replace a1 := c1.2 _ _ a1
     have lt_at51 := GHeap.ltg d2
     replace hin := e.mono j
     replace hin1 := d.mono j
     clear g m l r o c3 c2 c5 c4 w v u y
     have g : Fun.At _ g2 0 f p := ⟨Mem.of_get b3, hin⟩
     obtain ⟨m, l, r, o, c3, c2⟩ := g.get
     have c5 : MemN _ _ _ _ _ := ⟨rfl, g.1⟩
     have c4 := g.2
     have w : MemN _ _ _ _ _ := ⟨rfl, m.1⟩
     have v := m.2
     have u : MemN _ _ _ _ _ := ⟨rfl, l.1⟩
     have y := l.2
     clear h a2 a3 a4 b0 c9 c7 c8 d0 a5 a6 a8 a9
     have h : Fun.At _ g3 0 k q := ⟨Mem.of_get b6, hin1⟩
     obtain ⟨a2, a3, a4, b0, c9, c7⟩ := h.get
     have c8 : MemN _ _ _ _ _ := ⟨rfl, h.1⟩
     have d0 := h.2
     have a5 : MemN _ _ _ _ _ := ⟨rfl, a2.1⟩
     have a6 := a2.2
     have a8 : MemN _ _ _ _ _ := ⟨rfl, a3.1⟩
     have a9 := a3.2
     clear d6
     have d6 := Ints.of_get b1
     refine .R rfl (.litA rfl sl_25_B ze_24_E rfl rfl rfl rfl) ?_
     rintro _ H52 ⟨g52, rfl, c0, ge52, d8⟩
     have nx_H52 := c0.1
     replace j := j.trans c0
     replace z := z.le c0
     replace a7 := a7.le c0
     replace b4 := b4.le c0
     replace rk := rk.le c0
     replace b3 := c0.2 _ _ b3
     replace b6 := c0.2 _ _ b6
     replace b1 := c0.2 _ _ b1
     replace a1 := c0.2 _ _ a1
     replace d2 := c0.2 _ _ d2
     have lt_at52 := GHeap.ltg d8
     replace hin := e.mono j
     replace hin1 := d.mono j
     clear g m l r o c3 c2 c5 c4 w v u y
     have g : Fun.At _ g2 0 f p := ⟨Mem.of_get b3, hin⟩
     obtain ⟨m, l, r, o, c3, c2⟩ := g.get
     have c5 : MemN _ _ _ _ _ := ⟨rfl, g.1⟩
     have c4 := g.2
     have w : MemN _ _ _ _ _ := ⟨rfl, m.1⟩
     have v := m.2
     have u : MemN _ _ _ _ _ := ⟨rfl, l.1⟩
     have y := l.2
     clear h a2 a3 a4 b0 c9 c7 c8 d0 a5 a6 a8 a9
     have h : Fun.At _ g3 0 k q := ⟨Mem.of_get b6, hin1⟩
     obtain ⟨a2, a3, a4, b0, c9, c7⟩ := h.get
     have c8 : MemN _ _ _ _ _ := ⟨rfl, h.1⟩
     have d0 := h.2
     have a5 : MemN _ _ _ _ _ := ⟨rfl, a2.1⟩
     have a6 := a2.2
     have a8 : MemN _ _ _ _ _ := ⟨rfl, a3.1⟩
     have a9 := a3.2
     clear d6
     have d6 := Ints.of_get b1
     refine .R rfl (.appendV rfl sl_25_B ze_24_E rfl by_24_E sl_25_B rfl rfl (by assumption) (by assumption) (by first | omega | (simp <;> omega)) rfl rfl (by omega) (by omega)) ?_
     rintro _ H53 ⟨g53, rfl, b9, ge53, e4⟩
     have nx_H53 := b9.nx
     replace j := j.st b9 (fun k hk => ⟨by omega, trivial⟩)
     replace z := z.sA b9
     replace a7 := a7.sA b9
     replace b4 := b4.sA b9
     replace rk := rk.sA b9
     replace b3 := b9.s b3
     replace b6 := b9.s b6
     replace b1 := b9.s b1
     replace d2 := b9.s d2
     replace d8 := b9.s d8
     have lt_at53 := GHeap.ltg e4
     replace hin := e.mono j
     replace hin1 := d.mono j
     clear g m l r o c3 c2 c5 c4 w v u y
     have g : Fun.At _ g2 0 f p := ⟨Mem.of_get b3, hin⟩
     obtain ⟨m, l, r, o, c3, c2⟩ := g.get
     have c5 : MemN _ _ _ _ _ := ⟨rfl, g.1⟩
     have c4 := g.2
     have w : MemN _ _ _ _ _ := ⟨rfl, m.1⟩
     have v := m.2
     have u : MemN _ _ _ _ _ := ⟨rfl, l.1⟩
     have y := l.2
     clear h a2 a3 a4 b0 c9 c7 c8 d0 a5 a6 a8 a9
     have h : Fun.At _ g3 0 k q := ⟨Mem.of_get b6, hin1⟩
     obtain ⟨a2, a3, a4, b0, c9, c7⟩ := h.get
     have c8 : MemN _ _ _ _ _ := ⟨rfl, h.1⟩
     have d0 := h.2
     have a5 : MemN _ _ _ _ _ := ⟨rfl, a2.1⟩
     have a6 := a2.2
     have a8 : MemN _ _ _ _ _ := ⟨rfl, a3.1⟩
     have a9 := a3.2
     clear d6
     have d6 := Ints.of_get b1
     refine .mv rfl (.nil (e9 _ _ (.region (.mv rfl ?_))))
     refine .q rfl (.add rfl rfl rfl (by omega) (by omega)) ?_
     refine .mv rfl (.nil ?_)
     refine e7 ((i + 1, upd r3 (kmO f k a b i).length (some ⟨h0, 0, none⟩), _, _)) _ _ ?_ ?_ ⟨rfl, rfl, rfl, rfl, rfl, rfl, rfl, trivial⟩
     ·
      refine ⟨b4, by first | assumption | (rw [kmO_snoc, slsL_snoc]; assumption), by omega, by first | omega | (simp only [List.length_append, List.length_cons, List.length_nil] <;> omega) | (rw [kmO_snoc, slsL_snoc] <;> (first | omega | (simp only [List.length_append, List.length_cons, List.length_nil] <;> omega))), ?_⟩
      exact ⟨by omega, by rw [kmO_snoc]; exact hR.snoc (x := [(a : Int), (b : Int), (kmH f k a b).getD i 0]) (rk.lasts1 f3 rfl) (by assumption) (by omega) (by omega)⟩
     (dsimp only; omega)
    try simp only [sps] at f4
    refine .exit ?_
    refine e0 _ _ (.region (.mv rfl ?_))
    refine .q rfl (.add rfl rfl rfl (by omega) (by omega)) ?_
    refine .mv rfl (.nil ?_)
    obtain rfl : i = (kmH f k a b).length := by omega
    refine e5 ((b + 1, r3, _, _)) _ _ ?_ ?_ ⟨rfl, rfl, rfl, rfl, rfl, trivial⟩
    ·
     refine ⟨a7, by first | assumption | (rw [kmO_next2]; assumption), by omega, by first | omega | (simp only [List.length_append, List.length_cons, List.length_nil] <;> omega) | (rw [kmO_next2] <;> (first | omega | (simp only [List.length_append, List.length_cons, List.length_nil] <;> omega))), ?_⟩
     exact ⟨by omega, by rw [kmO_next2]; exact hR⟩
    (dsimp only; omega)
   try simp only [sps] at f7
   refine .exit ?_
   refine g7 _ _ (.region (.mv rfl ?_))
   refine .q rfl (.add rfl rfl rfl (by omega) (by omega)) ?_
   refine .mv rfl (.nil ?_)
   obtain rfl : b = k.ob.length := by omega
   refine e3 ((a + 1, r2, _, _)) _ _ ?_ ?_ ⟨rfl, rfl, rfl, rfl, trivial⟩
   ·
    refine ⟨z, by first | assumption | (rw [kmO_next1]; assumption), by omega, by first | omega | (simp only [List.length_append, List.length_cons, List.length_nil] <;> omega) | (rw [kmO_next1] <;> (first | omega | (simp only [List.length_append, List.length_cons, List.length_nil] <;> omega))), ?_⟩
    exact ⟨by omega, by rw [kmO_next1]; exact hR⟩
   (dsimp only; omega)
  try simp only [sps] at e2
  refine .exit ?_
  refine g5 _ _ (.seq (fun K17 e8 => .region (.mv rfl (.mv rfl (.nil (e8 _ _ ?_))))))
  refine .ret ?_
  refine f5 _ _ ?_
  refine ⟨_, rfl, ?_⟩
  obtain rfl : a = f.ob.length := by omega
  exact ⟨j, _, rr, by rw [d9, length_slsL]; rfl, hR.done d1 (by omega)⟩
set_option maxHeartbeats 8000000 in
theorem l09Arrows_c {f k : Fun} {p q : FunP} {ad : Option Addr} {O : List (List Int)} {r : Nat → Option Addr} {H : GHeap} (hin : f.In H p := by assumption) (hin1 : k.In H q := by assumption) (h : Intss H ad O r := by assumption) (ho : KmOk f k) (hO8 : O.length ≤ 8) (hX : ∀ i, i < O.length → KmX f k (O.getD i [])) :
    GCalls Try.prog 183 [.agg (f.cells p).toArray, .agg (k.cells q).toArray, .slice ad O.length O.length] H (NewIntssR H (kmAr f k O)) := by
  have hN := ho.n
  have q1 := ho.p.2.2.al
  have q2 := ho.q.2.2.al
  have q3 := ho.p.2.2.ar
  have q4 := ho.q.2.2.ar
  have q5 := ho.e
  have hS := ho.p.2.1.1
  have j2 := ho.p.1.1
  have j9 := ho.q.1.1
  obtain ⟨n1, n2, n3, n4, n5⟩ := id hN
  have q6 : k.t.src.length = f.t.src.length := by rw [q5]
  refine GCalls.body (N := 111) (rs := [.tmp 6]) Try.func183 rfl rfl rfl rfl (fun Qx i6 hend => ?_)
  refine .fg [0, 1, 2] rfl ?_
  have m := GHeap.Le.refl H
  have g := hin
  have d := hin1
  have v := h
  refine .seq (fun K1 j8 => .region ?_)
  refine .R rfl (.boxR rfl sz_33_E rfl) ?_
  rintro _ H3 ⟨g3, rfl, i9, ge3, c4⟩
  have nx_H3 := i9.1
  replace m := m.trans i9
  have lt_at3 := GHeap.ltg c4
  replace hin := g.mono m
  replace hin1 := d.mono m
  replace h := v.mono m
  have o : Fun.At _ g3 0 f p := ⟨Mem.of_get c4, hin⟩
  obtain ⟨z, a0, a1, a6, d8, d6⟩ := o.get
  have d7 : MemN _ _ _ _ _ := ⟨rfl, o.1⟩
  have d9 := o.2
  have a2 : MemN _ _ _ _ _ := ⟨rfl, z.1⟩
  have a3 := z.2
  have a4 : MemN _ _ _ _ _ := ⟨rfl, a0.1⟩
  have a5 := a0.2
  refine .R rfl (.boxR rfl sz_33_E rfl) ?_
  rintro _ H4 ⟨g4, rfl, h0, ge4, d1⟩
  have nx_H4 := h0.1
  replace m := m.trans h0
  replace c4 := h0.2 _ _ c4
  have lt_at4 := GHeap.ltg d1
  replace hin := g.mono m
  replace hin1 := d.mono m
  replace h := v.mono m
  clear o z a0 a1 a6 d8 d6 d7 d9 a2 a3 a4 a5
  have o : Fun.At _ g3 0 f p := ⟨Mem.of_get c4, hin⟩
  obtain ⟨z, a0, a1, a6, d8, d6⟩ := o.get
  have d7 : MemN _ _ _ _ _ := ⟨rfl, o.1⟩
  have d9 := o.2
  have a2 : MemN _ _ _ _ _ := ⟨rfl, z.1⟩
  have a3 := z.2
  have a4 : MemN _ _ _ _ _ := ⟨rfl, a0.1⟩
  have a5 := a0.2
  have u : Fun.At _ g4 0 k q := ⟨Mem.of_get d1, hin1⟩
  obtain ⟨b0, b1, b7, c2, e3, e0⟩ := u.get
  have e2 : MemN _ _ _ _ _ := ⟨rfl, u.1⟩
  have e1 := u.2
  have b8 : MemN _ _ _ _ _ := ⟨rfl, b0.1⟩
  have b3 := b0.2
  have b2 : MemN _ _ _ _ _ := ⟨rfl, b1.1⟩
  have b4 := b1.2
  refine .mv rfl (.nil (j8 _ _ (.seq (fun K2 k0 => .region ?_))))
  refine .R rfl (.litA rfl sl_25_B ze_24_E rfl rfl rfl rfl) ?_
  rintro _ i8 ⟨j0, rfl, f3, ge16, h2⟩
  have nx_H16 := f3.1
  replace m := m.trans f3
  replace c4 := f3.2 _ _ c4
  replace d1 := f3.2 _ _ d1
  have lt_at16 := GHeap.ltg h2
  replace hin := g.mono m
  replace hin1 := d.mono m
  replace h := v.mono m
  clear o z a0 a1 a6 d8 d6 d7 d9 a2 a3 a4 a5
  have o : Fun.At _ g3 0 f p := ⟨Mem.of_get c4, hin⟩
  obtain ⟨z, a0, a1, a6, d8, d6⟩ := o.get
  have d7 : MemN _ _ _ _ _ := ⟨rfl, o.1⟩
  have d9 := o.2
  have a2 : MemN _ _ _ _ _ := ⟨rfl, z.1⟩
  have a3 := z.2
  have a4 : MemN _ _ _ _ _ := ⟨rfl, a0.1⟩
  have a5 := a0.2
  clear u b0 b1 b7 c2 e3 e0 e2 e1 b8 b3 b2 b4
  have u : Fun.At _ g4 0 k q := ⟨Mem.of_get d1, hin1⟩
  obtain ⟨b0, b1, b7, c2, e3, e0⟩ := u.get
  have e2 : MemN _ _ _ _ _ := ⟨rfl, u.1⟩
  have e1 := u.2
  have b8 : MemN _ _ _ _ _ := ⟨rfl, b0.1⟩
  have b3 := b0.2
  have b2 : MemN _ _ _ _ _ := ⟨rfl, b1.1⟩
  have b4 := b1.2
  refine .mv rfl (.nil (k0 _ _ (.seq (fun K3 j4 => .seq (fun K4 j3 => .region (.mv rfl (.nil (j3 _ _ ?_))))))))
  refine .block ?_
  refine .loopR (σ := Nat × (Nat → Option Addr) × Nat × Nat) [(2, some _), (3, some _), (4, some _)] (fun (s, rr, f0, f5) => [(8, some (.int .i64 (s : Int))), (7, some (.slice (some ⟨f0, 0, none⟩) f5 f5))]) (fun (s, rr, f0, f5) H' => St [j0] i8 H' ∧ H'.get f0 = some (.row ((slsL rr (kmB f k O s 0 0 0))) 24 true) ∧ (f0 = j0 ∨ i8.next ≤ f0) ∧ f5 = (slsL rr (kmB f k O s 0 0 0)).length ∧ s ≤ O.length ∧ OwnL H.next H' 2 rr (kmB f k O s 0 0 0)) (fun (s, rr, f0, f5) => O.length - s) ((0, fun _ => none, _, _)) ⟨rfl, rfl, rfl, trivial⟩ ⟨rfl, rfl, trivial⟩ ?_ ?_
  ·
   refine ⟨.refl _ _, by (rw [kmB_zero]; assumption), .inl rfl, by first | rfl | assumption | simp | omega, ?_⟩
   exact ⟨by omega, by rw [kmB_zero]; exact .nil _ _ _ _⟩
  rintro ⟨s, rr, f0, f5⟩ HL1 ⟨a8, e8, pl_L7, f4, hI⟩ KL1 g7
  refine .forget (fr' := [(8, some (.int .i64 (s : Int))), (7, some (.slice (some ⟨f0, 0, none⟩) f5 f5)), (2, some _), (3, some _), (4, some _)]) ⟨rfl, rfl, rfl, rfl, rfl, trivial⟩ ?_
  have ge_L7 : H.next ≤ f0 := by omega
  have nx_HL1 := a8.nx
  replace m := m.st a8 (fun k hk => ⟨by omega, trivial⟩)
  replace c4 := a8.s c4
  replace d1 := a8.s d1
  have lt_at_L7 := GHeap.ltg e8
  replace hin := g.mono m
  replace hin1 := d.mono m
  replace h := v.mono m
  clear o z a0 a1 a6 d8 d6 d7 d9 a2 a3 a4 a5
  have o : Fun.At _ g3 0 f p := ⟨Mem.of_get c4, hin⟩
  obtain ⟨z, a0, a1, a6, d8, d6⟩ := o.get
  have d7 : MemN _ _ _ _ _ := ⟨rfl, o.1⟩
  have d9 := o.2
  have a2 : MemN _ _ _ _ _ := ⟨rfl, z.1⟩
  have a3 := z.2
  have a4 : MemN _ _ _ _ _ := ⟨rfl, a0.1⟩
  have a5 := a0.2
  clear u b0 b1 b7 c2 e3 e0 e2 e1 b8 b3 b2 b4
  have u : Fun.At _ g4 0 k q := ⟨Mem.of_get d1, hin1⟩
  obtain ⟨b0, b1, b7, c2, e3, e0⟩ := u.get
  have e2 : MemN _ _ _ _ _ := ⟨rfl, u.1⟩
  have e1 := u.2
  have b8 : MemN _ _ _ _ _ := ⟨rfl, b0.1⟩
  have b3 := b0.2
  have b2 : MemN _ _ _ _ _ := ⟨rfl, b1.1⟩
  have b4 := b1.2
  obtain ⟨ha, hR⟩ := hI
  refine .seq (fun K5 j5 => .seq (fun K6 j7 => .region (.mv rfl (.mv rfl (.q rfl (.len sl_25_B rfl) (.q rfl (.cmp rfl rfl rfl) (.nil (j7 _ _ ?_))))))))
  refine .cond rfl (fun h3 => ?_) (fun h3 => ?_)
  ·
   simp only [sps] at h3
   have x1 := hX s (by omega)
   have x1l := x1.l
   have x1a := x1.a
   have x1b := x1.b
   have x1c := x1.c
   have u1 := h.2 s (by omega)
   refine .skip ?_
   refine j5 _ _ (.seq (fun K7 j6 => ?_))
   refine .block ?_
   refine .seq (fun K8 k1 => .region (.mv rfl (.nil (k1 _ _ ?_))))
   refine .block ?_
   refine .loopR (σ := Nat × (Nat → Option Addr) × Nat × Nat) [(2, some _), (3, some _), (4, some _), (8, some _)] (fun (t, r2, c5, d3) => [(9, some (.int .i64 (t : Int))), (7, some (.slice (some ⟨c5, 0, none⟩) d3 d3))]) (fun (t, r2, c5, d3) H' => St [f0] HL1 H' ∧ H'.get c5 = some (.row ((slsL r2 (kmB f k O s t 0 0))) 24 true) ∧ (c5 = f0 ∨ HL1.next ≤ c5) ∧ d3 = (slsL r2 (kmB f k O s t 0 0)).length ∧ t ≤ O.length ∧ OwnL H.next H' 2 r2 (kmB f k O s t 0 0)) (fun (t, r2, c5, d3) => O.length - t) ((0, rr, _, _)) ⟨rfl, rfl, rfl, rfl, trivial⟩ ⟨rfl, rfl, trivial⟩ ?_ ?_
   ·
    refine ⟨.refl _ _, by first | assumption | exact e8 | simpa using e8, .inl rfl, by first | rfl | assumption | simp | omega, ?_⟩
    exact ⟨by omega, hR⟩
   rintro ⟨t, r2, c5, d3⟩ HL2 ⟨b6, c3, pl_L7v2, ln_L7v2, hI⟩ KL2 h1
   refine .forget (fr' := [(9, some (.int .i64 (t : Int))), (7, some (.slice (some ⟨c5, 0, none⟩) d3 d3)), (2, some _), (3, some _), (4, some _), (8, some _)]) ⟨rfl, rfl, rfl, rfl, rfl, rfl, trivial⟩ ?_
   have ge_L7v2 : H.next ≤ c5 := by omega
   have nx_HL2 := b6.nx
   replace m := m.st b6 (fun k hk => ⟨by omega, trivial⟩)
   replace a8 := a8.sA b6
   replace c4 := b6.s c4
   replace d1 := b6.s d1
   have lt_at_L7v2 := GHeap.ltg c3
   replace hin := g.mono m
   replace hin1 := d.mono m
   replace h := v.mono m
   clear o z a0 a1 a6 d8 d6 d7 d9 a2 a3 a4 a5
   have o : Fun.At _ g3 0 f p := ⟨Mem.of_get c4, hin⟩
   obtain ⟨z, a0, a1, a6, d8, d6⟩ := o.get
   have d7 : MemN _ _ _ _ _ := ⟨rfl, o.1⟩
   have d9 := o.2
   have a2 : MemN _ _ _ _ _ := ⟨rfl, z.1⟩
   have a3 := z.2
   have a4 : MemN _ _ _ _ _ := ⟨rfl, a0.1⟩
   have a5 := a0.2
   clear u b0 b1 b7 c2 e3 e0 e2 e1 b8 b3 b2 b4
   have u : Fun.At _ g4 0 k q := ⟨Mem.of_get d1, hin1⟩
   obtain ⟨b0, b1, b7, c2, e3, e0⟩ := u.get
   have e2 : MemN _ _ _ _ _ := ⟨rfl, u.1⟩
   have e1 := u.2
   have b8 : MemN _ _ _ _ _ := ⟨rfl, b0.1⟩
   have b3 := b0.2
   have b2 : MemN _ _ _ _ _ := ⟨rfl, b1.1⟩
   have b4 := b1.2
   clear u1
   have u1 := h.2 s (by omega)
   obtain ⟨hb, hR⟩ := hI
   refine .seq (fun K9 k2 => .seq (fun K10 i2 => .region (.mv rfl (.mv rfl (.q rfl (.len sl_25_B rfl) (.q rfl (.cmp rfl rfl rfl) (.nil (i2 _ _ ?_))))))))
   refine .cond rfl (fun h6 => ?_) (fun h6 => ?_)
   ·
    simp only [sps] at h6
    have y1 := hX t (by omega)
    have y1l := y1.l
    have y1a := y1.a
    have y1b := y1.b
    have y1c := y1.c
    have hUU : (kmU f (O.getD s []) (O.getD t [])).length = (f.s.hom ((O.getD s []).getD 0 0) ((O.getD t []).getD 0 0)).length := rfl
    have hVV : (kmV k (O.getD s []) (O.getD t [])).length = (k.s.hom ((O.getD s []).getD 1 0) ((O.getD t []).getD 1 0)).length := rfl
    have hU40 : (kmU f (O.getD s []) (O.getD t [])).length ≤ f.s.src.length := Cat.hom_le _ _ _
    have hV40 : (kmV k (O.getD s []) (O.getD t [])).length ≤ k.s.src.length := Cat.hom_le _ _ _
    have u2 := h.2 t (by omega)
    refine .skip ?_
    refine k2 _ _ (.seq (fun K11 g6 => ?_))
    refine .block ?_
    refine .seq (fun K12 i0 => ?_)
    refine .regionD mo_B (.q 0 (.q 1 (.q 2 (.q 3 (.q 4 (.q 5 (.q 6 (.q 7 (.q 8 (.q 9 (.done))))))))))) (by kernel_rfl) ?_
    refine .mv rfl rfl (.mv rfl rfl ?_)
    refine .q rfl (.idxN sl_25_B (Intss.sl (by assumption)) rfl rfl (by omega)) ?_
    refine .q rfl (.loadR on_24_B (by assumption) rfl (by omega)) ?_
    refine .mv rfl rfl (.mv rfl rfl ?_)
    refine .q rfl (.idxN sl_25_B (Intss.sl (by assumption)) rfl rfl (by omega)) ?_
    refine .q rfl (.loadR on_24_B (by assumption) rfl (by omega)) ?_
    refine .mv rfl rfl (.mv rfl rfl ?_)
    refine .done ?_
    refine i0 _ _ (.seq (fun K13 i3 => ?_))
    refine .regionD mo_B (.q 0 (.q 1 (.q 2 (.q 3 (.q 4 (.q 5 (.q 6 (.q 7 (.q 9 (.q 10 (.q 11 (.q 12 (.q 13 (.q 14 (.q 15 (.q 16 (.c 8 1 (.c 17 0 (.q 18 (.q 19 (.done))))))))))))))))))))) (by kernel_rfl) ?_
    refine .q rfl (.fieldAddr fo_33_0_E rfl) ?_
    refine .q rfl (.loadM ag_27_D rfl (by assumption)) ?_
    refine .mv rfl rfl ?_
    refine .q rfl (.idxN (j := 0) sl_24_A (by assumption) rfl rfl (by omega)) ?_
    refine .q rfl (.loadI on_2_A (by assumption) rfl (by omega)) ?_
    refine .mv rfl rfl ?_
    refine .q rfl (.idxN (j := 0) sl_24_A (by assumption) rfl rfl (by omega)) ?_
    refine .q rfl (.loadI on_2_A (by assumption) rfl (by omega)) ?_
    refine .q rfl (.fieldAddr fo_33_0_E rfl) ?_
    refine .q rfl (.loadM ag_27_D rfl (by assumption)) ?_
    refine .mv rfl rfl ?_
    refine .q rfl (.idxN (j := 1) sl_24_A (by assumption) rfl rfl (by omega)) ?_
    refine .q rfl (.loadI on_2_A (by assumption) rfl (by omega)) ?_
    refine .mv rfl rfl ?_
    refine .q rfl (.idxN (j := 1) sl_24_A (by assumption) rfl rfl (by omega)) ?_
    refine .q rfl (.loadI on_2_A (by assumption) rfl (by omega)) ?_
    refine .call1 rfl rfl rfl rfl rfl @Try.call114 rfl (l02Hom_c (hS := j2)) ?_
    rintro _ H45 ⟨e5, g45, rfl, w, ge45⟩
    have f6 := e5
    refine ⟨f6, ?_⟩
    have nx_H45 := e5.1
    replace m := m.trans e5
    replace a8 := a8.le e5
    replace b6 := b6.le e5
    replace c4 := e5.2 _ _ c4
    replace d1 := e5.2 _ _ d1
    replace c3 := e5.2 _ _ c3
    have lt_at45 := GHeap.ltg w
    replace hin := g.mono m
    replace hin1 := d.mono m
    replace h := v.mono m
    clear o z a0 a1 a6 d8 d6 d7 d9 a2 a3 a4 a5
    have o : Fun.At _ g3 0 f p := ⟨Mem.of_get c4, hin⟩
    obtain ⟨z, a0, a1, a6, d8, d6⟩ := o.get
    have d7 : MemN _ _ _ _ _ := ⟨rfl, o.1⟩
    have d9 := o.2
    have a2 : MemN _ _ _ _ _ := ⟨rfl, z.1⟩
    have a3 := z.2
    have a4 : MemN _ _ _ _ _ := ⟨rfl, a0.1⟩
    have a5 := a0.2
    clear u b0 b1 b7 c2 e3 e0 e2 e1 b8 b3 b2 b4
    have u : Fun.At _ g4 0 k q := ⟨Mem.of_get d1, hin1⟩
    obtain ⟨b0, b1, b7, c2, e3, e0⟩ := u.get
    have e2 : MemN _ _ _ _ _ := ⟨rfl, u.1⟩
    have e1 := u.2
    have b8 : MemN _ _ _ _ _ := ⟨rfl, b0.1⟩
    have b3 := b0.2
    have b2 : MemN _ _ _ _ _ := ⟨rfl, b1.1⟩
    have b4 := b1.2
    clear u1
    have u1 := h.2 s (by omega)
    clear u2
    have u2 := h.2 t (by omega)
    have e9 := Ints.of_get w
    refine .call0 rfl rfl rfl rfl rfl @Try.call114 rfl (l02Hom_c (hS := j9)) ?_
    rintro _ j1 ⟨e6, g54, rfl, a9, ge54⟩
    have nx_H54 := e6.1
    replace m := m.trans e6
    replace a8 := a8.le e6
    replace b6 := b6.le e6
    replace c4 := e6.2 _ _ c4
    replace d1 := e6.2 _ _ d1
    replace c3 := e6.2 _ _ c3
    replace w := e6.2 _ _ w
    have lt_at54 := GHeap.ltg a9
    replace hin := g.mono m
    replace hin1 := d.mono m
    replace h := v.mono m
    clear o z a0 a1 a6 d8 d6 d7 d9 a2 a3 a4 a5
    have o : Fun.At _ g3 0 f p := ⟨Mem.of_get c4, hin⟩
    obtain ⟨z, a0, a1, a6, d8, d6⟩ := o.get
    have d7 : MemN _ _ _ _ _ := ⟨rfl, o.1⟩
    have d9 := o.2
    have a2 : MemN _ _ _ _ _ := ⟨rfl, z.1⟩
    have a3 := z.2
    have a4 : MemN _ _ _ _ _ := ⟨rfl, a0.1⟩
    have a5 := a0.2
    clear u b0 b1 b7 c2 e3 e0 e2 e1 b8 b3 b2 b4
    have u : Fun.At _ g4 0 k q := ⟨Mem.of_get d1, hin1⟩
    obtain ⟨b0, b1, b7, c2, e3, e0⟩ := u.get
    have e2 : MemN _ _ _ _ _ := ⟨rfl, u.1⟩
    have e1 := u.2
    have b8 : MemN _ _ _ _ _ := ⟨rfl, b0.1⟩
    have b3 := b0.2
    have b2 : MemN _ _ _ _ _ := ⟨rfl, b1.1⟩
    have b4 := b1.2
    clear u1
    have u1 := h.2 s (by omega)
    clear u2
    have u2 := h.2 t (by omega)
    clear e9
    have e9 := Ints.of_get w
    have f2 := Ints.of_get a9
    refine .mv rfl rfl (.mv rfl rfl ?_)
    refine .done ?_
    refine i3 _ _ (.seq (fun K14 h4 => .region (.mv rfl (.nil (h4 _ _ ?_)))))
    refine .block ?_
    refine .loopR (σ := Nat × (Nat → Option Addr) × Nat × Nat) [(2, some _), (3, some _), (4, some _), (8, some _), (9, some _), (10, some _), (11, some _), (12, some _), (13, some _)] (fun (i, r3, c7, d5) => [(14, some (.int .i64 (i : Int))), (7, some (.slice (some ⟨c7, 0, none⟩) d5 d5))]) (fun (i, r3, c7, d5) H' => St [c5] j1 H' ∧ H'.get c7 = some (.row ((slsL r3 (kmB f k O s t i 0))) 24 true) ∧ (c7 = c5 ∨ j1.next ≤ c7) ∧ d5 = (slsL r3 (kmB f k O s t i 0)).length ∧ i ≤ (kmU f (O.getD s []) (O.getD t [])).length ∧ OwnL H.next H' 2 r3 (kmB f k O s t i 0)) (fun (i, r3, c7, d5) => (kmU f (O.getD s []) (O.getD t [])).length - i) ((0, r2, _, _)) ⟨rfl, rfl, rfl, rfl, rfl, rfl, rfl, rfl, rfl, trivial⟩ ⟨rfl, rfl, trivial⟩ ?_ ?_
    ·
     refine ⟨.refl _ _, by first | assumption | exact c3 | simpa using c3, .inl rfl, by first | rfl | assumption | simp | omega, ?_⟩
     exact ⟨by omega, (hR.keep (.of_le e5)).keep (.of_le e6)⟩
    rintro ⟨i, r3, c7, d5⟩ HL3 ⟨c6, e4, pl_L7v3, ln_L7v3, hI⟩ KL3 h5
    refine .forget (fr' := [(14, some (.int .i64 (i : Int))), (7, some (.slice (some ⟨c7, 0, none⟩) d5 d5)), (2, some _), (3, some _), (4, some _), (8, some _), (9, some _), (10, some _), (11, some _), (12, some _), (13, some _)]) ⟨rfl, rfl, rfl, rfl, rfl, rfl, rfl, rfl, rfl, rfl, rfl, trivial⟩ ?_
    have ge_L7v3 : H.next ≤ c7 := by omega
    have nx_HL3 := c6.nx
    replace m := m.st c6 (fun k hk => ⟨by omega, trivial⟩)
    replace a8 := a8.sA c6
    replace b6 := b6.sA c6
    replace c4 := c6.s c4
    replace d1 := c6.s d1
    replace w := c6.s w
    replace a9 := c6.s a9
    have lt_at_L7v3 := GHeap.ltg e4
    replace hin := g.mono m
    replace hin1 := d.mono m
    replace h := v.mono m
    clear o z a0 a1 a6 d8 d6 d7 d9 a2 a3 a4 a5
    have o : Fun.At _ g3 0 f p := ⟨Mem.of_get c4, hin⟩
    obtain ⟨z, a0, a1, a6, d8, d6⟩ := o.get
    have d7 : MemN _ _ _ _ _ := ⟨rfl, o.1⟩
    have d9 := o.2
    have a2 : MemN _ _ _ _ _ := ⟨rfl, z.1⟩
    have a3 := z.2
    have a4 : MemN _ _ _ _ _ := ⟨rfl, a0.1⟩
    have a5 := a0.2
    clear u b0 b1 b7 c2 e3 e0 e2 e1 b8 b3 b2 b4
    have u : Fun.At _ g4 0 k q := ⟨Mem.of_get d1, hin1⟩
    obtain ⟨b0, b1, b7, c2, e3, e0⟩ := u.get
    have e2 : MemN _ _ _ _ _ := ⟨rfl, u.1⟩
    have e1 := u.2
    have b8 : MemN _ _ _ _ _ := ⟨rfl, b0.1⟩
    have b3 := b0.2
    have b2 : MemN _ _ _ _ _ := ⟨rfl, b1.1⟩
    have b4 := b1.2
    clear u1
    have u1 := h.2 s (by omega)
    clear u2
    have u2 := h.2 t (by omega)
    clear e9
    have e9 := Ints.of_get w
    clear f2
    have f2 := Ints.of_get a9
    obtain ⟨hi, hR⟩ := hI
    refine .seq (fun K15 i7 => .seq (fun K16 h8 => .region (.mv rfl (.mv rfl (.q rfl (.len sl_24_A rfl) (.q rfl (.cmp rfl rfl rfl) (.nil (h8 _ _ ?_))))))))
    refine .cond rfl (fun g9 => ?_) (fun g9 => ?_)
    ·
     simp only [sps] at g9
     obtain ⟨uu, uu1, uu2, uu3, uu4⟩ := Cat.hom_get (c := f.s) (x := (O.getD s []).getD 0 0) (y := (O.getD t []).getD 0 0) (i := i) (by omega)
     have q7 := q3 ((f.s.hom ((O.getD s []).getD 0 0) ((O.getD t []).getD 0 0)).getD i 0).toNat (by omega)
     refine .skip ?_
     refine i7 _ _ (.seq (fun K17 h7 => ?_))
     refine .block ?_
     refine .seq (fun K18 i1 => .region (.mv rfl (.nil (i1 _ _ ?_))))
     refine .block ?_
     refine .loopR (σ := Nat × (Nat → Option Addr) × Nat × Nat) [(2, some _), (3, some _), (4, some _), (8, some _), (9, some _), (10, some _), (11, some _), (12, some _), (13, some _), (14, some _)] (fun (j, r4, d2, d4) => [(15, some (.int .i64 (j : Int))), (7, some (.slice (some ⟨d2, 0, none⟩) d4 d4))]) (fun (j, r4, d2, d4) H' => St [c7] HL3 H' ∧ H'.get d2 = some (.row ((slsL r4 (kmB f k O s t i j))) 24 true) ∧ (d2 = c7 ∨ HL3.next ≤ d2) ∧ d4 = (slsL r4 (kmB f k O s t i j)).length ∧ j ≤ (kmV k (O.getD s []) (O.getD t [])).length ∧ OwnL H.next H' 2 r4 (kmB f k O s t i j)) (fun (j, r4, d2, d4) => (kmV k (O.getD s []) (O.getD t [])).length - j) ((0, r3, _, _)) ⟨rfl, rfl, rfl, rfl, rfl, rfl, rfl, rfl, rfl, rfl, trivial⟩ ⟨rfl, rfl, trivial⟩ ?_ ?_
     ·
      refine ⟨.refl _ _, by first | assumption | exact e4 | simpa using e4, .inl rfl, by first | rfl | assumption | simp | omega, ?_⟩
      exact ⟨by omega, hR⟩
     rintro ⟨j, r4, d2, d4⟩ HL4 ⟨c8, c9, pl_L7v4, ln_L7v4, hI⟩ KL4 g1
     refine .forget (fr' := [(15, some (.int .i64 (j : Int))), (7, some (.slice (some ⟨d2, 0, none⟩) d4 d4)), (2, some _), (3, some _), (4, some _), (8, some _), (9, some _), (10, some _), (11, some _), (12, some _), (13, some _), (14, some _)]) ⟨rfl, rfl, rfl, rfl, rfl, rfl, rfl, rfl, rfl, rfl, rfl, rfl, trivial⟩ ?_
     have ge_L7v4 : H.next ≤ d2 := by omega
     have nx_HL4 := c8.nx
     replace m := m.st c8 (fun k hk => ⟨by omega, trivial⟩)
     replace a8 := a8.sA c8
     replace b6 := b6.sA c8
     replace c6 := c6.sA c8
     replace c4 := c8.s c4
     replace d1 := c8.s d1
     replace w := c8.s w
     replace a9 := c8.s a9
     have lt_at_L7v4 := GHeap.ltg c9
     replace hin := g.mono m
     replace hin1 := d.mono m
     replace h := v.mono m
     clear o z a0 a1 a6 d8 d6 d7 d9 a2 a3 a4 a5
     have o : Fun.At _ g3 0 f p := ⟨Mem.of_get c4, hin⟩
     obtain ⟨z, a0, a1, a6, d8, d6⟩ := o.get
     have d7 : MemN _ _ _ _ _ := ⟨rfl, o.1⟩
     have d9 := o.2
     have a2 : MemN _ _ _ _ _ := ⟨rfl, z.1⟩
     have a3 := z.2
     have a4 : MemN _ _ _ _ _ := ⟨rfl, a0.1⟩
     have a5 := a0.2
     clear u b0 b1 b7 c2 e3 e0 e2 e1 b8 b3 b2 b4
     have u : Fun.At _ g4 0 k q := ⟨Mem.of_get d1, hin1⟩
     obtain ⟨b0, b1, b7, c2, e3, e0⟩ := u.get
     have e2 : MemN _ _ _ _ _ := ⟨rfl, u.1⟩
     have e1 := u.2
     have b8 : MemN _ _ _ _ _ := ⟨rfl, b0.1⟩
     have b3 := b0.2
     have b2 : MemN _ _ _ _ _ := ⟨rfl, b1.1⟩
     have b4 := b1.2
     clear u1
     have u1 := h.2 s (by omega)
     clear u2
     have u2 := h.2 t (by omega)
     clear e9
     have e9 := Ints.of_get w
     clear f2
     have f2 := Ints.of_get a9
     have rk := St.refl [d2] HL4
     obtain ⟨hj, hR⟩ := hI
     have g0 := c9
     have hln := kmB_len (f := f) (k := k) (O := O) hN hO8 (s := s) (t := t) (i := i) (j := j) (by omega) (by omega) (by omega) hj
     have hfl : (slsL r4 (kmB f k O s t i j)).length = (kmB f k O s t i j).length := length_slsL _ _
     refine .seq (fun K19 g8 => .seq (fun K20 i4 => .region (.mv rfl (.mv rfl (.q rfl (.len sl_24_A rfl) (.q rfl (.cmp rfl rfl rfl) (.nil (i4 _ _ ?_))))))))
     refine .cond rfl (fun h9 => ?_) (fun h9 => ?_)
     ·
      simp only [sps] at h9
      obtain ⟨vv, vv1, vv2, vv3, vv4⟩ := Cat.hom_get (c := k.s) (x := (O.getD s []).getD 1 0) (y := (O.getD t []).getD 1 0) (i := j) (by omega)
      have q8 := q4 ((k.s.hom ((O.getD s []).getD 1 0) ((O.getD t []).getD 1 0)).getD j 0).toNat (by omega)
      refine .skip ?_
      refine g8 _ _ (.seq (fun K21 g2 => ?_))
      refine .block ?_
      refine .seq (fun K22 g5 => ?_)
      refine .regionD mo_B (.q 0 (.q 1 (.q 2 (.q 3 (.q 4 (.q 5 (.q 6 (.q 7 (.q 8 (.q 9 (.q 10 (.q 11 (.q 12 (.q 14 (.q 15 (.q 16 (.q 17 (.q 18 (.q 19 (.q 20 (.q 21 (.q 22 (.q 23 (.q 24 (.q 25 (.q 26 (.c 13 1 (.c 27 0 (.q 28 (.done)))))))))))))))))))))))))))))) (by kernel_rfl) ?_
      refine .q rfl (.fieldAddr fo_33_1_E rfl) ?_
      refine .q rfl (.loadM ag_27_D rfl (by assumption)) ?_
      refine .q rfl (.fieldAddr fo_33_3_E rfl) ?_
      refine .q rfl (.load on_24_B rfl (by first | assumption | exact Mem.of_get c4 11 _ rfl)) ?_
      refine .mv rfl rfl (.mv rfl rfl ?_)
      refine .q rfl (.idxN sl_24_A (by first | assumption | exact SlA.of_row w (by first | rfl | (simp; done) | (simp <;> omega))) rfl rfl (by omega)) ?_
      refine .q rfl (.loadI on_2_A (by first | assumption | exact Ints.of_get w) rfl (by omega)) ?_
      refine .q rfl (.idx1 sl_24_A (by assumption) rfl rfl (by omega) (by omega)) ?_
      refine .q rfl (.loadI on_2_A (by assumption) rfl (by omega)) ?_
      refine .mv rfl rfl ?_
      refine .q rfl (.idxN (j := 2) sl_24_A (by assumption) rfl rfl (by omega)) ?_
      refine .q rfl (.loadI on_2_A (by assumption) rfl (by omega)) ?_
      refine .q rfl (.fieldAddr fo_33_1_E rfl) ?_
      refine .q rfl (.loadM ag_27_D rfl (by assumption)) ?_
      refine .mv rfl rfl ?_
      refine .q rfl (.idxN (j := 2) sl_24_A (by assumption) rfl rfl (by omega)) ?_
      refine .q rfl (.loadI on_2_A (by assumption) rfl (by omega)) ?_
      refine .q rfl (.fieldAddr fo_33_3_E rfl) ?_
      refine .q rfl (.load on_24_B rfl (by first | assumption | exact Mem.of_get d1 11 _ rfl)) ?_
      refine .mv rfl rfl (.mv rfl rfl ?_)
      refine .q rfl (.idxN sl_24_A (by first | assumption | exact SlA.of_row a9 (by first | rfl | (simp; done) | (simp <;> omega))) rfl rfl (by omega)) ?_
      refine .q rfl (.loadI on_2_A (by first | assumption | exact Ints.of_get a9) rfl (by omega)) ?_
      refine .q rfl (.idx1 sl_24_A (by assumption) rfl rfl (by omega) (by omega)) ?_
      refine .q rfl (.loadI on_2_A (by assumption) rfl (by omega)) ?_
      refine .callQ1 rfl rfl rfl rfl rfl @Try.call209 rfl (l02Then_c (hS := hS)) (.refl _) ?_
      refine .callQ0 rfl rfl rfl rfl rfl @Try.call209 rfl (l02Then_c (hS := hS)) ?_
      refine .q rfl (.cmp rfl rfl rfl) ?_
      refine .done ?_
      refine g5 _ _ ?_
      refine .cond rfl (fun f8 => ?_) (fun f8 => ?_)
      ·
       simp only [sps] at f8
       have hT : kmT f k (O.getD s []) (O.getD t []) ((kmU f (O.getD s []) (O.getD t [])).getD i 0, (kmV k (O.getD s []) (O.getD t [])).getD j 0) = true := decide_eq_true f8
       refine .regionD mo_B (.q 0 (.q 1 (.q 2 (.q 3 (.q 4 (.q 5 (.q 6 (.q 7 (.q 8 (.q 9 (.q 10 (.c 11 1 (.c 12 1 (.c 13 0 (.c 14 0 (.done)))))))))))))))) (by kernel_rfl) ?_
       refine .mv rfl rfl (.mv rfl rfl (.mv rfl rfl (.mv rfl rfl (.mv rfl rfl ?_))))
       refine .q rfl (.idxN sl_24_A (by first | assumption | exact SlA.of_row w (by first | rfl | (simp; done) | (simp <;> omega))) rfl rfl (by omega)) ?_
       refine .q rfl (.loadI on_2_A (by first | assumption | exact Ints.of_get w) rfl (by omega)) ?_
       refine .mv rfl rfl (.mv rfl rfl ?_)
       refine .q rfl (.idxN sl_24_A (by first | assumption | exact SlA.of_row a9 (by first | rfl | (simp; done) | (simp <;> omega))) rfl rfl (by omega)) ?_
       refine .q rfl (.loadI on_2_A (by first | assumption | exact Ints.of_get a9) rfl (by omega)) ?_
       refine .c1 rfl rfl rfl rfl (.litA rfl sl_24_A ze_2_E rfl rfl rfl rfl) ?_
       rintro _ H107 ⟨f9, rfl, b5, ge107, e7⟩
       have f6 := b5
       refine ⟨f6, ?_⟩
       have nx_H107 := b5.1
       replace m := m.trans b5
       replace a8 := a8.le b5
       replace b6 := b6.le b5
       replace c6 := c6.le b5
       replace c8 := c8.le b5
       replace rk := rk.le b5
       replace c4 := b5.2 _ _ c4
       replace d1 := b5.2 _ _ d1
       replace w := b5.2 _ _ w
       replace a9 := b5.2 _ _ a9
       replace c9 := b5.2 _ _ c9
       have lt_at107 := GHeap.ltg e7
       replace hin := g.mono m
       replace hin1 := d.mono m
       replace h := v.mono m
       clear o z a0 a1 a6 d8 d6 d7 d9 a2 a3 a4 a5
       have o : Fun.At _ g3 0 f p := ⟨Mem.of_get c4, hin⟩
       obtain ⟨z, a0, a1, a6, d8, d6⟩ := o.get
       have d7 : MemN _ _ _ _ _ := ⟨rfl, o.1⟩
       have d9 := o.2
       have a2 : MemN _ _ _ _ _ := ⟨rfl, z.1⟩
       have a3 := z.2
       have a4 : MemN _ _ _ _ _ := ⟨rfl, a0.1⟩
       have a5 := a0.2
       clear u b0 b1 b7 c2 e3 e0 e2 e1 b8 b3 b2 b4
       have u : Fun.At _ g4 0 k q := ⟨Mem.of_get d1, hin1⟩
       obtain ⟨b0, b1, b7, c2, e3, e0⟩ := u.get
       have e2 : MemN _ _ _ _ _ := ⟨rfl, u.1⟩
       have e1 := u.2
       have b8 : MemN _ _ _ _ _ := ⟨rfl, b0.1⟩
       have b3 := b0.2
       have b2 : MemN _ _ _ _ _ := ⟨rfl, b1.1⟩
       have b4 := b1.2
       clear u1
       have u1 := h.2 s (by omega)
       clear u2
       have u2 := h.2 t (by omega)
       clear e9
       have e9 := Ints.of_get w
       clear f2
       have f2 := Ints.of_get a9
       refine .c1 rfl rfl rfl rfl (.litA rfl sl_25_B ze_24_E rfl rfl rfl rfl) ?_
       rintro _ H108 ⟨g108, rfl, a7, ge108, f1⟩
       replace f6 := f6.trans a7
       refine ⟨f6, ?_⟩
       have nx_H108 := a7.1
       replace m := m.trans a7
       replace a8 := a8.le a7
       replace b6 := b6.le a7
       replace c6 := c6.le a7
       replace c8 := c8.le a7
       replace rk := rk.le a7
       replace c4 := a7.2 _ _ c4
       replace d1 := a7.2 _ _ d1
       replace w := a7.2 _ _ w
       replace a9 := a7.2 _ _ a9
       replace c9 := a7.2 _ _ c9
       replace e7 := a7.2 _ _ e7
       have lt_at108 := GHeap.ltg f1
       replace hin := g.mono m
       replace hin1 := d.mono m
       replace h := v.mono m
       clear o z a0 a1 a6 d8 d6 d7 d9 a2 a3 a4 a5
       have o : Fun.At _ g3 0 f p := ⟨Mem.of_get c4, hin⟩
       obtain ⟨z, a0, a1, a6, d8, d6⟩ := o.get
       have d7 : MemN _ _ _ _ _ := ⟨rfl, o.1⟩
       have d9 := o.2
       have a2 : MemN _ _ _ _ _ := ⟨rfl, z.1⟩
       have a3 := z.2
       have a4 : MemN _ _ _ _ _ := ⟨rfl, a0.1⟩
       have a5 := a0.2
       clear u b0 b1 b7 c2 e3 e0 e2 e1 b8 b3 b2 b4
       have u : Fun.At _ g4 0 k q := ⟨Mem.of_get d1, hin1⟩
       obtain ⟨b0, b1, b7, c2, e3, e0⟩ := u.get
       have e2 : MemN _ _ _ _ _ := ⟨rfl, u.1⟩
       have e1 := u.2
       have b8 : MemN _ _ _ _ _ := ⟨rfl, b0.1⟩
       have b3 := b0.2
       have b2 : MemN _ _ _ _ _ := ⟨rfl, b1.1⟩
       have b4 := b1.2
       clear u1
       have u1 := h.2 s (by omega)
       clear u2
       have u2 := h.2 t (by omega)
       clear e9
       have e9 := Ints.of_get w
       clear f2
       have f2 := Ints.of_get a9
       refine .c0 rfl rfl rfl rfl (.appendV rfl sl_25_B ze_24_E rfl by_24_E sl_25_B rfl rfl (by assumption) (by assumption) (by first | omega | (simp <;> omega)) rfl rfl (by omega) (by omega)) ?_
       rintro _ H109 ⟨g109, rfl, b9, ge109, f7⟩
       have nx_H109 := b9.nx
       replace m := m.st b9 (fun k hk => ⟨by omega, trivial⟩)
       replace a8 := a8.sA b9
       replace b6 := b6.sA b9
       replace c6 := c6.sA b9
       replace c8 := c8.sA b9
       replace rk := rk.sA b9
       replace c4 := b9.s c4
       replace d1 := b9.s d1
       replace w := b9.s w
       replace a9 := b9.s a9
       replace e7 := b9.s e7
       replace f1 := b9.s f1
       have lt_at109 := GHeap.ltg f7
       replace hin := g.mono m
       replace hin1 := d.mono m
       replace h := v.mono m
       clear o z a0 a1 a6 d8 d6 d7 d9 a2 a3 a4 a5
       have o : Fun.At _ g3 0 f p := ⟨Mem.of_get c4, hin⟩
       obtain ⟨z, a0, a1, a6, d8, d6⟩ := o.get
       have d7 : MemN _ _ _ _ _ := ⟨rfl, o.1⟩
       have d9 := o.2
       have a2 : MemN _ _ _ _ _ := ⟨rfl, z.1⟩
       have a3 := z.2
       have a4 : MemN _ _ _ _ _ := ⟨rfl, a0.1⟩
       have a5 := a0.2
       clear u b0 b1 b7 c2 e3 e0 e2 e1 b8 b3 b2 b4
       have u : Fun.At _ g4 0 k q := ⟨Mem.of_get d1, hin1⟩
       obtain ⟨b0, b1, b7, c2, e3, e0⟩ := u.get
       have e2 : MemN _ _ _ _ _ := ⟨rfl, u.1⟩
       have e1 := u.2
       have b8 : MemN _ _ _ _ _ := ⟨rfl, b0.1⟩
       have b3 := b0.2
       have b2 : MemN _ _ _ _ _ := ⟨rfl, b1.1⟩
       have b4 := b1.2
       clear u1
       have u1 := h.2 s (by omega)
       clear u2
       have u2 := h.2 t (by omega)
       clear e9
       have e9 := Ints.of_get w
       clear f2
       have f2 := Ints.of_get a9
       refine .d0 rfl rfl rfl rfl (.quiet (.assign rfl) CIs.mk) ?_
       refine .done ?_
       refine g2 _ _ (.region (.mv rfl ?_))
       refine .q rfl (.add rfl rfl rfl (by omega) (by omega)) ?_
       refine .mv rfl (.nil ?_)
       refine g1 ((j + 1, by first | exact upd r4 (kmB f k O s t i j).length (some ⟨f9, 0, none⟩) | exact r4, _, _)) _ _ ?_ ?_ ⟨rfl, rfl, rfl, rfl, rfl, rfl, rfl, rfl, rfl, rfl, rfl, rfl, trivial⟩
       ·
        refine ⟨c8, by first | assumption | (rw [kmB_yes hT, slsL_snoc]; assumption) | (rw [kmB_no hT]; assumption), by omega, by first | omega | (simp only [List.length_append, List.length_cons, List.length_nil] <;> omega) | (rw [kmB_yes hT, slsL_snoc] <;> (first | omega | (simp only [List.length_append, List.length_cons, List.length_nil] <;> omega))) | (rw [kmB_no hT] <;> (first | omega | (simp only [List.length_append, List.length_cons, List.length_nil] <;> omega))), ?_⟩
        exact ⟨by omega, by first | (rw [kmB_yes hT]; exact hR.snoc (x := [(s : Int), (t : Int), (kmU f (O.getD s []) (O.getD t [])).getD i 0, (kmV k (O.getD s []) (O.getD t [])).getD j 0]) (rk.lasts1 g0 rfl) (by assumption) (by omega) (by omega)) | (rw [kmB_no hT]; exact hR)⟩
       (dsimp only; omega)
      simp only [sps] at f8
      have hT : kmT f k (O.getD s []) (O.getD t []) ((kmU f (O.getD s []) (O.getD t [])).getD i 0, (kmV k (O.getD s []) (O.getD t [])).getD j 0) = false := decide_eq_false f8
      refine .skip ?_
      refine g2 _ _ (.region (.mv rfl ?_))
      refine .q rfl (.add rfl rfl rfl (by omega) (by omega)) ?_
      refine .mv rfl (.nil ?_)
      refine g1 ((j + 1, by first | exact upd r4 (kmB f k O s t i j).length (some ⟨f9, 0, none⟩) | exact r4, _, _)) _ _ ?_ ?_ ⟨rfl, rfl, rfl, rfl, rfl, rfl, rfl, rfl, rfl, rfl, rfl, rfl, trivial⟩
      ·
       refine ⟨c8, by first | assumption | (rw [kmB_yes hT, slsL_snoc]; assumption) | (rw [kmB_no hT]; assumption), by omega, by first | omega | (simp only [List.length_append, List.length_cons, List.length_nil] <;> omega) | (rw [kmB_yes hT, slsL_snoc] <;> (first | omega | (simp only [List.length_append, List.length_cons, List.length_nil] <;> omega))) | (rw [kmB_no hT] <;> (first | omega | (simp only [List.length_append, List.length_cons, List.length_nil] <;> omega))), ?_⟩
       exact ⟨by omega, by first | (rw [kmB_yes hT]; exact hR.snoc (x := [(s : Int), (t : Int), (kmU f (O.getD s []) (O.getD t [])).getD i 0, (kmV k (O.getD s []) (O.getD t [])).getD j 0]) (rk.lasts1 g0 rfl) (by assumption) (by omega) (by omega)) | (rw [kmB_no hT]; exact hR)⟩
      (dsimp only; omega)
     try simp only [sps] at h9
     refine .exit ?_
     refine h7 _ _ (.region (.mv rfl ?_))
     refine .q rfl (.add rfl rfl rfl (by omega) (by omega)) ?_
     refine .mv rfl (.nil ?_)
     obtain rfl : j = (kmV k (O.getD s []) (O.getD t [])).length := by omega
     refine h5 ((i + 1, r4, _, _)) _ _ ?_ ?_ ⟨rfl, rfl, rfl, rfl, rfl, rfl, rfl, rfl, rfl, rfl, rfl, trivial⟩
     ·
      refine ⟨c6, by first | assumption | (rw [kmB_next3]; assumption), by omega, by first | omega | (simp only [List.length_append, List.length_cons, List.length_nil] <;> omega) | (rw [kmB_next3] <;> (first | omega | (simp only [List.length_append, List.length_cons, List.length_nil] <;> omega))), ?_⟩
      exact ⟨by omega, by rw [kmB_next3]; exact hR⟩
     (dsimp only; omega)
    try simp only [sps] at g9
    refine .exit ?_
    refine g6 _ _ (.region (.mv rfl ?_))
    refine .q rfl (.add rfl rfl rfl (by omega) (by omega)) ?_
    refine .mv rfl (.nil ?_)
    obtain rfl : i = (kmU f (O.getD s []) (O.getD t [])).length := by omega
    refine h1 ((t + 1, r3, _, _)) _ _ ?_ ?_ ⟨rfl, rfl, rfl, rfl, rfl, rfl, trivial⟩
    ·
     refine ⟨b6, by first | assumption | (rw [kmB_next2]; assumption), by omega, by first | omega | (simp only [List.length_append, List.length_cons, List.length_nil] <;> omega) | (rw [kmB_next2] <;> (first | omega | (simp only [List.length_append, List.length_cons, List.length_nil] <;> omega))), ?_⟩
     exact ⟨by omega, by rw [kmB_next2]; exact hR⟩
    (dsimp only; omega)
   try simp only [sps] at h6
   refine .exit ?_
   refine j6 _ _ (.region (.mv rfl ?_))
   refine .q rfl (.add rfl rfl rfl (by omega) (by omega)) ?_
   refine .mv rfl (.nil ?_)
   obtain rfl : t = O.length := by omega
   refine g7 ((s + 1, r2, _, _)) _ _ ?_ ?_ ⟨rfl, rfl, rfl, rfl, rfl, trivial⟩
   ·
    refine ⟨a8, by first | assumption | (rw [kmB_next1]; assumption), by omega, by first | omega | (simp only [List.length_append, List.length_cons, List.length_nil] <;> omega) | (rw [kmB_next1] <;> (first | omega | (simp only [List.length_append, List.length_cons, List.length_nil] <;> omega))), ?_⟩
    exact ⟨by omega, by rw [kmB_next1]; exact hR⟩
   (dsimp only; omega)
  try simp only [sps] at h3
  refine .exit ?_
  refine j4 _ _ (.seq (fun K23 i5 => .region (.mv rfl (.mv rfl (.nil (i5 _ _ ?_))))))
  refine .ret ?_
  refine i6 _ _ ?_
  refine ⟨_, rfl, ?_⟩
  obtain rfl : s = O.length := by omega
  rw [kmB_zero] at e8 f4 hR
  exact ⟨m, _, rr, by rw [f4, length_slsL]; rfl, hR.done e8 (by omega)⟩
end Go.Proofs.Ytiooclghkafokaa
namespace Go.Proofs.Ytiooclghkafokaa
open Go Go.GL Go.RowKit Go.Proofs
theorem bt_27_Mb : buildT Try.prog 27 = some ([.int .i64 0, .slice none 0 0, .slice none 0 0, .slice none 0 0, .slice none 0 0], [(0, 1), (1, 1), (2, 1), (3, 1), (4, 1)]) := by kernel_rfl
set_option maxHeartbeats 8000000 in
theorem l09Build_c {n : Nat} {ad aL aR : Option Addr} {A : List (List Int)} {r : Nat → Option Addr} {a b : Cat} {p q : CatP} {L R : List Int} {H : GHeap} (h : Intss H ad A r) (hin : a.In H p) (hin1 : b.In H q) (hL : Ints H aL L) (hR : Ints H aR R) (hSa : a.Shape) (hSb : b.Shape) (hn : n ≤ 8) (hLl : L.length = n) (hRl : R.length = n)
    (hA : A.length ≤ 102400) (hA4 : ∀ i, (A.getD i []).length ≤ 4) (hY : ∀ i, i < A.length → (A.getD i []).length = 4 ∧ (0 ≤ (A.getD i []).getD 2 0 ∧ (A.getD i []).getD 2 0 < a.src.length) ∧ 0 ≤ (A.getD i []).getD 3 0 ∧ (A.getD i []).getD 3 0 < b.src.length)
    (hLi : ∀ i, i < n → 0 ≤ L.getD i 0 ∧ L.getD i 0 < a.idn.length) (hRi : ∀ i, i < n → 0 ≤ R.getD i 0 ∧ R.getD i 0 < b.idn.length) :
    GCalls Try.prog 184 [.int .i64 (n : Int), .slice ad A.length A.length, .agg (a.cells p).toArray, .agg (b.cells q).toArray, .slice aL L.length L.length, .slice aR R.length R.length] H
      (fun v H' => H.Le H' ∧ ∃ (c : Cat) (p : CatP), v = .agg (c.cells p).toArray ∧ CatK H.next H' c p ∧ c.obj = n ∧ c.src.length = A.length) := by
  refine GCalls.body (N := 156) (rs := [.cell 12 27]) Try.func184 rfl rfl rfl rfl (fun Qx s1 hend => ?_)
  refine .fg [0, 1, 2, 3, 4, 5] rfl ?_
  have f := GHeap.Le.refl H
  have a1 := h
  have l := hin
  have e := hin1
  have u := hL
  have t := hR
  refine .seq (fun K1 w7 => .region ?_)
  refine .R rfl (.boxR rfl sz_27_D rfl) ?_
  rintro _ H8 ⟨g8, rfl, v5, ge8, a6⟩
  have nx_H8 := v5.1
  replace f := f.trans v5
  have lt_at8 := GHeap.ltg a6
  replace h := a1.mono f
  replace hin := l.mono f
  replace hin1 := e.mono f
  replace hL := u.mono f
  replace hR := t.mono f
  have w : Cat.At _ g8 0 a p := ⟨Mem.of_get a6, hin⟩
  obtain ⟨b3, b8, b4, b9, c4, b5, c2, b6, b7⟩ := w.get
  have c3 : MemN _ _ _ _ _ := ⟨rfl, w.1⟩
  have c5 := w.2
  refine .R rfl (.boxR rfl sz_27_D rfl) ?_
  rintro _ H9 ⟨g9, rfl, u3, ge9, a7⟩
  have nx_H9 := u3.1
  replace f := f.trans u3
  replace a6 := u3.2 _ _ a6
  have lt_at9 := GHeap.ltg a7
  replace h := a1.mono f
  replace hin := l.mono f
  replace hin1 := e.mono f
  replace hL := u.mono f
  replace hR := t.mono f
  clear w b3 b8 b4 b9 c4 b5 c2 b6 b7 c3 c5
  have w : Cat.At _ g8 0 a p := ⟨Mem.of_get a6, hin⟩
  obtain ⟨b3, b8, b4, b9, c4, b5, c2, b6, b7⟩ := w.get
  have c3 : MemN _ _ _ _ _ := ⟨rfl, w.1⟩
  have c5 := w.2
  have y : Cat.At _ g9 0 b q := ⟨Mem.of_get a7, hin1⟩
  obtain ⟨d1, c9, d5, c7, d2, d3, d7, d6, c8⟩ := y.get
  have d8 : MemN _ _ _ _ _ := ⟨rfl, y.1⟩
  have c6 := y.2
  refine .R rfl (.allocR rfl ze_27_E rfl) ?_
  rintro _ H12 ⟨l6, rfl, q1, ge12, a3⟩
  have nx_H12 := q1.1
  replace f := f.trans q1
  replace a6 := q1.2 _ _ a6
  replace a7 := q1.2 _ _ a7
  have lt_at12 := GHeap.ltg a3
  replace h := a1.mono f
  replace hin := l.mono f
  replace hin1 := e.mono f
  replace hL := u.mono f
  replace hR := t.mono f
  clear w b3 b8 b4 b9 c4 b5 c2 b6 b7 c3 c5
  have w : Cat.At _ g8 0 a p := ⟨Mem.of_get a6, hin⟩
  obtain ⟨b3, b8, b4, b9, c4, b5, c2, b6, b7⟩ := w.get
  have c3 : MemN _ _ _ _ _ := ⟨rfl, w.1⟩
  have c5 := w.2
  clear y d1 c9 d5 c7 d2 d3 d7 d6 c8 d8 c6
  have y : Cat.At _ g9 0 b q := ⟨Mem.of_get a7, hin1⟩
  obtain ⟨d1, c9, d5, c7, d2, d3, d7, d6, c8⟩ := y.get
  have d8 : MemN _ _ _ _ _ := ⟨rfl, y.1⟩
  have c6 := y.2
  refine .nil (w7 _ _ (.seq (fun K2 x0 => .region (.mv rfl ?_))))
  refine .R rfl (.litA rfl sl_24_A ze_2_E rfl rfl rfl rfl) ?_
  rintro _ w9 ⟨q0, rfl, o8, ge22, j2⟩
  have nx_H22 := o8.1
  replace f := f.trans o8
  replace a6 := o8.2 _ _ a6
  replace a7 := o8.2 _ _ a7
  replace a3 := o8.2 _ _ a3
  have lt_at22 := GHeap.ltg j2
  replace h := a1.mono f
  replace hin := l.mono f
  replace hin1 := e.mono f
  replace hL := u.mono f
  replace hR := t.mono f
  clear w b3 b8 b4 b9 c4 b5 c2 b6 b7 c3 c5
  have w : Cat.At _ g8 0 a p := ⟨Mem.of_get a6, hin⟩
  obtain ⟨b3, b8, b4, b9, c4, b5, c2, b6, b7⟩ := w.get
  have c3 : MemN _ _ _ _ _ := ⟨rfl, w.1⟩
  have c5 := w.2
  clear y d1 c9 d5 c7 d2 d3 d7 d6 c8 d8 c6
  have y : Cat.At _ g9 0 b q := ⟨Mem.of_get a7, hin1⟩
  obtain ⟨d1, c9, d5, c7, d2, d3, d7, d6, c8⟩ := y.get
  have d8 : MemN _ _ _ _ _ := ⟨rfl, y.1⟩
  have c6 := y.2
  replace j2 : GHeap.get w9 q0 = some (.row (ints []) 2 true) := j2
  refine .R rfl (.litA rfl sl_24_A ze_2_E rfl rfl rfl rfl) ?_
  rintro _ v9 ⟨p9, rfl, o7, ge23, k3⟩
  have nx_H23 := o7.1
  replace f := f.trans o7
  replace a6 := o7.2 _ _ a6
  replace a7 := o7.2 _ _ a7
  replace a3 := o7.2 _ _ a3
  replace j2 := o7.2 _ _ j2
  have lt_at23 := GHeap.ltg k3
  replace h := a1.mono f
  replace hin := l.mono f
  replace hin1 := e.mono f
  replace hL := u.mono f
  replace hR := t.mono f
  clear w b3 b8 b4 b9 c4 b5 c2 b6 b7 c3 c5
  have w : Cat.At _ g8 0 a p := ⟨Mem.of_get a6, hin⟩
  obtain ⟨b3, b8, b4, b9, c4, b5, c2, b6, b7⟩ := w.get
  have c3 : MemN _ _ _ _ _ := ⟨rfl, w.1⟩
  have c5 := w.2
  clear y d1 c9 d5 c7 d2 d3 d7 d6 c8 d8 c6
  have y : Cat.At _ g9 0 b q := ⟨Mem.of_get a7, hin1⟩
  obtain ⟨d1, c9, d5, c7, d2, d3, d7, d6, c8⟩ := y.get
  have d8 : MemN _ _ _ _ _ := ⟨rfl, y.1⟩
  have c6 := y.2
  replace k3 : GHeap.get v9 p9 = some (.row (ints []) 2 true) := k3
  refine .R rfl (.litA rfl sl_24_A ze_2_E rfl rfl rfl rfl) ?_
  rintro _ w4 ⟨o1, rfl, o2, ge24, e9⟩
  have nx_H24 := o2.1
  replace f := f.trans o2
  replace a6 := o2.2 _ _ a6
  replace a7 := o2.2 _ _ a7
  replace a3 := o2.2 _ _ a3
  replace j2 := o2.2 _ _ j2
  replace k3 := o2.2 _ _ k3
  have lt_at24 := GHeap.ltg e9
  replace h := a1.mono f
  replace hin := l.mono f
  replace hin1 := e.mono f
  replace hL := u.mono f
  replace hR := t.mono f
  clear w b3 b8 b4 b9 c4 b5 c2 b6 b7 c3 c5
  have w : Cat.At _ g8 0 a p := ⟨Mem.of_get a6, hin⟩
  obtain ⟨b3, b8, b4, b9, c4, b5, c2, b6, b7⟩ := w.get
  have c3 : MemN _ _ _ _ _ := ⟨rfl, w.1⟩
  have c5 := w.2
  clear y d1 c9 d5 c7 d2 d3 d7 d6 c8 d8 c6
  have y : Cat.At _ g9 0 b q := ⟨Mem.of_get a7, hin1⟩
  obtain ⟨d1, c9, d5, c7, d2, d3, d7, d6, c8⟩ := y.get
  have d8 : MemN _ _ _ _ _ := ⟨rfl, y.1⟩
  have c6 := y.2
  replace e9 : GHeap.get w4 o1 = some (.row (ints []) 2 true) := e9
  refine .R rfl (.litA rfl sl_25_B ze_24_E rfl rfl rfl rfl) ?_
  rintro _ H25 ⟨n5, rfl, n7, ge25, d9⟩
  have nx_H25 := n7.1
  replace f := f.trans n7
  replace a6 := n7.2 _ _ a6
  replace a7 := n7.2 _ _ a7
  replace a3 := n7.2 _ _ a3
  replace j2 := n7.2 _ _ j2
  replace k3 := n7.2 _ _ k3
  replace e9 := n7.2 _ _ e9
  have lt_at25 := GHeap.ltg d9
  replace h := a1.mono f
  replace hin := l.mono f
  replace hin1 := e.mono f
  replace hL := u.mono f
  replace hR := t.mono f
  clear w b3 b8 b4 b9 c4 b5 c2 b6 b7 c3 c5
  have w : Cat.At _ g8 0 a p := ⟨Mem.of_get a6, hin⟩
  obtain ⟨b3, b8, b4, b9, c4, b5, c2, b6, b7⟩ := w.get
  have c3 : MemN _ _ _ _ _ := ⟨rfl, w.1⟩
  have c5 := w.2
  clear y d1 c9 d5 c7 d2 d3 d7 d6 c8 d8 c6
  have y : Cat.At _ g9 0 b q := ⟨Mem.of_get a7, hin1⟩
  obtain ⟨d1, c9, d5, c7, d2, d3, d7, d6, c8⟩ := y.get
  have d8 : MemN _ _ _ _ _ := ⟨rfl, y.1⟩
  have c6 := y.2
  refine .q rfl (.build bt_27_Mb rfl rfl rfl) ?_
  refine .R rfl (.allocR rfl ze_27_E rfl) ?_
  rintro _ H13 ⟨m2, rfl, n2, ge13, t8⟩
  have nx_H13 := n2.1
  replace f := f.trans n2
  replace a6 := n2.2 _ _ a6
  replace a7 := n2.2 _ _ a7
  replace a3 := n2.2 _ _ a3
  replace j2 := n2.2 _ _ j2
  replace k3 := n2.2 _ _ k3
  replace e9 := n2.2 _ _ e9
  replace d9 := n2.2 _ _ d9
  have lt_at13 := GHeap.ltg t8
  replace h := a1.mono f
  replace hin := l.mono f
  replace hin1 := e.mono f
  replace hL := u.mono f
  replace hR := t.mono f
  clear w b3 b8 b4 b9 c4 b5 c2 b6 b7 c3 c5
  have w : Cat.At _ g8 0 a p := ⟨Mem.of_get a6, hin⟩
  obtain ⟨b3, b8, b4, b9, c4, b5, c2, b6, b7⟩ := w.get
  have c3 : MemN _ _ _ _ _ := ⟨rfl, w.1⟩
  have c5 := w.2
  clear y d1 c9 d5 c7 d2 d3 d7 d6 c8 d8 c6
  have y : Cat.At _ g9 0 b q := ⟨Mem.of_get a7, hin1⟩
  obtain ⟨d1, c9, d5, c7, d2, d3, d7, d6, c8⟩ := y.get
  have d8 : MemN _ _ _ _ _ := ⟨rfl, y.1⟩
  have c6 := y.2
  refine .r0 rfl rfl (.fillA rfl sz_27_D rfl rfl rfl rfl) ?_
  rintro _ p5 ⟨rfl, g6, a4⟩
  have nx_H1007 := g6.nx
  replace f := f.st g6 (fun k hk => ⟨by omega, trivial⟩)
  have e0 : NE g8 m2 := .a
  replace a6 := g6.s a6 e0.ne
  have e1 : NE g9 m2 := .a
  replace a7 := g6.s a7 e1.ne
  have a9 : NE l6 m2 := .a
  replace a3 := g6.s a3 a9.ne
  replace j2 := g6.s j2
  replace k3 := g6.s k3
  have g7 : NE o1 m2 := .a
  replace e9 := g6.s e9 g7.ne
  have e5 : NE n5 m2 := .a
  replace d9 := g6.s d9 e5.ne
  have lt_at1007 := GHeap.ltg a4
  replace h := a1.mono f
  replace hin := l.mono f
  replace hin1 := e.mono f
  replace hL := u.mono f
  replace hR := t.mono f
  clear w b3 b8 b4 b9 c4 b5 c2 b6 b7 c3 c5
  have w : Cat.At _ g8 0 a p := ⟨Mem.of_get a6, hin⟩
  obtain ⟨b3, b8, b4, b9, c4, b5, c2, b6, b7⟩ := w.get
  have c3 : MemN _ _ _ _ _ := ⟨rfl, w.1⟩
  have c5 := w.2
  clear y d1 c9 d5 c7 d2 d3 d7 d6 c8 d8 c6
  have y : Cat.At _ g9 0 b q := ⟨Mem.of_get a7, hin1⟩
  obtain ⟨d1, c9, d5, c7, d2, d3, d7, d6, c8⟩ := y.get
  have d8 : MemN _ _ _ _ _ := ⟨rfl, y.1⟩
  have c6 := y.2
  have o : MemN _ _ _ _ _ := ⟨rfl, Mem.of_get a4⟩
  refine .nil (x0 _ _ (.seq (fun K3 w0 => .seq (fun K4 v8 => .region (.mv rfl (.nil (v8 _ _ ?_)))))))
  refine .block ?_
  refine .loopR (σ := Nat × List Int × List Int × Nat × Nat) [(0, some _), (1, some _), (4, some _), (5, some _), (8, some _), (9, some _), (12, some _), (13, some _)] (fun (i, ss, ts, gLF, gLT) => [(14, some (.int .i64 (i : Int)))]) (fun (i, ss, ts, gLF, gLT) H' => St [q0, p9, m2] p5 H' ∧ H'.get gLF = some (.row (ints ss) 2 true) ∧ PL gLF q0 p5.next ∧ H'.get gLT = some (.row (ints ts) 2 true) ∧ PL gLT p9 p5.next ∧ H'.get m2 = some (.row ([.int .i64 (n : Int), .slice (some ⟨gLF, 0, none⟩) ss.length ss.length, .slice (some ⟨gLT, 0, none⟩) ts.length ts.length, .slice (some ⟨o1, 0, none⟩) 0 0, .slice (some ⟨n5, 0, none⟩) 0 0]) 27 true) ∧ gLF ≠ gLT ∧ gLF ≠ m2 ∧ gLT ≠ m2 ∧ i ≤ A.length ∧ ss.length = i ∧ ts.length = i) (fun (i, ss, ts, gLF, gLT) => A.length - i) ((0, [], [], q0, p9)) ⟨rfl, rfl, rfl, rfl, rfl, rfl, rfl, rfl, trivial⟩ ⟨rfl, trivial⟩ ?_ ?_
  ·
   refine ⟨.refl _ _, by first | assumption | exact j2 | simpa using j2, ⟨.inl rfl⟩, by first | assumption | exact k3 | simpa using k3, ⟨.inl rfl⟩, by first | assumption | exact a4 | simpa using a4, by omega, by omega, by omega, ?_⟩
   exact ⟨by omega, rfl, rfl⟩
  rintro ⟨i, ss, ts, gLF, gLT⟩ HL1 ⟨g2, a2, i8, a0, i7, d, r1, o0, m9, hI⟩ KL1 s5
  refine .forget (fr' := [(14, some (.int .i64 (i : Int))), (0, some _), (1, some _), (4, some _), (5, some _), (8, some _), (9, some _), (12, some _), (13, some _)]) ⟨rfl, rfl, rfl, rfl, rfl, rfl, rfl, rfl, rfl, trivial⟩ ?_
  have q3 : H.next ≤ gLF := i8.ge (by omega) (by omega)
  have q5 : H.next ≤ gLT := i7.ge (by omega) (by omega)
  have nx_HL1 := g2.nx
  replace f := f.st g2 (fun k hk => ⟨by omega, by omega, by omega, trivial⟩)
  have m8 : NE g8 q0 := .a
  have m5 : NE g8 p9 := .a
  replace a6 := g2.same _ _ ⟨m8.ne, m5.ne, e0.ne, trivial⟩ a6
  have n0 : NE g9 q0 := .a
  have m7 : NE g9 p9 := .a
  replace a7 := g2.same _ _ ⟨n0.ne, m7.ne, e1.ne, trivial⟩ a7
  have h6 : NE l6 q0 := .a
  have h1 : NE l6 p9 := .a
  replace a3 := g2.same _ _ ⟨h6.ne, h1.ne, a9.ne, trivial⟩ a3
  have j3 : NE o1 q0 := .a
  have j1 : NE o1 p9 := .a
  replace e9 := g2.same _ _ ⟨j3.ne, j1.ne, g7.ne, trivial⟩ e9
  have k0 : NE n5 q0 := .a
  have j5 : NE n5 p9 := .a
  replace d9 := g2.same _ _ ⟨k0.ne, j5.ne, e5.ne, trivial⟩ d9
  have lt_at_LF := GHeap.ltg a2
  have lt_at_LT := GHeap.ltg a0
  have l8 := GHeap.ltg d
  replace h := a1.mono f
  replace hin := l.mono f
  replace hin1 := e.mono f
  replace hL := u.mono f
  replace hR := t.mono f
  clear w b3 b8 b4 b9 c4 b5 c2 b6 b7 c3 c5
  have w : Cat.At _ g8 0 a p := ⟨Mem.of_get a6, hin⟩
  obtain ⟨b3, b8, b4, b9, c4, b5, c2, b6, b7⟩ := w.get
  have c3 : MemN _ _ _ _ _ := ⟨rfl, w.1⟩
  have c5 := w.2
  clear y d1 c9 d5 c7 d2 d3 d7 d6 c8 d8 c6
  have y : Cat.At _ g9 0 b q := ⟨Mem.of_get a7, hin1⟩
  obtain ⟨d1, c9, d5, c7, d2, d3, d7, d6, c8⟩ := y.get
  have d8 : MemN _ _ _ _ _ := ⟨rfl, y.1⟩
  have c6 := y.2
  clear o
  have o : MemN _ _ _ _ _ := ⟨rfl, Mem.of_get a4⟩
  obtain ⟨hi, hsl, htl⟩ := hI
  refine .seq (fun K5 w1 => .seq (fun K6 w6 => .region (.mv rfl (.mv rfl (.q rfl (.len sl_25_B rfl) (.q rfl (.cmp rfl rfl rfl) (.nil (w6 _ _ ?_))))))))
  refine .cond rfl (fun s6 => ?_) (fun s6 => ?_)
  ·
   simp only [sps] at s6
   have y1 := hY i (by omega)
   have u1 := h.2 i (by omega)
   refine .skip ?_
   refine w1 _ _ (.seq (fun K7 w2 => ?_))
   refine .block ?_
   refine .seq (fun K8 x2 => ?_)
   refine .regionD mo_B (.q 0 (.q 1 (.q 2 (.q 3 (.q 4 (.q 5 (.q 6 (.q 7 (.c 8 1 (.c 9 0 (.q 10 (.c 11 0 (.done))))))))))))) (by kernel_rfl) ?_
   refine .q rfl (.fieldAddr fo_27_1_B rfl) ?_
   refine .q rfl (.load on_24_B rfl (by first | assumption | exact Mem.of_get d 1 _ rfl)) ?_
   refine .mv rfl rfl (.mv rfl rfl ?_)
   refine .q rfl (.idxN sl_25_B (Intss.sl (by assumption)) rfl rfl (by omega)) ?_
   refine .q rfl (.loadR on_24_B (by assumption) rfl (by omega)) ?_
   refine .q rfl (.idxN (j := 0) sl_24_A (by assumption) rfl rfl (by omega)) ?_
   refine .q rfl (.loadI on_2_A (by assumption) rfl (by omega)) ?_
   refine .c1 rfl rfl rfl rfl (.litA rfl sl_24_A ze_2_E rfl rfl rfl rfl) ?_
   rintro _ H41 ⟨x1, rfl, l1, ge41, l7⟩
   have o6 := l1
   refine ⟨o6, ?_⟩
   have nx_H41 := l1.1
   replace f := f.trans l1
   replace g2 := g2.le l1
   replace a6 := l1.2 _ _ a6
   replace a7 := l1.2 _ _ a7
   replace a3 := l1.2 _ _ a3
   replace e9 := l1.2 _ _ e9
   replace d9 := l1.2 _ _ d9
   replace a2 := l1.2 _ _ a2
   replace a0 := l1.2 _ _ a0
   replace d := l1.2 _ _ d
   have lt_at41 := GHeap.ltg l7
   replace h := a1.mono f
   replace hin := l.mono f
   replace hin1 := e.mono f
   replace hL := u.mono f
   replace hR := t.mono f
   clear w b3 b8 b4 b9 c4 b5 c2 b6 b7 c3 c5
   have w : Cat.At _ g8 0 a p := ⟨Mem.of_get a6, hin⟩
   obtain ⟨b3, b8, b4, b9, c4, b5, c2, b6, b7⟩ := w.get
   have c3 : MemN _ _ _ _ _ := ⟨rfl, w.1⟩
   have c5 := w.2
   clear y d1 c9 d5 c7 d2 d3 d7 d6 c8 d8 c6
   have y : Cat.At _ g9 0 b q := ⟨Mem.of_get a7, hin1⟩
   obtain ⟨d1, c9, d5, c7, d2, d3, d7, d6, c8⟩ := y.get
   have d8 : MemN _ _ _ _ _ := ⟨rfl, y.1⟩
   have c6 := y.2
   clear o
   have o : MemN _ _ _ _ _ := ⟨rfl, Mem.of_get a4⟩
   clear u1
   have u1 := h.2 i (by omega)
   refine .c0 rfl rfl rfl rfl (.appendI rfl sl_24_A ze_2_E rfl by_2_E sl_24_A rfl rfl (by assumption) (by assumption) (by first | omega | (simp <;> omega)) (by omega) (by omega)) ?_
   rintro _ H42 ⟨v6, rfl, l9, ge42, n4⟩
   have nx_H42 := l9.nx
   replace f := f.st l9 (fun k hk => ⟨by omega, trivial⟩)
   replace g2 := g2.sP l9
   replace a6 := l9.same _ _ ⟨(i8.ne m8.ne (by omega)), trivial⟩ a6
   replace a7 := l9.same _ _ ⟨(i8.ne n0.ne (by omega)), trivial⟩ a7
   have f5 : NE l6 gLF := ⟨i8.ne h6.ne (by omega)⟩
   replace a3 := l9.s a3 f5.ne
   have h9 : NE o1 gLF := ⟨i8.ne j3.ne (by omega)⟩
   replace e9 := l9.s e9 h9.ne
   have h4 : NE n5 gLF := ⟨i8.ne k0.ne (by omega)⟩
   replace d9 := l9.s d9 h4.ne
   replace a0 := l9.same _ _ ⟨(Ne.symm r1), trivial⟩ a0
   replace d := l9.same _ _ ⟨(Ne.symm o0), trivial⟩ d
   replace l7 := l9.s l7
   have lt_at42 := GHeap.ltg n4
   replace h := a1.mono f
   replace hin := l.mono f
   replace hin1 := e.mono f
   replace hL := u.mono f
   replace hR := t.mono f
   clear w b3 b8 b4 b9 c4 b5 c2 b6 b7 c3 c5
   have w : Cat.At _ g8 0 a p := ⟨Mem.of_get a6, hin⟩
   obtain ⟨b3, b8, b4, b9, c4, b5, c2, b6, b7⟩ := w.get
   have c3 : MemN _ _ _ _ _ := ⟨rfl, w.1⟩
   have c5 := w.2
   clear y d1 c9 d5 c7 d2 d3 d7 d6 c8 d8 c6
   have y : Cat.At _ g9 0 b q := ⟨Mem.of_get a7, hin1⟩
   obtain ⟨d1, c9, d5, c7, d2, d3, d7, d6, c8⟩ := y.get
   have d8 : MemN _ _ _ _ _ := ⟨rfl, y.1⟩
   have c6 := y.2
   clear o
   have o : MemN _ _ _ _ _ := ⟨rfl, Mem.of_get a4⟩
   clear u1
   have u1 := h.2 i (by omega)
   refine .q rfl (.fieldAddr fo_27_1_B rfl) ?_
   refine .r0 rfl rfl rfl (.storeR rfl sz_24_E rfl rfl rfl (by assumption) (by first | exact Nat.le_of_ble_eq_true rfl | (simp; done) | (simp <;> omega))) ?_
   rintro _ H5011 ⟨rfl, f3, k1⟩
   have nx_H5011 := f3.nx
   replace f := f.st f3 (fun k hk => ⟨by omega, trivial⟩)
   replace g2 := g2.sA f3
   replace a6 := f3.s a6 e0.ne
   replace a7 := f3.s a7 e1.ne
   replace a3 := f3.s a3 a9.ne
   replace e9 := f3.s e9 g7.ne
   replace d9 := f3.s d9 e5.ne
   replace a0 := f3.same _ _ ⟨m9, trivial⟩ a0
   have m0 : NE x1 m2 := .a
   replace l7 := f3.s l7 m0.ne
   have m1 : NE v6 m2 := .a
   replace n4 := f3.s n4 m1.ne
   have lt_at5011 := GHeap.ltg k1
   replace h := a1.mono f
   replace hin := l.mono f
   replace hin1 := e.mono f
   replace hL := u.mono f
   replace hR := t.mono f
   clear w b3 b8 b4 b9 c4 b5 c2 b6 b7 c3 c5
   have w : Cat.At _ g8 0 a p := ⟨Mem.of_get a6, hin⟩
   obtain ⟨b3, b8, b4, b9, c4, b5, c2, b6, b7⟩ := w.get
   have c3 : MemN _ _ _ _ _ := ⟨rfl, w.1⟩
   have c5 := w.2
   clear y d1 c9 d5 c7 d2 d3 d7 d6 c8 d8 c6
   have y : Cat.At _ g9 0 b q := ⟨Mem.of_get a7, hin1⟩
   obtain ⟨d1, c9, d5, c7, d2, d3, d7, d6, c8⟩ := y.get
   have d8 : MemN _ _ _ _ _ := ⟨rfl, y.1⟩
   have c6 := y.2
   clear o
   have o : MemN _ _ _ _ _ := ⟨rfl, Mem.of_get a4⟩
   clear u1
   have u1 := h.2 i (by omega)
   try simp only [Nat.zero_add, List.set_cons_succ, List.set_cons_zero] at k1
   refine .done ?_
   refine x2 _ _ ?_
   refine .regionD mo_B (.q 0 (.q 1 (.q 2 (.q 3 (.q 4 (.q 5 (.q 6 (.q 7 (.c 8 1 (.c 9 0 (.q 10 (.c 11 0 (.done))))))))))))) (by kernel_rfl) ?_
   refine .q rfl (.fieldAddr fo_27_2_B rfl) ?_
   refine .q rfl (.load on_24_B rfl (by first | assumption | exact Mem.of_get k1 2 _ rfl)) ?_
   refine .mv rfl rfl (.mv rfl rfl ?_)
   refine .q rfl (.idxN sl_25_B (Intss.sl (by assumption)) rfl rfl (by omega)) ?_
   refine .q rfl (.loadR on_24_B (by assumption) rfl (by omega)) ?_
   refine .q rfl (.idxN (j := 1) sl_24_A (by assumption) rfl rfl (by omega)) ?_
   refine .q rfl (.loadI on_2_A (by assumption) rfl (by omega)) ?_
   refine .c1 rfl rfl rfl rfl (.litA rfl sl_24_A ze_2_E rfl rfl rfl rfl) ?_
   rintro _ H52 ⟨g52, rfl, k9, ge52, p4⟩
   have o6 := k9
   refine ⟨o6, ?_⟩
   have nx_H52 := k9.1
   replace f := f.trans k9
   replace g2 := g2.le k9
   replace a6 := k9.2 _ _ a6
   replace a7 := k9.2 _ _ a7
   replace a3 := k9.2 _ _ a3
   replace e9 := k9.2 _ _ e9
   replace d9 := k9.2 _ _ d9
   replace a0 := k9.2 _ _ a0
   replace l7 := k9.2 _ _ l7
   replace n4 := k9.2 _ _ n4
   replace k1 := k9.2 _ _ k1
   have lt_at52 := GHeap.ltg p4
   replace h := a1.mono f
   replace hin := l.mono f
   replace hin1 := e.mono f
   replace hL := u.mono f
   replace hR := t.mono f
   clear w b3 b8 b4 b9 c4 b5 c2 b6 b7 c3 c5
   have w : Cat.At _ g8 0 a p := ⟨Mem.of_get a6, hin⟩
   obtain ⟨b3, b8, b4, b9, c4, b5, c2, b6, b7⟩ := w.get
   have c3 : MemN _ _ _ _ _ := ⟨rfl, w.1⟩
   have c5 := w.2
   clear y d1 c9 d5 c7 d2 d3 d7 d6 c8 d8 c6
   have y : Cat.At _ g9 0 b q := ⟨Mem.of_get a7, hin1⟩
   obtain ⟨d1, c9, d5, c7, d2, d3, d7, d6, c8⟩ := y.get
   have d8 : MemN _ _ _ _ _ := ⟨rfl, y.1⟩
   have c6 := y.2
   clear o
   have o : MemN _ _ _ _ _ := ⟨rfl, Mem.of_get a4⟩
   clear u1
   have u1 := h.2 i (by omega)
   refine .c0 rfl rfl rfl rfl (.appendI rfl sl_24_A ze_2_E rfl by_2_E sl_24_A rfl rfl (by assumption) (by assumption) (by first | omega | (simp <;> omega)) (by omega) (by omega)) ?_
   rintro _ H53 ⟨w3, rfl, l2, ge53, q6⟩
   have nx_H53 := l2.nx
   replace f := f.st l2 (fun k hk => ⟨by omega, trivial⟩)
   replace g2 := g2.sP l2
   replace a6 := l2.same _ _ ⟨(i7.ne m5.ne (by omega)), trivial⟩ a6
   replace a7 := l2.same _ _ ⟨(i7.ne m7.ne (by omega)), trivial⟩ a7
   have f8 : NE l6 gLT := ⟨i7.ne h1.ne (by omega)⟩
   replace a3 := l2.s a3 f8.ne
   have h2 : NE o1 gLT := ⟨i7.ne j1.ne (by omega)⟩
   replace e9 := l2.s e9 h2.ne
   have h5 : NE n5 gLT := ⟨i7.ne j5.ne (by omega)⟩
   replace d9 := l2.s d9 h5.ne
   replace l7 := l2.s l7
   replace n4 := l2.s n4
   replace k1 := l2.same _ _ ⟨(Ne.symm m9), trivial⟩ k1
   replace p4 := l2.s p4
   have lt_at53 := GHeap.ltg q6
   replace h := a1.mono f
   replace hin := l.mono f
   replace hin1 := e.mono f
   replace hL := u.mono f
   replace hR := t.mono f
   clear w b3 b8 b4 b9 c4 b5 c2 b6 b7 c3 c5
   have w : Cat.At _ g8 0 a p := ⟨Mem.of_get a6, hin⟩
   obtain ⟨b3, b8, b4, b9, c4, b5, c2, b6, b7⟩ := w.get
   have c3 : MemN _ _ _ _ _ := ⟨rfl, w.1⟩
   have c5 := w.2
   clear y d1 c9 d5 c7 d2 d3 d7 d6 c8 d8 c6
   have y : Cat.At _ g9 0 b q := ⟨Mem.of_get a7, hin1⟩
   obtain ⟨d1, c9, d5, c7, d2, d3, d7, d6, c8⟩ := y.get
   have d8 : MemN _ _ _ _ _ := ⟨rfl, y.1⟩
   have c6 := y.2
   clear o
   have o : MemN _ _ _ _ _ := ⟨rfl, Mem.of_get a4⟩
   clear u1
   have u1 := h.2 i (by omega)
   refine .q rfl (.fieldAddr fo_27_2_B rfl) ?_
   refine .r0 rfl rfl rfl (.storeR rfl sz_24_E rfl rfl rfl (by assumption) (by first | exact Nat.le_of_ble_eq_true rfl | (simp; done) | (simp <;> omega))) ?_
   rintro _ H6011 ⟨rfl, f0, p0⟩
   have nx_H6011 := f0.nx
   replace f := f.st f0 (fun k hk => ⟨by omega, trivial⟩)
   replace g2 := g2.sA f0
   replace a6 := f0.s a6 e0.ne
   replace a7 := f0.s a7 e1.ne
   replace a3 := f0.s a3 a9.ne
   replace e9 := f0.s e9 g7.ne
   replace d9 := f0.s d9 e5.ne
   replace l7 := f0.s l7 m0.ne
   replace n4 := f0.s n4 m1.ne
   replace p4 := f0.s p4
   replace q6 := f0.s q6
   have lt_at6011 := GHeap.ltg p0
   replace h := a1.mono f
   replace hin := l.mono f
   replace hin1 := e.mono f
   replace hL := u.mono f
   replace hR := t.mono f
   clear w b3 b8 b4 b9 c4 b5 c2 b6 b7 c3 c5
   have w : Cat.At _ g8 0 a p := ⟨Mem.of_get a6, hin⟩
   obtain ⟨b3, b8, b4, b9, c4, b5, c2, b6, b7⟩ := w.get
   have c3 : MemN _ _ _ _ _ := ⟨rfl, w.1⟩
   have c5 := w.2
   clear y d1 c9 d5 c7 d2 d3 d7 d6 c8 d8 c6
   have y : Cat.At _ g9 0 b q := ⟨Mem.of_get a7, hin1⟩
   obtain ⟨d1, c9, d5, c7, d2, d3, d7, d6, c8⟩ := y.get
   have d8 : MemN _ _ _ _ _ := ⟨rfl, y.1⟩
   have c6 := y.2
   clear o
   have o : MemN _ _ _ _ _ := ⟨rfl, Mem.of_get a4⟩
   clear u1
   have u1 := h.2 i (by omega)
   try simp only [Nat.zero_add, List.set_cons_succ, List.set_cons_zero] at p0
   refine .done ?_
   refine w2 _ _ (.region (.mv rfl ?_))
   refine .q rfl (.add rfl rfl rfl (by omega) (by omega)) ?_
   refine .mv rfl (.nil ?_)
   refine s5 ((i + 1, ss ++ [(A.getD i []).getD 0 0], ts ++ [(A.getD i []).getD 1 0], v6, w3)) _ _ ?_ ?_ ⟨rfl, rfl, rfl, rfl, rfl, rfl, rfl, rfl, rfl, trivial⟩
   ·
    refine ⟨g2, by first | assumption | (rw [List.length_append]; assumption) | (rw [List.length_append, List.length_append]; assumption), by first | assumption | exact ⟨.inr (by omega)⟩ | exact ⟨.inl rfl⟩, by first | assumption | (rw [List.length_append]; assumption) | (rw [List.length_append, List.length_append]; assumption), by first | assumption | exact ⟨.inr (by omega)⟩ | exact ⟨.inl rfl⟩, by first | assumption | (rw [List.length_append]; assumption) | (rw [List.length_append, List.length_append]; assumption), by first | assumption | omega, by first | assumption | omega, by first | assumption | omega, ?_⟩
    exact ⟨by omega, by simp; omega, by simp; omega⟩
   (dsimp only; omega)
  try simp only [sps] at s6
  refine .exit ?_
  refine w0 _ _ (.seq (fun K9 x3 => .seq (fun K10 u6 => .region (.mv rfl (.nil (u6 _ _ ?_))))))
  refine .block ?_
  refine .loopR (σ := Nat × List Int × Nat) [(0, some _), (1, some _), (4, some _), (5, some _), (8, some _), (9, some _), (12, some _), (13, some _)] (fun (x, is, gLI) => [(15, some (.int .i64 (x : Int)))]) (fun (x, is, gLI) H' => St [o1, m2] HL1 H' ∧ H'.get gLI = some (.row (ints is) 2 true) ∧ PL gLI o1 HL1.next ∧ H'.get m2 = some (.row ([.int .i64 (n : Int), .slice (some ⟨gLF, 0, none⟩) ss.length ss.length, .slice (some ⟨gLT, 0, none⟩) ts.length ts.length, .slice (some ⟨gLI, 0, none⟩) is.length is.length, .slice (some ⟨n5, 0, none⟩) 0 0]) 27 true) ∧ gLI ≠ m2 ∧ x ≤ n ∧ is.length = x) (fun (x, is, gLI) => n - x) ((0, [], o1)) ⟨rfl, rfl, rfl, rfl, rfl, rfl, rfl, rfl, trivial⟩ ⟨rfl, trivial⟩ ?_ ?_
  ·
   refine ⟨.refl _ _, by first | assumption | exact e9 | simpa using e9, ⟨.inl rfl⟩, by first | assumption | exact d | simpa using d, by omega, ?_⟩
   exact ⟨by omega, rfl⟩
  rintro ⟨x, is, gLI⟩ HL2 ⟨i3, a5, i6, d, p8, hI⟩ KL2 t1
  refine .forget (fr' := [(15, some (.int .i64 (x : Int))), (0, some _), (1, some _), (4, some _), (5, some _), (8, some _), (9, some _), (12, some _), (13, some _)]) ⟨rfl, rfl, rfl, rfl, rfl, rfl, rfl, rfl, rfl, trivial⟩ ?_
  have q4 : H.next ≤ gLI := i6.ge (by omega) (by omega)
  have nx_HL2 := i3.nx
  replace f := f.st i3 (fun k hk => ⟨by omega, by omega, trivial⟩)
  have m6 : NE g8 o1 := .a
  replace a6 := i3.same _ _ ⟨m6.ne, e0.ne, trivial⟩ a6
  have n1 : NE g9 o1 := .a
  replace a7 := i3.same _ _ ⟨n1.ne, e1.ne, trivial⟩ a7
  have i0 : NE l6 o1 := .a
  replace a3 := i3.same _ _ ⟨i0.ne, a9.ne, trivial⟩ a3
  have j6 : NE n5 o1 := .a
  replace d9 := i3.same _ _ ⟨j6.ne, e5.ne, trivial⟩ d9
  have h9 : NE o1 gLF := ⟨i8.ne j3.ne (by omega)⟩
  replace a2 := i3.same _ _ ⟨(Ne.symm h9.ne), o0, trivial⟩ a2
  have h2 : NE o1 gLT := ⟨i7.ne j1.ne (by omega)⟩
  replace a0 := i3.same _ _ ⟨(Ne.symm h2.ne), m9, trivial⟩ a0
  have lt_at_LI := GHeap.ltg a5
  have l8 := GHeap.ltg d
  replace h := a1.mono f
  replace hin := l.mono f
  replace hin1 := e.mono f
  replace hL := u.mono f
  replace hR := t.mono f
  clear w b3 b8 b4 b9 c4 b5 c2 b6 b7 c3 c5
  have w : Cat.At _ g8 0 a p := ⟨Mem.of_get a6, hin⟩
  obtain ⟨b3, b8, b4, b9, c4, b5, c2, b6, b7⟩ := w.get
  have c3 : MemN _ _ _ _ _ := ⟨rfl, w.1⟩
  have c5 := w.2
  clear y d1 c9 d5 c7 d2 d3 d7 d6 c8 d8 c6
  have y : Cat.At _ g9 0 b q := ⟨Mem.of_get a7, hin1⟩
  obtain ⟨d1, c9, d5, c7, d2, d3, d7, d6, c8⟩ := y.get
  have d8 : MemN _ _ _ _ _ := ⟨rfl, y.1⟩
  have c6 := y.2
  clear o
  have o : MemN _ _ _ _ _ := ⟨rfl, Mem.of_get a4⟩
  obtain ⟨hx, hil⟩ := hI
  refine .seq (fun K11 s4 => .seq (fun K12 u4 => .region (.mv rfl (.mv rfl (.q rfl (.cmp rfl rfl rfl) (.nil (u4 _ _ ?_)))))))
  refine .cond rfl (fun s2 => ?_) (fun s2 => ?_)
  ·
   simp only [sps] at s2
   have z1 := hLi x (by omega)
   have z2 := hRi x (by omega)
   refine .skip ?_
   refine s4 _ _ (.seq (fun K13 u7 => ?_))
   refine .block ?_
   refine .regionD mo_B (.q 0 (.q 1 (.q 2 (.q 3 (.q 4 (.q 5 (.q 6 (.q 7 (.q 8 (.q 9 (.q 10 (.q 11 (.q 12 (.q 13 (.q 14 (.q 15 (.q 16 (.q 17 (.q 18 (.q 19 (.q 20 (.c 21 1 (.c 22 1 (.c 23 1 (.c 24 0 (.q 25 (.c 26 0 (.done)))))))))))))))))))))))))))) (by kernel_rfl) ?_
   refine .q rfl (.fieldAddr fo_27_3_B rfl) ?_
   refine .q rfl (.load on_24_B rfl (by first | assumption | exact Mem.of_get d 3 _ rfl)) ?_
   refine .mv rfl rfl (.mv rfl rfl (.mv rfl rfl (.q rfl (.fieldAddr fo_27_3_B rfl) ?_)))
   refine .q rfl (.load on_24_B rfl (by first | assumption | exact Mem.of_get a6 3 _ rfl)) ?_
   refine .mv rfl rfl (.mv rfl rfl ?_)
   refine .q rfl (.idxN sl_24_A (by assumption) rfl rfl (by omega)) ?_
   refine .q rfl (.loadI on_2_A (by assumption) rfl (by omega)) ?_
   refine .q rfl (.idx1 sl_24_A (by assumption) rfl rfl (by omega) (by omega)) ?_
   refine .q rfl (.loadI on_2_A (by assumption) rfl (by omega)) ?_
   refine .q rfl (.fieldAddr fo_27_3_B rfl) ?_
   refine .q rfl (.load on_24_B rfl (by first | assumption | exact Mem.of_get a7 3 _ rfl)) ?_
   refine .mv rfl rfl (.mv rfl rfl ?_)
   refine .q rfl (.idxN sl_24_A (by assumption) rfl rfl (by omega)) ?_
   refine .q rfl (.loadI on_2_A (by assumption) rfl (by omega)) ?_
   refine .q rfl (.idx1 sl_24_A (by assumption) rfl rfl (by omega) (by omega)) ?_
   refine .q rfl (.loadI on_2_A (by assumption) rfl (by omega)) ?_
   refine .c1 rfl rfl rfl rfl (.litA rfl sl_24_A ze_2_E rfl rfl rfl rfl) ?_
   rintro _ H81 ⟨g81, rfl, l4, ge81, o3⟩
   have o6 := l4
   refine ⟨o6, ?_⟩
   have nx_H81 := l4.1
   replace f := f.trans l4
   replace i3 := i3.le l4
   replace a6 := l4.2 _ _ a6
   replace a7 := l4.2 _ _ a7
   replace a3 := l4.2 _ _ a3
   replace d9 := l4.2 _ _ d9
   replace a2 := l4.2 _ _ a2
   replace a0 := l4.2 _ _ a0
   replace a5 := l4.2 _ _ a5
   replace d := l4.2 _ _ d
   have lt_at81 := GHeap.ltg o3
   replace h := a1.mono f
   replace hin := l.mono f
   replace hin1 := e.mono f
   replace hL := u.mono f
   replace hR := t.mono f
   clear w b3 b8 b4 b9 c4 b5 c2 b6 b7 c3 c5
   have w : Cat.At _ g8 0 a p := ⟨Mem.of_get a6, hin⟩
   obtain ⟨b3, b8, b4, b9, c4, b5, c2, b6, b7⟩ := w.get
   have c3 : MemN _ _ _ _ _ := ⟨rfl, w.1⟩
   have c5 := w.2
   clear y d1 c9 d5 c7 d2 d3 d7 d6 c8 d8 c6
   have y : Cat.At _ g9 0 b q := ⟨Mem.of_get a7, hin1⟩
   obtain ⟨d1, c9, d5, c7, d2, d3, d7, d6, c8⟩ := y.get
   have d8 : MemN _ _ _ _ _ := ⟨rfl, y.1⟩
   have c6 := y.2
   clear o
   have o : MemN _ _ _ _ _ := ⟨rfl, Mem.of_get a4⟩
   refine .call1 rfl rfl rfl rfl rfl @Try.call210 rfl ((l09Find_c (by assumption) (Ints.of_get (xs := [(x : Int), (x : Int), a.idn.getD (L.getD x 0).toNat 0, b.idn.getD (R.getD x 0).toNat 0]) (by assumption)) (by omega) (fun i => by have := hA4 i; omega) (by show 4 ≤ 1048576; omega))) ?_
   rintro _ _ ⟨rfl, rfl⟩
   refine ⟨(by assumption), ?_⟩
   refine .c1 rfl rfl rfl rfl (.litA rfl sl_24_A ze_2_E rfl rfl rfl rfl) ?_
   rintro _ H83 ⟨g83, rfl, k7, ge83, p2⟩
   replace o6 := o6.trans k7
   refine ⟨o6, ?_⟩
   have nx_H83 := k7.1
   replace f := f.trans k7
   replace i3 := i3.le k7
   replace a6 := k7.2 _ _ a6
   replace a7 := k7.2 _ _ a7
   replace a3 := k7.2 _ _ a3
   replace d9 := k7.2 _ _ d9
   replace a2 := k7.2 _ _ a2
   replace a0 := k7.2 _ _ a0
   replace a5 := k7.2 _ _ a5
   replace d := k7.2 _ _ d
   replace o3 := k7.2 _ _ o3
   have lt_at83 := GHeap.ltg p2
   replace h := a1.mono f
   replace hin := l.mono f
   replace hin1 := e.mono f
   replace hL := u.mono f
   replace hR := t.mono f
   clear w b3 b8 b4 b9 c4 b5 c2 b6 b7 c3 c5
   have w : Cat.At _ g8 0 a p := ⟨Mem.of_get a6, hin⟩
   obtain ⟨b3, b8, b4, b9, c4, b5, c2, b6, b7⟩ := w.get
   have c3 : MemN _ _ _ _ _ := ⟨rfl, w.1⟩
   have c5 := w.2
   clear y d1 c9 d5 c7 d2 d3 d7 d6 c8 d8 c6
   have y : Cat.At _ g9 0 b q := ⟨Mem.of_get a7, hin1⟩
   obtain ⟨d1, c9, d5, c7, d2, d3, d7, d6, c8⟩ := y.get
   have d8 : MemN _ _ _ _ _ := ⟨rfl, y.1⟩
   have c6 := y.2
   clear o
   have o : MemN _ _ _ _ _ := ⟨rfl, Mem.of_get a4⟩
   refine .c0 rfl rfl rfl rfl (.appendI rfl sl_24_A ze_2_E rfl by_2_E sl_24_A rfl rfl (by assumption) (by assumption) (by first | omega | (simp <;> omega)) (by omega) (by omega)) ?_
   rintro _ H84 ⟨w8, rfl, l3, ge84, q7⟩
   have nx_H84 := l3.nx
   replace f := f.st l3 (fun k hk => ⟨by omega, trivial⟩)
   replace i3 := i3.sP l3
   replace a6 := l3.same _ _ ⟨(i6.ne m6.ne (by omega)), trivial⟩ a6
   replace a7 := l3.same _ _ ⟨(i6.ne n1.ne (by omega)), trivial⟩ a7
   have f4 : NE l6 gLI := ⟨i6.ne i0.ne (by omega)⟩
   replace a3 := l3.s a3 f4.ne
   have h8 : NE n5 gLI := ⟨i6.ne j6.ne (by omega)⟩
   replace d9 := l3.s d9 h8.ne
   replace a2 := l3.same _ _ ⟨(i6.ne (Ne.symm h9.ne) (by omega)), trivial⟩ a2
   replace a0 := l3.same _ _ ⟨(i6.ne (Ne.symm h2.ne) (by omega)), trivial⟩ a0
   replace d := l3.same _ _ ⟨(Ne.symm p8), trivial⟩ d
   replace o3 := l3.s o3
   replace p2 := l3.s p2
   have lt_at84 := GHeap.ltg q7
   replace h := a1.mono f
   replace hin := l.mono f
   replace hin1 := e.mono f
   replace hL := u.mono f
   replace hR := t.mono f
   clear w b3 b8 b4 b9 c4 b5 c2 b6 b7 c3 c5
   have w : Cat.At _ g8 0 a p := ⟨Mem.of_get a6, hin⟩
   obtain ⟨b3, b8, b4, b9, c4, b5, c2, b6, b7⟩ := w.get
   have c3 : MemN _ _ _ _ _ := ⟨rfl, w.1⟩
   have c5 := w.2
   clear y d1 c9 d5 c7 d2 d3 d7 d6 c8 d8 c6
   have y : Cat.At _ g9 0 b q := ⟨Mem.of_get a7, hin1⟩
   obtain ⟨d1, c9, d5, c7, d2, d3, d7, d6, c8⟩ := y.get
   have d8 : MemN _ _ _ _ _ := ⟨rfl, y.1⟩
   have c6 := y.2
   clear o
   have o : MemN _ _ _ _ _ := ⟨rfl, Mem.of_get a4⟩
   refine .q rfl (.fieldAddr fo_27_3_B rfl) ?_
   refine .r0 rfl rfl rfl (.storeR rfl sz_24_E rfl rfl rfl (by assumption) (by first | exact Nat.le_of_ble_eq_true rfl | (simp; done) | (simp <;> omega))) ?_
   rintro _ H10026 ⟨rfl, d4, o5⟩
   have nx_H10026 := d4.nx
   replace f := f.st d4 (fun k hk => ⟨by omega, trivial⟩)
   replace i3 := i3.sA d4
   replace a6 := d4.s a6 e0.ne
   replace a7 := d4.s a7 e1.ne
   replace a3 := d4.s a3 a9.ne
   replace d9 := d4.s d9 e5.ne
   replace a2 := d4.same _ _ ⟨o0, trivial⟩ a2
   replace a0 := d4.same _ _ ⟨m9, trivial⟩ a0
   replace o3 := d4.s o3
   replace p2 := d4.s p2
   replace q7 := d4.s q7
   have lt_at10026 := GHeap.ltg o5
   replace h := a1.mono f
   replace hin := l.mono f
   replace hin1 := e.mono f
   replace hL := u.mono f
   replace hR := t.mono f
   clear w b3 b8 b4 b9 c4 b5 c2 b6 b7 c3 c5
   have w : Cat.At _ g8 0 a p := ⟨Mem.of_get a6, hin⟩
   obtain ⟨b3, b8, b4, b9, c4, b5, c2, b6, b7⟩ := w.get
   have c3 : MemN _ _ _ _ _ := ⟨rfl, w.1⟩
   have c5 := w.2
   clear y d1 c9 d5 c7 d2 d3 d7 d6 c8 d8 c6
   have y : Cat.At _ g9 0 b q := ⟨Mem.of_get a7, hin1⟩
   obtain ⟨d1, c9, d5, c7, d2, d3, d7, d6, c8⟩ := y.get
   have d8 : MemN _ _ _ _ _ := ⟨rfl, y.1⟩
   have c6 := y.2
   clear o
   have o : MemN _ _ _ _ _ := ⟨rfl, Mem.of_get a4⟩
   try simp only [Nat.zero_add, List.set_cons_succ, List.set_cons_zero] at o5
   refine .done ?_
   refine u7 _ _ (.region (.mv rfl ?_))
   refine .q rfl (.add rfl rfl rfl (by omega) (by omega)) ?_
   refine .mv rfl (.nil ?_)
   refine t1 ((x + 1, is ++ [idxLL A [(x : Int), (x : Int), a.idn.getD (L.getD x 0).toNat 0, b.idn.getD (R.getD x 0).toNat 0]], w8)) _ _ ?_ ?_ ⟨rfl, rfl, rfl, rfl, rfl, rfl, rfl, rfl, rfl, trivial⟩
   ·
    refine ⟨i3, by first | assumption | (rw [List.length_append]; assumption), by first | assumption | exact ⟨.inr (by omega)⟩ | exact ⟨.inl rfl⟩, by first | assumption | (rw [List.length_append]; assumption), by first | assumption | omega, ?_⟩
    exact ⟨by omega, by simp; omega⟩
   (dsimp only; omega)
  try simp only [sps] at s2
  refine .exit ?_
  refine x3 _ _ (.seq (fun K14 r5 => .seq (fun K15 v3 => .region (.mv rfl (.nil (v3 _ _ ?_))))))
  refine .block ?_
  refine .loopR (σ := Nat × (Nat → Option Addr) × List (List Int) × Nat) [(1, some _), (8, some _), (9, some _), (12, some _), (13, some _)] (fun (j, rc, cs, gLC) => [(16, some (.int .i64 (j : Int)))]) (fun (j, rc, cs, gLC) H' => St [n5, m2] HL2 H' ∧ H'.get gLC = some (.row ((slsL rc cs)) 24 true) ∧ PL gLC n5 HL2.next ∧ H'.get m2 = some (.row ([.int .i64 (n : Int), .slice (some ⟨gLF, 0, none⟩) ss.length ss.length, .slice (some ⟨gLT, 0, none⟩) ts.length ts.length, .slice (some ⟨gLI, 0, none⟩) is.length is.length, .slice (some ⟨gLC, 0, none⟩) cs.length cs.length]) 27 true) ∧ gLC ≠ m2 ∧ (j ≤ A.length ∧ cs.length = j) ∧ OwnL HL2.next H' 2 rc cs) (fun (j, rc, cs, gLC) => A.length - j) ((0, fun _ => none, [], n5)) ⟨rfl, rfl, rfl, rfl, rfl, trivial⟩ ⟨rfl, trivial⟩ ?_ ?_
  ·
   refine ⟨.refl _ _, by first | assumption | exact d9 | simpa using d9, ⟨.inl rfl⟩, by first | assumption | exact d | simpa using d, by omega, ?_⟩
   exact ⟨⟨by omega, rfl⟩, .nil _ _ _ _⟩
  rintro ⟨j, rc, cs, gLC⟩ HL3 ⟨e3, b0, k2, d, r7, hI⟩ KL3 t6
  refine .forget (fr' := [(16, some (.int .i64 (j : Int))), (1, some _), (8, some _), (9, some _), (12, some _), (13, some _)]) ⟨rfl, rfl, rfl, rfl, rfl, rfl, trivial⟩ ?_
  have q2 : H.next ≤ gLC := k2.ge (by omega) (by omega)
  have nx_HL3 := e3.nx
  replace f := f.st e3 (fun k hk => ⟨by omega, by omega, trivial⟩)
  have m3 : NE g8 n5 := .a
  replace a6 := e3.same _ _ ⟨m3.ne, e0.ne, trivial⟩ a6
  have m4 : NE g9 n5 := .a
  replace a7 := e3.same _ _ ⟨m4.ne, e1.ne, trivial⟩ a7
  have h7 : NE l6 n5 := .a
  replace a3 := e3.same _ _ ⟨h7.ne, a9.ne, trivial⟩ a3
  have h4 : NE n5 gLF := ⟨i8.ne k0.ne (by omega)⟩
  replace a2 := e3.same _ _ ⟨(Ne.symm h4.ne), o0, trivial⟩ a2
  have h5 : NE n5 gLT := ⟨i7.ne j5.ne (by omega)⟩
  replace a0 := e3.same _ _ ⟨(Ne.symm h5.ne), m9, trivial⟩ a0
  have h8 : NE n5 gLI := ⟨i6.ne j6.ne (by omega)⟩
  replace a5 := e3.same _ _ ⟨(Ne.symm h8.ne), p8, trivial⟩ a5
  have lt_at_LC := GHeap.ltg b0
  have l8 := GHeap.ltg d
  replace h := a1.mono f
  replace hin := l.mono f
  replace hin1 := e.mono f
  replace hL := u.mono f
  replace hR := t.mono f
  clear w b3 b8 b4 b9 c4 b5 c2 b6 b7 c3 c5
  have w : Cat.At _ g8 0 a p := ⟨Mem.of_get a6, hin⟩
  obtain ⟨b3, b8, b4, b9, c4, b5, c2, b6, b7⟩ := w.get
  have c3 : MemN _ _ _ _ _ := ⟨rfl, w.1⟩
  have c5 := w.2
  clear y d1 c9 d5 c7 d2 d3 d7 d6 c8 d8 c6
  have y : Cat.At _ g9 0 b q := ⟨Mem.of_get a7, hin1⟩
  obtain ⟨d1, c9, d5, c7, d2, d3, d7, d6, c8⟩ := y.get
  have d8 : MemN _ _ _ _ _ := ⟨rfl, y.1⟩
  have c6 := y.2
  clear o
  have o : MemN _ _ _ _ _ := ⟨rfl, Mem.of_get a4⟩
  have rk := St.refl [gLC, m2] HL3
  obtain ⟨⟨hj, hcl⟩, hO⟩ := hI
  have hatC := b0
  have r3 := d
  have hfl : (slsL rc cs).length = cs.length := length_slsL _ _
  refine .seq (fun K16 t9 => .seq (fun K17 r6 => .region (.mv rfl (.mv rfl (.q rfl (.len sl_25_B rfl) (.q rfl (.cmp rfl rfl rfl) (.mv rfl ?_)))))))
  refine .split (fun s8 => ?_) (fun s8 => ?_)
  ·
   simp only [sps] at s8
   have y2 := hY j (by omega)
   have u1 := h.2 j (by omega)
   refine .qg rfl (.loadM ag_27_D rfl ⟨rfl, Mem.of_get d⟩) ?_
   have hcc := l02Fits_c (c := ⟨(n : Int), ss, ts, is, cs⟩) (p := ⟨some ⟨gLF, 0, none⟩, some ⟨gLT, 0, none⟩, some ⟨gLI, 0, none⟩, some ⟨gLC, 0, none⟩, rc⟩) ⟨Ints.of_get a2, Ints.of_get a0, Ints.of_get a5, (hO.low (b' := 0) (Nat.zero_le _)).intss b0 (Nat.zero_le _)⟩
   refine .callQg rfl rfl rfl rfl rfl rfl @Try.call137 rfl (hcc) ?_
   refine .q rfl (.pickT rfl rfl) (.nil (r6 _ _ ?_))
   refine .cond rfl (fun u0 => ?_) (fun u0 => ?_)
   ·
    try simp only [sps] at u0
    refine .skip ?_
    refine t9 _ _ (.seq (fun K18 u5 => ?_))
    refine .block ?_
    refine .seq (fun K19 s7 => .region ?_)
    refine .R rfl (.litA rfl sl_24_A ze_2_E rfl rfl rfl rfl) ?_
    rintro _ u9 ⟨o9, rfl, l5, ge96, p6⟩
    have nx_H96 := l5.1
    replace f := f.trans l5
    replace e3 := e3.le l5
    replace rk := rk.le l5
    replace a6 := l5.2 _ _ a6
    replace a7 := l5.2 _ _ a7
    replace a3 := l5.2 _ _ a3
    replace a2 := l5.2 _ _ a2
    replace a0 := l5.2 _ _ a0
    replace a5 := l5.2 _ _ a5
    replace b0 := l5.2 _ _ b0
    replace d := l5.2 _ _ d
    have lt_at96 := GHeap.ltg p6
    replace h := a1.mono f
    replace hin := l.mono f
    replace hin1 := e.mono f
    replace hL := u.mono f
    replace hR := t.mono f
    clear w b3 b8 b4 b9 c4 b5 c2 b6 b7 c3 c5
    have w : Cat.At _ g8 0 a p := ⟨Mem.of_get a6, hin⟩
    obtain ⟨b3, b8, b4, b9, c4, b5, c2, b6, b7⟩ := w.get
    have c3 : MemN _ _ _ _ _ := ⟨rfl, w.1⟩
    have c5 := w.2
    clear y d1 c9 d5 c7 d2 d3 d7 d6 c8 d8 c6
    have y : Cat.At _ g9 0 b q := ⟨Mem.of_get a7, hin1⟩
    obtain ⟨d1, c9, d5, c7, d2, d3, d7, d6, c8⟩ := y.get
    have d8 : MemN _ _ _ _ _ := ⟨rfl, y.1⟩
    have c6 := y.2
    clear o
    have o : MemN _ _ _ _ _ := ⟨rfl, Mem.of_get a4⟩
    clear u1
    have u1 := h.2 j (by omega)
    replace p6 : GHeap.get u9 o9 = some (.row (ints []) 2 true) := p6
    refine .mv rfl (.nil (s7 _ _ (.seq (fun K20 v1 => .seq (fun K21 v0 => .region (.mv rfl (.nil (v0 _ _ ?_))))))))
    refine .block ?_
    refine .loopR (σ := Nat × List Int × Nat × Nat) [(1, some _), (8, some _), (9, some _), (12, some _), (13, some _), (16, some _), (91, some _), (92, some _)] (fun (m, row, e2, n6) => [(18, some (.int .i64 (m : Int))), (17, some (.slice (some ⟨e2, 0, none⟩) n6 n6))]) (fun (m, row, e2, n6) H' => St [o9] u9 H' ∧ H'.get e2 = some (.row (ints row) 2 true) ∧ PL e2 o9 u9.next ∧ n6 = row.length ∧ m ≤ A.length ∧ row.length = m) (fun (m, row, e2, n6) => A.length - m) ((0, [], _, _)) ⟨rfl, rfl, rfl, rfl, rfl, rfl, rfl, rfl, trivial⟩ ⟨rfl, rfl, trivial⟩ ?_ ?_
    ·
     refine ⟨.refl _ _, by first | assumption | exact p6 | simpa using p6, ⟨.inl rfl⟩, by first | rfl | assumption | simp | omega, ?_⟩
     exact ⟨by omega, rfl⟩
    rintro ⟨m, row, e2, n6⟩ HL4 ⟨f2, e4, a8, q8, hI⟩ KL4 r8
    refine .forget (fr' := [(18, some (.int .i64 (m : Int))), (17, some (.slice (some ⟨e2, 0, none⟩) n6 n6)), (1, some _), (8, some _), (9, some _), (12, some _), (13, some _), (16, some _), (91, some _), (92, some _)]) ⟨rfl, rfl, rfl, rfl, rfl, rfl, rfl, rfl, rfl, rfl, trivial⟩ ?_
    have ge_L17 : H.next ≤ e2 := a8.ge (by omega) (by omega)
    have nx_HL4 := f2.nx
    replace f := f.st f2 (fun k hk => ⟨by omega, trivial⟩)
    replace e3 := e3.sA f2
    replace rk := rk.sA f2
    have k6 : NE g8 o9 := .a
    replace a6 := f2.s a6 k6.ne
    have l0 : NE g9 o9 := .a
    replace a7 := f2.s a7 l0.ne
    have j7 : NE l6 o9 := .a
    replace a3 := f2.s a3 j7.ne
    have i9 : NE gLF o9 := .a
    replace a2 := f2.s a2 i9.ne
    have j0 : NE gLT o9 := .a
    replace a0 := f2.s a0 j0.ne
    have j4 : NE gLI o9 := .a
    replace a5 := f2.s a5 j4.ne
    have h0 : NE gLC o9 := .a
    replace b0 := f2.s b0 h0.ne
    have g5 : NE m2 o9 := .a
    replace d := f2.s d g5.ne
    have lt_at_L17 := GHeap.ltg e4
    replace h := a1.mono f
    replace hin := l.mono f
    replace hin1 := e.mono f
    replace hL := u.mono f
    replace hR := t.mono f
    clear w b3 b8 b4 b9 c4 b5 c2 b6 b7 c3 c5
    have w : Cat.At _ g8 0 a p := ⟨Mem.of_get a6, hin⟩
    obtain ⟨b3, b8, b4, b9, c4, b5, c2, b6, b7⟩ := w.get
    have c3 : MemN _ _ _ _ _ := ⟨rfl, w.1⟩
    have c5 := w.2
    clear y d1 c9 d5 c7 d2 d3 d7 d6 c8 d8 c6
    have y : Cat.At _ g9 0 b q := ⟨Mem.of_get a7, hin1⟩
    obtain ⟨d1, c9, d5, c7, d2, d3, d7, d6, c8⟩ := y.get
    have d8 : MemN _ _ _ _ _ := ⟨rfl, y.1⟩
    have c6 := y.2
    clear o
    have o : MemN _ _ _ _ _ := ⟨rfl, Mem.of_get a4⟩
    clear u1
    have u1 := h.2 j (by omega)
    obtain ⟨hm, hrl⟩ := hI
    refine .seq (fun K22 s3 => .seq (fun K23 v2 => .region (.mv rfl (.mv rfl (.q rfl (.len sl_25_B rfl) (.q rfl (.cmp rfl rfl rfl) (.nil (v2 _ _ ?_))))))))
    refine .cond rfl (fun q9 => ?_) (fun q9 => ?_)
    ·
     simp only [sps] at q9
     have y3 := hY m (by omega)
     have u2 := h.2 m (by omega)
     refine .skip ?_
     refine s3 _ _ (.seq (fun K24 r4 => ?_))
     refine .block ?_
     refine .seq (fun K25 v4 => ?_)
     refine .regionD mo_B (.q 0 (.q 1 (.q 2 (.q 3 (.q 4 (.q 5 (.q 6 (.q 7 (.q 8 (.q 9 (.done))))))))))) (by kernel_rfl) ?_
     refine .mv rfl rfl (.mv rfl rfl ?_)
     refine .q rfl (.idxN sl_25_B (Intss.sl (by assumption)) rfl rfl (by omega)) ?_
     refine .q rfl (.loadR on_24_B (by assumption) rfl (by omega)) ?_
     refine .mv rfl rfl (.mv rfl rfl ?_)
     refine .q rfl (.idxN sl_25_B (Intss.sl (by assumption)) rfl rfl (by omega)) ?_
     refine .q rfl (.loadR on_24_B (by assumption) rfl (by omega)) ?_
     refine .mv rfl rfl (.mv rfl rfl ?_)
     refine .done ?_
     refine v4 _ _ (.seq (fun K26 t3 => .seq (fun K27 s9 => ?_)))
     refine .regionD mo_B (.q 0 (.q 1 (.q 2 (.q 3 (.q 4 (.q 5 (.q 6 (.done)))))))) (by kernel_rfl) ?_
     refine .mv rfl rfl ?_
     refine .q rfl (.idxN (j := 1) sl_24_A (by assumption) rfl rfl (by omega)) ?_
     refine .q rfl (.loadI on_2_A (by assumption) rfl (by omega)) ?_
     refine .mv rfl rfl ?_
     refine .q rfl (.idxN (j := 0) sl_24_A (by assumption) rfl rfl (by omega)) ?_
     refine .q rfl (.loadI on_2_A (by assumption) rfl (by omega)) ?_
     refine .q rfl (.cmp rfl rfl rfl) ?_
     refine .done ?_
     refine s9 _ _ ?_
     refine .cond rfl (fun t5 => ?_) (fun t5 => ?_)
     ·
      obtain ⟨h3, r9⟩ : ∃ h3 : Int, h3 = -1 := ⟨_, rfl⟩
      refine .seq (fun K28 t0 => .region (.mv rfl ?_))
      refine .R rfl (.litA rfl sl_24_A ze_2_E rfl rfl rfl rfl) ?_
      rintro _ H119 ⟨g119, rfl, g0, ge119, p7⟩
      have nx_H119 := g0.1
      replace f := f.trans g0
      replace e3 := e3.le g0
      replace rk := rk.le g0
      replace f2 := f2.le g0
      replace a6 := g0.2 _ _ a6
      replace a7 := g0.2 _ _ a7
      replace a3 := g0.2 _ _ a3
      replace a2 := g0.2 _ _ a2
      replace a0 := g0.2 _ _ a0
      replace a5 := g0.2 _ _ a5
      replace b0 := g0.2 _ _ b0
      replace d := g0.2 _ _ d
      replace e4 := g0.2 _ _ e4
      have lt_at119 := GHeap.ltg p7
      replace h := a1.mono f
      replace hin := l.mono f
      replace hin1 := e.mono f
      replace hL := u.mono f
      replace hR := t.mono f
      clear w b3 b8 b4 b9 c4 b5 c2 b6 b7 c3 c5
      have w : Cat.At _ g8 0 a p := ⟨Mem.of_get a6, hin⟩
      obtain ⟨b3, b8, b4, b9, c4, b5, c2, b6, b7⟩ := w.get
      have c3 : MemN _ _ _ _ _ := ⟨rfl, w.1⟩
      have c5 := w.2
      clear y d1 c9 d5 c7 d2 d3 d7 d6 c8 d8 c6
      have y : Cat.At _ g9 0 b q := ⟨Mem.of_get a7, hin1⟩
      obtain ⟨d1, c9, d5, c7, d2, d3, d7, d6, c8⟩ := y.get
      have d8 : MemN _ _ _ _ _ := ⟨rfl, y.1⟩
      have c6 := y.2
      clear o
      have o : MemN _ _ _ _ _ := ⟨rfl, Mem.of_get a4⟩
      clear u1
      have u1 := h.2 j (by omega)
      clear u2
      have u2 := h.2 m (by omega)
      refine .R rfl (.appendI rfl sl_24_A ze_2_E rfl by_2_E sl_24_A rfl rfl (by assumption) (by assumption) (by first | omega | (simp <;> omega)) (by omega) (by omega)) ?_
      rintro _ H120 ⟨g120, rfl, g1, ge120, r2⟩
      have nx_H120 := g1.nx
      replace f := f.st g1 (fun k hk => ⟨by omega, trivial⟩)
      replace e3 := e3.sP g1
      replace rk := rk.sP g1
      replace f2 := f2.sP g1
      have j9 : NE g8 e2 := ⟨a8.ne k6.ne (by omega)⟩
      replace a6 := g1.s a6 j9.ne
      have j8 : NE g9 e2 := ⟨a8.ne l0.ne (by omega)⟩
      replace a7 := g1.s a7 j8.ne
      have i1 : NE l6 e2 := ⟨a8.ne j7.ne (by omega)⟩
      replace a3 := g1.s a3 i1.ne
      have i4 : NE gLF e2 := ⟨a8.ne i9.ne (by omega)⟩
      replace a2 := g1.s a2 i4.ne
      have i5 : NE gLT e2 := ⟨a8.ne j0.ne (by omega)⟩
      replace a0 := g1.s a0 i5.ne
      have i2 : NE gLI e2 := ⟨a8.ne j4.ne (by omega)⟩
      replace a5 := g1.s a5 i2.ne
      have e7 : NE gLC e2 := ⟨a8.ne h0.ne (by omega)⟩
      replace b0 := g1.s b0 e7.ne
      have e8 : NE m2 e2 := ⟨a8.ne g5.ne (by omega)⟩
      replace d := g1.s d e8.ne
      replace p7 := g1.s p7
      have lt_at120 := GHeap.ltg r2
      replace h := a1.mono f
      replace hin := l.mono f
      replace hin1 := e.mono f
      replace hL := u.mono f
      replace hR := t.mono f
      clear w b3 b8 b4 b9 c4 b5 c2 b6 b7 c3 c5
      have w : Cat.At _ g8 0 a p := ⟨Mem.of_get a6, hin⟩
      obtain ⟨b3, b8, b4, b9, c4, b5, c2, b6, b7⟩ := w.get
      have c3 : MemN _ _ _ _ _ := ⟨rfl, w.1⟩
      have c5 := w.2
      clear y d1 c9 d5 c7 d2 d3 d7 d6 c8 d8 c6
      have y : Cat.At _ g9 0 b q := ⟨Mem.of_get a7, hin1⟩
      obtain ⟨d1, c9, d5, c7, d2, d3, d7, d6, c8⟩ := y.get
      have d8 : MemN _ _ _ _ _ := ⟨rfl, y.1⟩
      have c6 := y.2
      clear o
      have o : MemN _ _ _ _ _ := ⟨rfl, Mem.of_get a4⟩
      clear u1
      have u1 := h.2 j (by omega)
      clear u2
      have u2 := h.2 m (by omega)
      refine .mv rfl (.nil (t0 _ _ ?_))
      refine .exit ?_
      refine r4 _ _ (.region (.mv rfl ?_))
      refine .q rfl (.add rfl rfl rfl (by omega) (by omega)) ?_
      refine .mv rfl (.nil ?_)
      refine r8 ((m + 1, row ++ [h3], _, _)) _ _ ?_ ?_ ⟨rfl, rfl, rfl, rfl, rfl, rfl, rfl, rfl, rfl, rfl, trivial⟩
      ·
       refine ⟨f2, by first | assumption | (rw [r9]; assumption), by first | assumption | exact ⟨.inr (by omega)⟩ | exact ⟨.inl rfl⟩, by first | omega | (simp only [List.length_append, List.length_cons, List.length_nil] <;> omega) | (rw [r9] <;> (first | omega | (simp only [List.length_append, List.length_cons, List.length_nil] <;> omega))), ?_⟩
       exact ⟨by omega, by simp; omega⟩
      (dsimp only; omega)
     obtain ⟨h3, r9⟩ : ∃ h3 : Int, h3 = idxLL A [(A.getD j []).getD 0 0, (A.getD m []).getD 1 0, a.th ((A.getD j []).getD 2 0) ((A.getD m []).getD 2 0), b.th ((A.getD j []).getD 3 0) ((A.getD m []).getD 3 0)] := ⟨_, rfl⟩
     refine .skip ?_
     refine t3 _ _ ?_
     refine .regionD mo_B (.q 0 (.q 1 (.q 2 (.q 3 (.q 4 (.q 5 (.q 6 (.q 7 (.q 8 (.q 9 (.q 10 (.q 11 (.q 12 (.q 13 (.q 14 (.q 16 (.q 17 (.q 18 (.q 19 (.q 20 (.q 21 (.q 22 (.c 15 1 (.c 23 1 (.c 24 1 (.c 25 1 (.c 26 1 (.c 27 0 (.c 28 0 (.done)))))))))))))))))))))))))))))) (by kernel_rfl) ?_
     refine .mv rfl rfl (.mv rfl rfl (.mv rfl rfl ?_))
     refine .q rfl (.idxN (j := 0) sl_24_A (by assumption) rfl rfl (by omega)) ?_
     refine .q rfl (.loadI on_2_A (by assumption) rfl (by omega)) ?_
     refine .mv rfl rfl ?_
     refine .q rfl (.idxN (j := 1) sl_24_A (by assumption) rfl rfl (by omega)) ?_
     refine .q rfl (.loadI on_2_A (by assumption) rfl (by omega)) ?_
     refine .q rfl (.loadM ag_27_D rfl ⟨rfl, Mem.of_get a6⟩) ?_
     refine .mv rfl rfl ?_
     refine .q rfl (.idxN (j := 2) sl_24_A (by assumption) rfl rfl (by omega)) ?_
     refine .q rfl (.loadI on_2_A (by assumption) rfl (by omega)) ?_
     refine .mv rfl rfl ?_
     refine .q rfl (.idxN (j := 2) sl_24_A (by assumption) rfl rfl (by omega)) ?_
     refine .q rfl (.loadI on_2_A (by assumption) rfl (by omega)) ?_
     refine .q rfl (.loadM ag_27_D rfl ⟨rfl, Mem.of_get a7⟩) ?_
     refine .mv rfl rfl ?_
     refine .q rfl (.idxN (j := 3) sl_24_A (by assumption) rfl rfl (by omega)) ?_
     refine .q rfl (.loadI on_2_A (by assumption) rfl (by omega)) ?_
     refine .mv rfl rfl ?_
     refine .q rfl (.idxN (j := 3) sl_24_A (by assumption) rfl rfl (by omega)) ?_
     refine .q rfl (.loadI on_2_A (by assumption) rfl (by omega)) ?_
     refine .callQ1 rfl rfl rfl rfl rfl @Try.call209 rfl (l02Then_c (hS := hSa)) (.refl _) ?_
     refine .callQ1 rfl rfl rfl rfl rfl @Try.call209 rfl (l02Then_c (hS := hSb)) (.refl _) ?_
     refine .c1 rfl rfl rfl rfl (.litA rfl sl_24_A ze_2_E rfl rfl rfl rfl) ?_
     rintro _ H145 ⟨g145, rfl, f7, ge145, n8⟩
     have o6 := f7
     refine ⟨o6, ?_⟩
     have nx_H145 := f7.1
     replace f := f.trans f7
     replace e3 := e3.le f7
     replace rk := rk.le f7
     replace f2 := f2.le f7
     replace a6 := f7.2 _ _ a6
     replace a7 := f7.2 _ _ a7
     replace a3 := f7.2 _ _ a3
     replace a2 := f7.2 _ _ a2
     replace a0 := f7.2 _ _ a0
     replace a5 := f7.2 _ _ a5
     replace b0 := f7.2 _ _ b0
     replace d := f7.2 _ _ d
     replace e4 := f7.2 _ _ e4
     have lt_at145 := GHeap.ltg n8
     replace h := a1.mono f
     replace hin := l.mono f
     replace hin1 := e.mono f
     replace hL := u.mono f
     replace hR := t.mono f
     clear w b3 b8 b4 b9 c4 b5 c2 b6 b7 c3 c5
     have w : Cat.At _ g8 0 a p := ⟨Mem.of_get a6, hin⟩
     obtain ⟨b3, b8, b4, b9, c4, b5, c2, b6, b7⟩ := w.get
     have c3 : MemN _ _ _ _ _ := ⟨rfl, w.1⟩
     have c5 := w.2
     clear y d1 c9 d5 c7 d2 d3 d7 d6 c8 d8 c6
     have y : Cat.At _ g9 0 b q := ⟨Mem.of_get a7, hin1⟩
     obtain ⟨d1, c9, d5, c7, d2, d3, d7, d6, c8⟩ := y.get
     have d8 : MemN _ _ _ _ _ := ⟨rfl, y.1⟩
     have c6 := y.2
     clear o
     have o : MemN _ _ _ _ _ := ⟨rfl, Mem.of_get a4⟩
     clear u1
     have u1 := h.2 j (by omega)
     clear u2
     have u2 := h.2 m (by omega)
     refine .call1 rfl rfl rfl rfl rfl @Try.call210 rfl ((l09Find_c (by assumption) (Ints.of_get (xs := [(A.getD j []).getD 0 0, (A.getD m []).getD 1 0, a.th ((A.getD j []).getD 2 0) ((A.getD m []).getD 2 0), b.th ((A.getD j []).getD 3 0) ((A.getD m []).getD 3 0)]) (by assumption)) (by omega) (fun i => by have := hA4 i; omega) (by show 4 ≤ 1048576; omega))) ?_
     rintro _ _ ⟨rfl, rfl⟩
     refine ⟨(by assumption), ?_⟩
     refine .c1 rfl rfl rfl rfl (.litA rfl sl_24_A ze_2_E rfl rfl rfl rfl) ?_
     rintro _ H147 ⟨g147, rfl, f1, ge147, p1⟩
     replace o6 := o6.trans f1
     refine ⟨o6, ?_⟩
     have nx_H147 := f1.1
     replace f := f.trans f1
     replace e3 := e3.le f1
     replace rk := rk.le f1
     replace f2 := f2.le f1
     replace a6 := f1.2 _ _ a6
     replace a7 := f1.2 _ _ a7
     replace a3 := f1.2 _ _ a3
     replace a2 := f1.2 _ _ a2
     replace a0 := f1.2 _ _ a0
     replace a5 := f1.2 _ _ a5
     replace b0 := f1.2 _ _ b0
     replace d := f1.2 _ _ d
     replace e4 := f1.2 _ _ e4
     replace n8 := f1.2 _ _ n8
     have lt_at147 := GHeap.ltg p1
     replace h := a1.mono f
     replace hin := l.mono f
     replace hin1 := e.mono f
     replace hL := u.mono f
     replace hR := t.mono f
     clear w b3 b8 b4 b9 c4 b5 c2 b6 b7 c3 c5
     have w : Cat.At _ g8 0 a p := ⟨Mem.of_get a6, hin⟩
     obtain ⟨b3, b8, b4, b9, c4, b5, c2, b6, b7⟩ := w.get
     have c3 : MemN _ _ _ _ _ := ⟨rfl, w.1⟩
     have c5 := w.2
     clear y d1 c9 d5 c7 d2 d3 d7 d6 c8 d8 c6
     have y : Cat.At _ g9 0 b q := ⟨Mem.of_get a7, hin1⟩
     obtain ⟨d1, c9, d5, c7, d2, d3, d7, d6, c8⟩ := y.get
     have d8 : MemN _ _ _ _ _ := ⟨rfl, y.1⟩
     have c6 := y.2
     clear o
     have o : MemN _ _ _ _ _ := ⟨rfl, Mem.of_get a4⟩
     clear u1
     have u1 := h.2 j (by omega)
     clear u2
     have u2 := h.2 m (by omega)
     refine .c0 rfl rfl rfl rfl (.appendI rfl sl_24_A ze_2_E rfl by_2_E sl_24_A rfl rfl (by assumption) (by assumption) (by first | omega | (simp <;> omega)) (by omega) (by omega)) ?_
     rintro _ H148 ⟨g148, rfl, f9, ge148, s0⟩
     have nx_H148 := f9.nx
     replace f := f.st f9 (fun k hk => ⟨by omega, trivial⟩)
     replace e3 := e3.sP f9
     replace rk := rk.sP f9
     replace f2 := f2.sP f9
     have j9 : NE g8 e2 := ⟨a8.ne k6.ne (by omega)⟩
     replace a6 := f9.s a6 j9.ne
     have j8 : NE g9 e2 := ⟨a8.ne l0.ne (by omega)⟩
     replace a7 := f9.s a7 j8.ne
     have i1 : NE l6 e2 := ⟨a8.ne j7.ne (by omega)⟩
     replace a3 := f9.s a3 i1.ne
     have i4 : NE gLF e2 := ⟨a8.ne i9.ne (by omega)⟩
     replace a2 := f9.s a2 i4.ne
     have i5 : NE gLT e2 := ⟨a8.ne j0.ne (by omega)⟩
     replace a0 := f9.s a0 i5.ne
     have i2 : NE gLI e2 := ⟨a8.ne j4.ne (by omega)⟩
     replace a5 := f9.s a5 i2.ne
     have e7 : NE gLC e2 := ⟨a8.ne h0.ne (by omega)⟩
     replace b0 := f9.s b0 e7.ne
     have e8 : NE m2 e2 := ⟨a8.ne g5.ne (by omega)⟩
     replace d := f9.s d e8.ne
     replace n8 := f9.s n8
     replace p1 := f9.s p1
     have lt_at148 := GHeap.ltg s0
     replace h := a1.mono f
     replace hin := l.mono f
     replace hin1 := e.mono f
     replace hL := u.mono f
     replace hR := t.mono f
     clear w b3 b8 b4 b9 c4 b5 c2 b6 b7 c3 c5
     have w : Cat.At _ g8 0 a p := ⟨Mem.of_get a6, hin⟩
     obtain ⟨b3, b8, b4, b9, c4, b5, c2, b6, b7⟩ := w.get
     have c3 : MemN _ _ _ _ _ := ⟨rfl, w.1⟩
     have c5 := w.2
     clear y d1 c9 d5 c7 d2 d3 d7 d6 c8 d8 c6
     have y : Cat.At _ g9 0 b q := ⟨Mem.of_get a7, hin1⟩
     obtain ⟨d1, c9, d5, c7, d2, d3, d7, d6, c8⟩ := y.get
     have d8 : MemN _ _ _ _ _ := ⟨rfl, y.1⟩
     have c6 := y.2
     clear o
     have o : MemN _ _ _ _ _ := ⟨rfl, Mem.of_get a4⟩
     clear u1
     have u1 := h.2 j (by omega)
     clear u2
     have u2 := h.2 m (by omega)
     refine .d0 rfl rfl rfl rfl (.quiet (.assign rfl) CIs.mk) ?_
     refine .done ?_
     refine r4 _ _ (.region (.mv rfl ?_))
     refine .q rfl (.add rfl rfl rfl (by omega) (by omega)) ?_
     refine .mv rfl (.nil ?_)
     refine r8 ((m + 1, row ++ [h3], _, _)) _ _ ?_ ?_ ⟨rfl, rfl, rfl, rfl, rfl, rfl, rfl, rfl, rfl, rfl, trivial⟩
     ·
      refine ⟨f2, by first | assumption | (rw [r9]; assumption), by first | assumption | exact ⟨.inr (by omega)⟩ | exact ⟨.inl rfl⟩, by first | omega | (simp only [List.length_append, List.length_cons, List.length_nil] <;> omega) | (rw [r9] <;> (first | omega | (simp only [List.length_append, List.length_cons, List.length_nil] <;> omega))), ?_⟩
      exact ⟨by omega, by simp; omega⟩
     (dsimp only; omega)
    try simp only [sps] at q9
    refine .exit ?_
    refine v1 _ _ (.region ?_)
    obtain rfl := q8
    refine .q rfl (.fieldAddr fo_27_4_B rfl) ?_
    refine .q rfl (.load on_25_B rfl (by first | assumption | exact Mem.of_get d 4 _ rfl)) ?_
    refine .mv rfl ?_
    refine .R rfl (.litA rfl sl_25_B ze_24_E rfl rfl rfl rfl) ?_
    rintro _ H152 ⟨g152, rfl, g3, ge152, n9⟩
    have nx_H152 := g3.1
    replace f := f.trans g3
    replace e3 := e3.le g3
    replace rk := rk.le g3
    replace a6 := g3.2 _ _ a6
    replace a7 := g3.2 _ _ a7
    replace a3 := g3.2 _ _ a3
    replace a2 := g3.2 _ _ a2
    replace a0 := g3.2 _ _ a0
    replace a5 := g3.2 _ _ a5
    replace b0 := g3.2 _ _ b0
    replace d := g3.2 _ _ d
    replace e4 := g3.2 _ _ e4
    have lt_at152 := GHeap.ltg n9
    replace h := a1.mono f
    replace hin := l.mono f
    replace hin1 := e.mono f
    replace hL := u.mono f
    replace hR := t.mono f
    clear w b3 b8 b4 b9 c4 b5 c2 b6 b7 c3 c5
    have w : Cat.At _ g8 0 a p := ⟨Mem.of_get a6, hin⟩
    obtain ⟨b3, b8, b4, b9, c4, b5, c2, b6, b7⟩ := w.get
    have c3 : MemN _ _ _ _ _ := ⟨rfl, w.1⟩
    have c5 := w.2
    clear y d1 c9 d5 c7 d2 d3 d7 d6 c8 d8 c6
    have y : Cat.At _ g9 0 b q := ⟨Mem.of_get a7, hin1⟩
    obtain ⟨d1, c9, d5, c7, d2, d3, d7, d6, c8⟩ := y.get
    have d8 : MemN _ _ _ _ _ := ⟨rfl, y.1⟩
    have c6 := y.2
    clear o
    have o : MemN _ _ _ _ _ := ⟨rfl, Mem.of_get a4⟩
    clear u1
    have u1 := h.2 j (by omega)
    refine .R rfl (.appendV rfl sl_25_B ze_24_E rfl by_24_E sl_25_B rfl rfl (by assumption) (by assumption) (by first | omega | (simp <;> omega)) rfl rfl (by omega) (by omega)) ?_
    rintro _ H153 ⟨u8, rfl, g4, ge153, p3⟩
    have nx_H153 := g4.nx
    replace f := f.st g4 (fun k hk => ⟨by omega, trivial⟩)
    replace e3 := e3.sP g4
    replace rk := rk.sP g4
    replace a6 := g4.same _ _ ⟨(k2.ne m3.ne (by omega)), trivial⟩ a6
    replace a7 := g4.same _ _ ⟨(k2.ne m4.ne (by omega)), trivial⟩ a7
    have f6 : NE l6 gLC := ⟨k2.ne h7.ne (by omega)⟩
    replace a3 := g4.s a3 f6.ne
    replace a2 := g4.same _ _ ⟨(k2.ne (Ne.symm h4.ne) (by omega)), trivial⟩ a2
    replace a0 := g4.same _ _ ⟨(k2.ne (Ne.symm h5.ne) (by omega)), trivial⟩ a0
    replace a5 := g4.same _ _ ⟨(k2.ne (Ne.symm h8.ne) (by omega)), trivial⟩ a5
    replace d := g4.same _ _ ⟨(Ne.symm r7), trivial⟩ d
    have e7 : NE gLC e2 := ⟨a8.ne h0.ne (by omega)⟩
    replace e4 := g4.s e4 (Ne.symm e7.ne)
    replace n9 := g4.s n9
    have lt_at153 := GHeap.ltg p3
    replace h := a1.mono f
    replace hin := l.mono f
    replace hin1 := e.mono f
    replace hL := u.mono f
    replace hR := t.mono f
    clear w b3 b8 b4 b9 c4 b5 c2 b6 b7 c3 c5
    have w : Cat.At _ g8 0 a p := ⟨Mem.of_get a6, hin⟩
    obtain ⟨b3, b8, b4, b9, c4, b5, c2, b6, b7⟩ := w.get
    have c3 : MemN _ _ _ _ _ := ⟨rfl, w.1⟩
    have c5 := w.2
    clear y d1 c9 d5 c7 d2 d3 d7 d6 c8 d8 c6
    have y : Cat.At _ g9 0 b q := ⟨Mem.of_get a7, hin1⟩
    obtain ⟨d1, c9, d5, c7, d2, d3, d7, d6, c8⟩ := y.get
    have d8 : MemN _ _ _ _ _ := ⟨rfl, y.1⟩
    have c6 := y.2
    clear o
    have o : MemN _ _ _ _ _ := ⟨rfl, Mem.of_get a4⟩
    clear u1
    have u1 := h.2 j (by omega)
    refine .q rfl (.fieldAddr fo_27_4_B rfl) ?_
    refine .r0 rfl rfl (.storeR rfl sz_25_E rfl rfl rfl (by assumption) (by first | exact Nat.le_of_ble_eq_true rfl | (simp; done) | (simp <;> omega))) ?_
    rintro _ H22006 ⟨rfl, b2, o4⟩
    have nx_H22006 := b2.nx
    replace f := f.st b2 (fun k hk => ⟨by omega, trivial⟩)
    replace e3 := e3.sA b2
    replace rk := rk.sA b2
    replace a6 := b2.s a6 e0.ne
    replace a7 := b2.s a7 e1.ne
    replace a3 := b2.s a3 a9.ne
    replace a2 := b2.same _ _ ⟨o0, trivial⟩ a2
    replace a0 := b2.same _ _ ⟨m9, trivial⟩ a0
    replace a5 := b2.same _ _ ⟨p8, trivial⟩ a5
    have e8 : NE m2 e2 := ⟨a8.ne g5.ne (by omega)⟩
    replace e4 := b2.s e4 (Ne.symm e8.ne)
    replace n9 := b2.s n9
    replace p3 := b2.s p3
    have lt_at22006 := GHeap.ltg o4
    replace h := a1.mono f
    replace hin := l.mono f
    replace hin1 := e.mono f
    replace hL := u.mono f
    replace hR := t.mono f
    clear w b3 b8 b4 b9 c4 b5 c2 b6 b7 c3 c5
    have w : Cat.At _ g8 0 a p := ⟨Mem.of_get a6, hin⟩
    obtain ⟨b3, b8, b4, b9, c4, b5, c2, b6, b7⟩ := w.get
    have c3 : MemN _ _ _ _ _ := ⟨rfl, w.1⟩
    have c5 := w.2
    clear y d1 c9 d5 c7 d2 d3 d7 d6 c8 d8 c6
    have y : Cat.At _ g9 0 b q := ⟨Mem.of_get a7, hin1⟩
    obtain ⟨d1, c9, d5, c7, d2, d3, d7, d6, c8⟩ := y.get
    have d8 : MemN _ _ _ _ _ := ⟨rfl, y.1⟩
    have c6 := y.2
    clear o
    have o : MemN _ _ _ _ _ := ⟨rfl, Mem.of_get a4⟩
    clear u1
    have u1 := h.2 j (by omega)
    try simp only [Nat.zero_add, List.set_cons_succ, List.set_cons_zero] at o4
    refine .nil (u5 _ _ (.region (.mv rfl ?_)))
    refine .q rfl (.add rfl rfl rfl (by omega) (by omega)) ?_
    refine .mv rfl (.nil ?_)
    refine t6 ((j + 1, upd rc cs.length (some ⟨e2, 0, none⟩), cs ++ [row], u8)) _ _ ?_ ?_ ⟨rfl, rfl, rfl, rfl, rfl, rfl, trivial⟩
    ·
     refine ⟨e3, by first | assumption | (rw [slsL_snoc]; assumption) | (rw [List.length_append]; assumption), by first | assumption | exact ⟨.inr (by omega)⟩ | exact ⟨.inl rfl⟩, by first | assumption | (rw [slsL_snoc]; assumption) | (rw [List.length_append]; assumption), by first | assumption | omega, ?_⟩
     have hO' := hO.st rk (.cons (hO.neT hatC rfl) (.cons (hO.neT r3 rfl) (.nil _ _)))
     have hb1 : HL2.next ≤ e2 := a8.ge (by omega) (by omega)
     have w5 : HL3.next ≤ e2 := a8.ge (by omega) (by omega)
     have v7 := hO.ne (g := e2) w5
     exact ⟨⟨by omega, by simp; omega⟩, hO'.snoc2 e4 v7 (by omega)⟩
    (dsimp only; omega)
   try simp only [sps] at u0
   refine .exit ?_
   refine r5 _ _ (.seq (fun K29 t2 => .region ?_))
   refine .q rfl (.loadM ag_27_D rfl ⟨rfl, Mem.of_get d⟩) ?_
   refine .r0 rfl rfl (.fillA rfl sz_27_D rfl rfl rfl rfl) ?_
   rintro _ H23001 ⟨rfl, e6, n3⟩
   have nx_H23001 := e6.nx
   replace f := f.st e6 (fun k hk => ⟨by omega, trivial⟩)
   have k8 : NE g8 l6 := .a
   replace a6 := e6.s a6 k8.ne
   have k5 : NE g9 l6 := .a
   replace a7 := e6.s a7 k5.ne
   have f5 : NE l6 gLF := ⟨i8.ne h6.ne (by omega)⟩
   replace a2 := e6.s a2 (Ne.symm f5.ne)
   have f8 : NE l6 gLT := ⟨i7.ne h1.ne (by omega)⟩
   replace a0 := e6.s a0 (Ne.symm f8.ne)
   have f4 : NE l6 gLI := ⟨i6.ne i0.ne (by omega)⟩
   replace a5 := e6.s a5 (Ne.symm f4.ne)
   have f6 : NE l6 gLC := ⟨k2.ne h7.ne (by omega)⟩
   replace b0 := e6.s b0 (Ne.symm f6.ne)
   replace d := e6.s d (Ne.symm a9.ne)
   have lt_at23001 := GHeap.ltg n3
   replace h := a1.mono f
   replace hin := l.mono f
   replace hin1 := e.mono f
   replace hL := u.mono f
   replace hR := t.mono f
   clear w b3 b8 b4 b9 c4 b5 c2 b6 b7 c3 c5
   have w : Cat.At _ g8 0 a p := ⟨Mem.of_get a6, hin⟩
   obtain ⟨b3, b8, b4, b9, c4, b5, c2, b6, b7⟩ := w.get
   have c3 : MemN _ _ _ _ _ := ⟨rfl, w.1⟩
   have c5 := w.2
   clear y d1 c9 d5 c7 d2 d3 d7 d6 c8 d8 c6
   have y : Cat.At _ g9 0 b q := ⟨Mem.of_get a7, hin1⟩
   obtain ⟨d1, c9, d5, c7, d2, d3, d7, d6, c8⟩ := y.get
   have d8 : MemN _ _ _ _ _ := ⟨rfl, y.1⟩
   have c6 := y.2
   clear o
   have o : MemN _ _ _ _ _ := ⟨rfl, Mem.of_get a4⟩
   clear u1
   have u1 := h.2 j (by omega)
   have mm23001 : MemN _ _ _ _ _ := ⟨rfl, Mem.of_get n3⟩
   refine .nil (t2 _ _ ?_)
   refine .ret ?_
   refine s1 _ _ ?_
   refine ⟨_, _, _, _, rfl, ag_27_D, (by rfl), (Mem.of_get n3), ?_⟩
   have t4 := hO.st e6 (.cons (hO.neT a3 rfl) (.nil _ _))
   exact ⟨f, ⟨(n : Int), ss, ts, is, cs⟩, ⟨some ⟨gLF, 0, none⟩, some ⟨gLT, 0, none⟩, some ⟨gLI, 0, none⟩, some ⟨gLC, 0, none⟩, rc⟩, rfl, ⟨.of_at a2 q3, .of_at a0 q5, .of_at a5 q4, (t4.low (b' := H.next) (by omega)).done b0 q2⟩, rfl, by show ss.length = _; omega⟩
  simp only [sps] at s8
  refine .z rfl (.z rfl (.q rfl (.pickF rfl rfl) (.nil (r6 _ _ ?_))))
  refine .condF rfl ?_
  refine .exit ?_
  refine r5 _ _ (.seq (fun K30 t7 => .region ?_))
  refine .q rfl (.loadM ag_27_D rfl ⟨rfl, Mem.of_get d⟩) ?_
  refine .r0 rfl rfl (.fillA rfl sz_27_D rfl rfl rfl rfl) ?_
  rintro _ H23001x2 ⟨rfl, b1, k4⟩
  have nx_H23001x2 := b1.nx
  replace f := f.st b1 (fun k hk => ⟨by omega, trivial⟩)
  have k8 : NE g8 l6 := .a
  replace a6 := b1.s a6 k8.ne
  have k5 : NE g9 l6 := .a
  replace a7 := b1.s a7 k5.ne
  have f5 : NE l6 gLF := ⟨i8.ne h6.ne (by omega)⟩
  replace a2 := b1.s a2 (Ne.symm f5.ne)
  have f8 : NE l6 gLT := ⟨i7.ne h1.ne (by omega)⟩
  replace a0 := b1.s a0 (Ne.symm f8.ne)
  have f4 : NE l6 gLI := ⟨i6.ne i0.ne (by omega)⟩
  replace a5 := b1.s a5 (Ne.symm f4.ne)
  have f6 : NE l6 gLC := ⟨k2.ne h7.ne (by omega)⟩
  replace b0 := b1.s b0 (Ne.symm f6.ne)
  replace d := b1.s d (Ne.symm a9.ne)
  have lt_at23001x2 := GHeap.ltg k4
  replace h := a1.mono f
  replace hin := l.mono f
  replace hin1 := e.mono f
  replace hL := u.mono f
  replace hR := t.mono f
  clear w b3 b8 b4 b9 c4 b5 c2 b6 b7 c3 c5
  have w : Cat.At _ g8 0 a p := ⟨Mem.of_get a6, hin⟩
  obtain ⟨b3, b8, b4, b9, c4, b5, c2, b6, b7⟩ := w.get
  have c3 : MemN _ _ _ _ _ := ⟨rfl, w.1⟩
  have c5 := w.2
  clear y d1 c9 d5 c7 d2 d3 d7 d6 c8 d8 c6
  have y : Cat.At _ g9 0 b q := ⟨Mem.of_get a7, hin1⟩
  obtain ⟨d1, c9, d5, c7, d2, d3, d7, d6, c8⟩ := y.get
  have d8 : MemN _ _ _ _ _ := ⟨rfl, y.1⟩
  have c6 := y.2
  clear o
  have o : MemN _ _ _ _ _ := ⟨rfl, Mem.of_get a4⟩
  have mm23001x2 : MemN _ _ _ _ _ := ⟨rfl, Mem.of_get k4⟩
  refine .nil (t7 _ _ ?_)
  refine .ret ?_
  refine s1 _ _ ?_
  refine ⟨_, _, _, _, rfl, ag_27_D, (by rfl), (Mem.of_get k4), ?_⟩
  have t4 := hO.st b1 (.cons (hO.neT a3 rfl) (.nil _ _))
  exact ⟨f, ⟨(n : Int), ss, ts, is, cs⟩, ⟨some ⟨gLF, 0, none⟩, some ⟨gLT, 0, none⟩, some ⟨gLI, 0, none⟩, some ⟨gLC, 0, none⟩, rc⟩, rfl, ⟨.of_at a2 q3, .of_at a0 q5, .of_at a5 q4, (t4.low (b' := H.next) (by omega)).done b0 q2⟩, rfl, by show ss.length = _; omega⟩
end Go.Proofs.Ytiooclghkafokaa
namespace Go.Proofs.Ytiooclghkafokaa
open Go Go.GL Go.RowKit Go.Proofs
set_option maxHeartbeats 8000000 in
theorem l09Comma_c {f k : Fun} {p q : FunP} {H : GHeap} (hin : f.In H p := by assumption) (hin1 : k.In H q := by assumption) (ho : KmOk f k) (h8 : (kmOb f k).length ≤ 8) :
    GCalls Try.prog 136 [.agg (f.cells p).toArray, .agg (k.cells q).toArray] H (fun v H' => H.Le H' ∧ ∃ (c : Cat) (pc : CatP) (a : Option Addr) (r : Nat → Option Addr) (b : Option Addr) (s : Nat → Option Addr),
      v = .tuple #[.agg (c.cells pc).toArray, .slice a (kmOb f k).length (kmOb f k).length, .slice b (kmAr f k (kmOb f k)).length (kmAr f k (kmOb f k)).length] ∧ CatK H.next H' c pc ∧ IntssR H.next H' a (kmOb f k) r ∧ IntssR H.next H' b (kmAr f k (kmOb f k)) s ∧ c.obj = (kmOb f k).length ∧ c.src.length = (kmAr f k (kmOb f k)).length) := by
  have hN := ho.n
  have q1 := ho.p.1.1.il
  have q2 := ho.q.1.1.il
  have hX := fun i (hi : i < (kmOb f k).length) => kmOb_x ho hi
  have f4 := kmOb_row f k
  refine GCalls.body (N := 30) (rs := [.cell 4 27, .tmp 5, .tmp 6]) Try.func136 rfl rfl rfl rfl (fun Qx f1 hend => ?_)
  refine .fg [0, 1] rfl ?_
  have x := GHeap.Le.refl H
  have j := hin
  have d := hin1
  refine .seq (fun K1 f9 => .region ?_)
  refine .R rfl (.boxR rfl sz_33_E rfl) ?_
  rintro _ H2 ⟨g2, rfl, f3, ge2, b2⟩
  have nx_H2 := f3.1
  replace x := x.trans f3
  have lt_at2 := GHeap.ltg b2
  replace hin := j.mono x
  replace hin1 := d.mono x
  have t : Fun.At _ g2 0 f p := ⟨Mem.of_get b2, hin⟩
  obtain ⟨z, y, a2, a0, c6, c4⟩ := t.get
  have c7 : MemN _ _ _ _ _ := ⟨rfl, t.1⟩
  have c5 := t.2
  have a4 : MemN _ _ _ _ _ := ⟨rfl, z.1⟩
  have a1 := z.2
  have a3 : MemN _ _ _ _ _ := ⟨rfl, y.1⟩
  have a5 := y.2
  refine .R rfl (.boxR rfl sz_33_E rfl) ?_
  rintro _ H3 ⟨g3, rfl, e9, ge3, b5⟩
  have nx_H3 := e9.1
  replace x := x.trans e9
  replace b2 := e9.2 _ _ b2
  have lt_at3 := GHeap.ltg b5
  replace hin := j.mono x
  replace hin1 := d.mono x
  clear t z y a2 a0 c6 c4 c7 c5 a4 a1 a3 a5
  have t : Fun.At _ g2 0 f p := ⟨Mem.of_get b2, hin⟩
  obtain ⟨z, y, a2, a0, c6, c4⟩ := t.get
  have c7 : MemN _ _ _ _ _ := ⟨rfl, t.1⟩
  have c5 := t.2
  have a4 : MemN _ _ _ _ _ := ⟨rfl, z.1⟩
  have a1 := z.2
  have a3 : MemN _ _ _ _ _ := ⟨rfl, y.1⟩
  have a5 := y.2
  have w : Fun.At _ g3 0 k q := ⟨Mem.of_get b5, hin1⟩
  obtain ⟨a7, a6, a8, b3, d2, d0⟩ := w.get
  have d3 : MemN _ _ _ _ _ := ⟨rfl, w.1⟩
  have d1 := w.2
  have a9 : MemN _ _ _ _ _ := ⟨rfl, a7.1⟩
  have b0 := a7.2
  have b4 : MemN _ _ _ _ _ := ⟨rfl, a6.1⟩
  have b1 := a6.2
  refine .R rfl (.allocR rfl ze_27_E rfl) ?_
  rintro _ H4 ⟨g4, rfl, e4, ge4, d8⟩
  have nx_H4 := e4.1
  replace x := x.trans e4
  replace b2 := e4.2 _ _ b2
  replace b5 := e4.2 _ _ b5
  have lt_at4 := GHeap.ltg d8
  replace hin := j.mono x
  replace hin1 := d.mono x
  clear t z y a2 a0 c6 c4 c7 c5 a4 a1 a3 a5
  have t : Fun.At _ g2 0 f p := ⟨Mem.of_get b2, hin⟩
  obtain ⟨z, y, a2, a0, c6, c4⟩ := t.get
  have c7 : MemN _ _ _ _ _ := ⟨rfl, t.1⟩
  have c5 := t.2
  have a4 : MemN _ _ _ _ _ := ⟨rfl, z.1⟩
  have a1 := z.2
  have a3 : MemN _ _ _ _ _ := ⟨rfl, y.1⟩
  have a5 := y.2
  clear w a7 a6 a8 b3 d2 d0 d3 d1 a9 b0 b4 b1
  have w : Fun.At _ g3 0 k q := ⟨Mem.of_get b5, hin1⟩
  obtain ⟨a7, a6, a8, b3, d2, d0⟩ := w.get
  have d3 : MemN _ _ _ _ _ := ⟨rfl, w.1⟩
  have d1 := w.2
  have a9 : MemN _ _ _ _ _ := ⟨rfl, a7.1⟩
  have b0 := a7.2
  have b4 : MemN _ _ _ _ _ := ⟨rfl, a6.1⟩
  have b1 := a6.2
  refine .mv rfl (.mv rfl (.nil (f9 _ _ (.seq (fun K2 f6 => .region ?_)))))
  refine .q rfl (.loadM ag_33_E rfl ⟨rfl, Mem.of_get b2⟩) ?_
  refine .q rfl (.loadM ag_33_E rfl ⟨rfl, Mem.of_get b5⟩) ?_
  refine .call rfl rfl rfl rfl @Try.call135 rfl (l09Objects_c (ho := ho)) ?_
  rintro _ e7 ⟨d7, a11, r11, rfl, d5⟩
  have nx_H11 := d7.1
  replace x := x.trans d7
  replace b2 := d7.2 _ _ b2
  replace b5 := d7.2 _ _ b5
  replace d8 := d7.2 _ _ d8
  have b7 := d5
  have e : Keep H4.next e7 e7 := fun _ _ _ h => h
  replace hin := j.mono x
  replace hin1 := d.mono x
  clear t z y a2 a0 c6 c4 c7 c5 a4 a1 a3 a5
  have t : Fun.At _ g2 0 f p := ⟨Mem.of_get b2, hin⟩
  obtain ⟨z, y, a2, a0, c6, c4⟩ := t.get
  have c7 : MemN _ _ _ _ _ := ⟨rfl, t.1⟩
  have c5 := t.2
  have a4 : MemN _ _ _ _ _ := ⟨rfl, z.1⟩
  have a1 := z.2
  have a3 : MemN _ _ _ _ _ := ⟨rfl, y.1⟩
  have a5 := y.2
  clear w a7 a6 a8 b3 d2 d0 d3 d1 a9 b0 b4 b1
  have w : Fun.At _ g3 0 k q := ⟨Mem.of_get b5, hin1⟩
  obtain ⟨a7, a6, a8, b3, d2, d0⟩ := w.get
  have d3 : MemN _ _ _ _ _ := ⟨rfl, w.1⟩
  have d1 := w.2
  have a9 : MemN _ _ _ _ _ := ⟨rfl, a7.1⟩
  have b0 := a7.2
  have b4 : MemN _ _ _ _ _ := ⟨rfl, a6.1⟩
  have b1 := a6.2
  have d9 := d5.intss
  refine .mv rfl (.nil (f6 _ _ (.seq (fun K3 g0 => .region ?_))))
  refine .q rfl (.loadM ag_33_E rfl ⟨rfl, Mem.of_get b2⟩) ?_
  refine .q rfl (.loadM ag_33_E rfl ⟨rfl, Mem.of_get b5⟩) ?_
  refine .mv rfl ?_
  refine .call rfl rfl rfl rfl @Try.call183 rfl (l09Arrows_c (O := kmOb f k) (ho := ho) (hO8 := h8) (hX := hX)) ?_
  rintro _ e5 ⟨d4, a15, r15, rfl, d6⟩
  have nx_H15 := d4.1
  replace x := x.trans d4
  replace b2 := d4.2 _ _ b2
  replace b5 := d4.2 _ _ b5
  replace d8 := d4.2 _ _ d8
  replace e := Keep.le e d4
  replace d5 := b7.keep e (Nat.le_refl _)
  have c1 := d6
  have m : Keep e7.next e5 e5 := fun _ _ _ h => h
  replace hin := j.mono x
  replace hin1 := d.mono x
  clear t z y a2 a0 c6 c4 c7 c5 a4 a1 a3 a5
  have t : Fun.At _ g2 0 f p := ⟨Mem.of_get b2, hin⟩
  obtain ⟨z, y, a2, a0, c6, c4⟩ := t.get
  have c7 : MemN _ _ _ _ _ := ⟨rfl, t.1⟩
  have c5 := t.2
  have a4 : MemN _ _ _ _ _ := ⟨rfl, z.1⟩
  have a1 := z.2
  have a3 : MemN _ _ _ _ _ := ⟨rfl, y.1⟩
  have a5 := y.2
  clear w a7 a6 a8 b3 d2 d0 d3 d1 a9 b0 b4 b1
  have w : Fun.At _ g3 0 k q := ⟨Mem.of_get b5, hin1⟩
  obtain ⟨a7, a6, a8, b3, d2, d0⟩ := w.get
  have d3 : MemN _ _ _ _ _ := ⟨rfl, w.1⟩
  have d1 := w.2
  have a9 : MemN _ _ _ _ _ := ⟨rfl, a7.1⟩
  have b0 := a7.2
  have b4 : MemN _ _ _ _ _ := ⟨rfl, a6.1⟩
  have b1 := a6.2
  clear d9
  have d9 := d5.intss
  have e0 := d6.intss
  refine .mv rfl (.nil (g0 _ _ (.seq (fun K4 f8 => ?_))))
  refine .regionDB mo_B (.q 0 (.q 1 (.q 2 (.q 3 (.q 4 (.q 5 (.q 6 (.q 7 (.q 9 (.q 12 (.q 13 (.c 8 1 (.c 10 1 (.c 11 1 (.c 14 1 (.q 15 (.q 16 (.done)))))))))))))))))) (by kernel_rfl) (GHeap.le_erase e5 g4) ?_
  have b6 := GHeap.le_erase e5 g4
  have g5 := GHeap.get_erase_of (g := g4) b2 (by omega)
  have f7 := GHeap.get_erase_of (g := g4) b5 (by omega)
  have m2B : MemN _ g2 (0 + 0) 5 (f.s.cells p.s) := ⟨rfl, (Mem.of_get g5).left⟩
  have m3B : MemN _ g3 (0 + 0) 5 (k.s.cells q.s) := ⟨rfl, (Mem.of_get f7).left⟩
  refine .qB rfl b6 (.move rfl) (.qB rfl b6 (.len sl_25_B rfl) (.qB rfl b6 (.move rfl) (.qB rfl b6 (.fieldAddr fo_33_0_E rfl) ?_)))
  refine .qB rfl b6 (.loadM ag_27_D rfl (by assumption)) ?_
  refine .qB rfl b6 (.fieldAddr fo_33_0_E rfl) ?_
  refine .qB rfl b6 (.loadM ag_27_D rfl (by assumption)) ?_
  refine .qB rfl b6 (.move rfl) (.qB rfl b6 (.move rfl) (.qB rfl b6 (.move rfl) (.qB rfl b6 (.move rfl) ?_)))
  refine .call1 rfl rfl rfl rfl rfl @Try.call185 rfl (l09Col_c (xss := kmOb f k) (k := 0) (hk := fun i hi => by have := (hX i hi).l; omega) (hl2 := fun i _ => by have := f4 i; omega)) ?_
  rintro _ H24 ⟨c2, g24, rfl, b8, ge24⟩
  replace b6 := b6.trans c2
  refine ⟨b6, ?_⟩
  have nx_H24 := c2.1
  replace x := x.trans c2
  replace b2 := c2.2 _ _ b2
  replace b5 := c2.2 _ _ b5
  replace d8 := c2.2 _ _ d8
  replace e := Keep.le e c2
  replace d5 := b7.keep e (Nat.le_refl _)
  replace m := Keep.le m c2
  replace d6 := c1.keep m (Nat.le_refl _)
  have lt_at24 := GHeap.ltg b8
  replace hin := j.mono x
  replace hin1 := d.mono x
  clear t z y a2 a0 c6 c4 c7 c5 a4 a1 a3 a5
  have t : Fun.At _ g2 0 f p := ⟨Mem.of_get b2, hin⟩
  obtain ⟨z, y, a2, a0, c6, c4⟩ := t.get
  have c7 : MemN _ _ _ _ _ := ⟨rfl, t.1⟩
  have c5 := t.2
  have a4 : MemN _ _ _ _ _ := ⟨rfl, z.1⟩
  have a1 := z.2
  have a3 : MemN _ _ _ _ _ := ⟨rfl, y.1⟩
  have a5 := y.2
  clear w a7 a6 a8 b3 d2 d0 d3 d1 a9 b0 b4 b1
  have w : Fun.At _ g3 0 k q := ⟨Mem.of_get b5, hin1⟩
  obtain ⟨a7, a6, a8, b3, d2, d0⟩ := w.get
  have d3 : MemN _ _ _ _ _ := ⟨rfl, w.1⟩
  have d1 := w.2
  have a9 : MemN _ _ _ _ _ := ⟨rfl, a7.1⟩
  have b0 := a7.2
  have b4 : MemN _ _ _ _ _ := ⟨rfl, a6.1⟩
  have b1 := a6.2
  clear d9
  have d9 := d5.intss
  clear e0
  have e0 := d6.intss
  have e2 := Ints.of_get b8
  refine .call1 rfl rfl rfl rfl rfl @Try.call185 rfl (l09Col_c (xss := kmOb f k) (k := 1) (hk := fun i hi => by have := (hX i hi).l; omega) (hl2 := fun i _ => by have := f4 i; omega)) ?_
  rintro _ g1 ⟨c0, g26, rfl, c3, ge26⟩
  replace b6 := b6.trans c0
  refine ⟨b6, ?_⟩
  have nx_H26 := c0.1
  replace x := x.trans c0
  replace b2 := c0.2 _ _ b2
  replace b5 := c0.2 _ _ b5
  replace d8 := c0.2 _ _ d8
  replace b8 := c0.2 _ _ b8
  replace e := Keep.le e c0
  replace d5 := b7.keep e (Nat.le_refl _)
  replace m := Keep.le m c0
  replace d6 := c1.keep m (Nat.le_refl _)
  have lt_at26 := GHeap.ltg c3
  replace hin := j.mono x
  replace hin1 := d.mono x
  clear t z y a2 a0 c6 c4 c7 c5 a4 a1 a3 a5
  have t : Fun.At _ g2 0 f p := ⟨Mem.of_get b2, hin⟩
  obtain ⟨z, y, a2, a0, c6, c4⟩ := t.get
  have c7 : MemN _ _ _ _ _ := ⟨rfl, t.1⟩
  have c5 := t.2
  have a4 : MemN _ _ _ _ _ := ⟨rfl, z.1⟩
  have a1 := z.2
  have a3 : MemN _ _ _ _ _ := ⟨rfl, y.1⟩
  have a5 := y.2
  clear w a7 a6 a8 b3 d2 d0 d3 d1 a9 b0 b4 b1
  have w : Fun.At _ g3 0 k q := ⟨Mem.of_get b5, hin1⟩
  obtain ⟨a7, a6, a8, b3, d2, d0⟩ := w.get
  have d3 : MemN _ _ _ _ _ := ⟨rfl, w.1⟩
  have d1 := w.2
  have a9 : MemN _ _ _ _ _ := ⟨rfl, a7.1⟩
  have b0 := a7.2
  have b4 : MemN _ _ _ _ _ := ⟨rfl, a6.1⟩
  have b1 := a6.2
  clear d9
  have d9 := d5.intss
  clear e0
  have e0 := d6.intss
  clear e2
  have e2 := Ints.of_get b8
  have e6 := Ints.of_get c3
  refine .call1 rfl rfl rfl rfl rfl @Try.call184 rfl (l09Build_c (n := (kmOb f k).length) (A := kmAr f k (kmOb f k)) (L := colI (kmOb f k) 0) (R := colI (kmOb f k) 1) (h := by assumption) (hin := by assumption) (hin1 := by assumption) (hL := Ints.of_get (by assumption)) (hR := Ints.of_get (by assumption)) (hSa := ho.p.1.1) (hSb := ho.q.1.1) (hn := h8) (hLl := length_colI _ _) (hRl := length_colI _ _) (hA := kmAr_len hN h8) (hA4 := kmAr_row f k _) (hY := fun i hi => ⟨(kmAr_y hi).l, (kmAr_y hi).u, (kmAr_y hi).v⟩) (hLi := fun i hi => by rw [colI_get hi]; have := (hX i hi).a; omega) (hRi := fun i hi => by rw [colI_get hi]; have := (hX i hi).b; omega)) ?_
  rintro _ f2 ⟨b9, c27, p27, rfl, e3, f0, e8⟩
  replace b6 := b6.trans b9
  refine ⟨b6, ?_⟩
  have nx_H27 := b9.1
  replace x := x.trans b9
  replace b2 := b9.2 _ _ b2
  replace b5 := b9.2 _ _ b5
  replace d8 := b9.2 _ _ d8
  replace b8 := b9.2 _ _ b8
  replace c3 := b9.2 _ _ c3
  replace e := Keep.le e b9
  replace d5 := b7.keep e (Nat.le_refl _)
  replace m := Keep.le m b9
  replace d6 := c1.keep m (Nat.le_refl _)
  have e1 := e3
  have c8 : Keep g1.next f2 f2 := fun _ _ _ h => h
  replace hin := j.mono x
  replace hin1 := d.mono x
  clear t z y a2 a0 c6 c4 c7 c5 a4 a1 a3 a5
  have t : Fun.At _ g2 0 f p := ⟨Mem.of_get b2, hin⟩
  obtain ⟨z, y, a2, a0, c6, c4⟩ := t.get
  have c7 : MemN _ _ _ _ _ := ⟨rfl, t.1⟩
  have c5 := t.2
  have a4 : MemN _ _ _ _ _ := ⟨rfl, z.1⟩
  have a1 := z.2
  have a3 : MemN _ _ _ _ _ := ⟨rfl, y.1⟩
  have a5 := y.2
  clear w a7 a6 a8 b3 d2 d0 d3 d1 a9 b0 b4 b1
  have w : Fun.At _ g3 0 k q := ⟨Mem.of_get b5, hin1⟩
  obtain ⟨a7, a6, a8, b3, d2, d0⟩ := w.get
  have d3 : MemN _ _ _ _ _ := ⟨rfl, w.1⟩
  have d1 := w.2
  have a9 : MemN _ _ _ _ _ := ⟨rfl, a7.1⟩
  have b0 := a7.2
  have b4 : MemN _ _ _ _ _ := ⟨rfl, a6.1⟩
  have b1 := a6.2
  clear d9
  have d9 := d5.intss
  clear e0
  have e0 := d6.intss
  clear e2
  have e2 := Ints.of_get b8
  clear e6
  have e6 := Ints.of_get c3
  have f5 := e3.inn
  refine .r1 rfl rfl rfl (.fillA rfl sz_27_D rfl rfl rfl rfl) ?_
  rintro _ H3014 ⟨rfl, o, c9⟩
  refine ⟨(b6.erase_st o), ?_⟩
  have nx_H3014 := o.nx
  replace x := x.st o (fun k hk => ⟨by omega, trivial⟩)
  replace b2 := o.s b2
  replace b5 := o.s b5
  replace b8 := o.s b8
  replace c3 := o.s c3
  replace e := Keep.st e o (fun k hb hk => ⟨by omega, trivial⟩)
  replace d5 := b7.keep e (Nat.le_refl _)
  replace m := Keep.st m o (fun k hb hk => ⟨by omega, trivial⟩)
  replace d6 := c1.keep m (Nat.le_refl _)
  replace c8 := Keep.st c8 o (fun k hb hk => ⟨by omega, trivial⟩)
  replace e3 := e1.keep c8 (Nat.le_refl _)
  have lt_at3014 := GHeap.ltg c9
  replace hin := j.mono x
  replace hin1 := d.mono x
  clear t z y a2 a0 c6 c4 c7 c5 a4 a1 a3 a5
  have t : Fun.At _ g2 0 f p := ⟨Mem.of_get b2, hin⟩
  obtain ⟨z, y, a2, a0, c6, c4⟩ := t.get
  have c7 : MemN _ _ _ _ _ := ⟨rfl, t.1⟩
  have c5 := t.2
  have a4 : MemN _ _ _ _ _ := ⟨rfl, z.1⟩
  have a1 := z.2
  have a3 : MemN _ _ _ _ _ := ⟨rfl, y.1⟩
  have a5 := y.2
  clear w a7 a6 a8 b3 d2 d0 d3 d1 a9 b0 b4 b1
  have w : Fun.At _ g3 0 k q := ⟨Mem.of_get b5, hin1⟩
  obtain ⟨a7, a6, a8, b3, d2, d0⟩ := w.get
  have d3 : MemN _ _ _ _ _ := ⟨rfl, w.1⟩
  have d1 := w.2
  have a9 : MemN _ _ _ _ _ := ⟨rfl, a7.1⟩
  have b0 := a7.2
  have b4 : MemN _ _ _ _ _ := ⟨rfl, a6.1⟩
  have b1 := a6.2
  clear d9
  have d9 := d5.intss
  clear e0
  have e0 := d6.intss
  clear e2
  have e2 := Ints.of_get b8
  clear e6
  have e6 := Ints.of_get c3
  clear f5
  have f5 := e3.inn
  have mm3014 : MemN _ _ _ _ _ := ⟨rfl, Mem.of_get c9⟩
  replace b6 := b6.erase_st o
  refine .qB rfl b6 (.assign rfl) (.qB rfl b6 (.assign rfl) ?_)
  refine .done ?_
  refine f8 _ _ ?_
  refine .ret ?_
  refine f1 _ _ ?_
  refine ⟨_, _, _, _, _, _, rfl, ag_27_D, (by rfl), (Mem.of_get c9), rfl, rfl, ?_⟩
  exact ⟨x, _, _, _, _, _, _, rfl, e3.keep (.of_le (.refl _)) (by omega), d5.keep (.of_le (.refl _)) (by omega), d6.keep (.of_le (.refl _)) (by omega), f0, e8⟩
set_option maxHeartbeats 8000000 in
theorem l09Code_c {f k : Fun} {p q : FunP} {H : GHeap} (hin : f.In H p := by assumption) (hin1 : k.In H q := by assumption) (hs : f.Small := by assumption) (hs1 : k.Small := by assumption) :
    GCalls Try.prog 72 [.agg (f.cells p).toArray, .agg (k.cells q).toArray] H (fun v H' => H.Le H' ∧ ∃ (c : Cat) (pc : CatP) (a : Option Addr) (r : Nat → Option Addr) (b : Option Addr) (s : Nat → Option Addr),
      v = .tuple #[.agg (c.cells pc).toArray, .slice a (kmRO f k).length (kmRO f k).length, .slice b (kmRA f k).length (kmRA f k).length, .int .i64 (kmC f k)] ∧ IntssR H.next H' a (kmRO f k) r ∧ IntssR H.next H' b (kmRA f k) s) := by
  refine GCalls.body (N := 46) (rs := [.cell 4 27, .tmp 5, .tmp 6, .tmp 7]) Try.func72 rfl rfl rfl rfl (fun Qx e6 hend => ?_)
  refine .fg [0, 1] rfl ?_
  have l := GHeap.Le.refl H
  have e := hin
  have d := hin1
  refine .seq (fun K1 h9 => .region ?_)
  refine .R rfl (.boxR rfl sz_33_E rfl) ?_
  rintro _ H2 ⟨g2, rfl, h2, ge2, b6⟩
  have nx_H2 := h2.1
  replace l := l.trans h2
  have lt_at2 := GHeap.ltg b6
  replace hin := e.mono l
  replace hin1 := d.mono l
  have m : Fun.At _ g2 0 f p := ⟨Mem.of_get b6, hin⟩
  obtain ⟨z, y, a1, a0, c2, c1⟩ := m.get
  have c4 : MemN _ _ _ _ _ := ⟨rfl, m.1⟩
  have c3 := m.2
  have a4 : MemN _ _ _ _ _ := ⟨rfl, z.1⟩
  have a3 := z.2
  have a2 : MemN _ _ _ _ _ := ⟨rfl, y.1⟩
  have a5 := y.2
  refine .R rfl (.boxR rfl sz_33_E rfl) ?_
  rintro _ H3 ⟨g3, rfl, g0, ge3, b7⟩
  have nx_H3 := g0.1
  replace l := l.trans g0
  replace b6 := g0.2 _ _ b6
  have lt_at3 := GHeap.ltg b7
  replace hin := e.mono l
  replace hin1 := d.mono l
  clear m z y a1 a0 c2 c1 c4 c3 a4 a3 a2 a5
  have m : Fun.At _ g2 0 f p := ⟨Mem.of_get b6, hin⟩
  obtain ⟨z, y, a1, a0, c2, c1⟩ := m.get
  have c4 : MemN _ _ _ _ _ := ⟨rfl, m.1⟩
  have c3 := m.2
  have a4 : MemN _ _ _ _ _ := ⟨rfl, z.1⟩
  have a3 := z.2
  have a2 : MemN _ _ _ _ _ := ⟨rfl, y.1⟩
  have a5 := y.2
  have n : Fun.At _ g3 0 k q := ⟨Mem.of_get b7, hin1⟩
  obtain ⟨a7, a8, a9, b4, c7, c5⟩ := n.get
  have c6 : MemN _ _ _ _ _ := ⟨rfl, n.1⟩
  have c8 := n.2
  have b0 : MemN _ _ _ _ _ := ⟨rfl, a7.1⟩
  have b1 := a7.2
  have b2 : MemN _ _ _ _ _ := ⟨rfl, a8.1⟩
  have b3 := a8.2
  refine .R rfl (.allocR rfl ze_27_E rfl) ?_
  rintro _ H4 ⟨g4, rfl, f7, ge4, f0⟩
  have nx_H4 := f7.1
  replace l := l.trans f7
  replace b6 := f7.2 _ _ b6
  replace b7 := f7.2 _ _ b7
  have lt_at4 := GHeap.ltg f0
  replace hin := e.mono l
  replace hin1 := d.mono l
  clear m z y a1 a0 c2 c1 c4 c3 a4 a3 a2 a5
  have m : Fun.At _ g2 0 f p := ⟨Mem.of_get b6, hin⟩
  obtain ⟨z, y, a1, a0, c2, c1⟩ := m.get
  have c4 : MemN _ _ _ _ _ := ⟨rfl, m.1⟩
  have c3 := m.2
  have a4 : MemN _ _ _ _ _ := ⟨rfl, z.1⟩
  have a3 := z.2
  have a2 : MemN _ _ _ _ _ := ⟨rfl, y.1⟩
  have a5 := y.2
  clear n a7 a8 a9 b4 c7 c5 c6 c8 b0 b1 b2 b3
  have n : Fun.At _ g3 0 k q := ⟨Mem.of_get b7, hin1⟩
  obtain ⟨a7, a8, a9, b4, c7, c5⟩ := n.get
  have c6 : MemN _ _ _ _ _ := ⟨rfl, n.1⟩
  have c8 := n.2
  have b0 : MemN _ _ _ _ _ := ⟨rfl, a7.1⟩
  have b1 := a7.2
  have b2 : MemN _ _ _ _ _ := ⟨rfl, a8.1⟩
  have b3 := a8.2
  refine .mv rfl (.mv rfl (.mv rfl (.nil (h9 _ _ (.seq (fun K2 i1 => .seq (fun K3 h4 => .region ?_)))))))
  refine .q rfl (.loadM ag_33_E rfl ⟨rfl, Mem.of_get b6⟩) ?_
  refine .q rfl (.loadM ag_33_E rfl ⟨rfl, Mem.of_get b7⟩) ?_
  refine .callQ rfl rfl rfl rfl @Try.call134 rfl (l06Two_c) ?_
  refine .mv rfl (.nil (h4 _ _ (.seq (fun K4 h3 => .region (.mv rfl (.q rfl (.cmp rfl rfl rfl) (.nil (h3 _ _ ?_))))))))
  refine .cond rfl (fun f4 => ?_) (fun f4 => ?_)
  ·
   simp only [sps] at f4
   have hI : ¬ (f.Is ∧ k.Is) := fun hh => by rw [B_true hh] at f4; exact f4 rfl
   have hC := kmC_1 hI
   refine .seq (fun K5 h5 => .region (.q rfl (.build bt_27_Mb rfl rfl rfl) (.mv rfl ?_)))
   refine .r0 rfl rfl (.fillA rfl sz_27_D rfl rfl rfl rfl) ?_
   rintro _ H3002 ⟨rfl, d1, d8⟩
   have nx_H3002 := d1.nx
   replace l := l.st d1 (fun k hk => ⟨by omega, trivial⟩)
   have j : NE g2 g4 := .a
   replace b6 := d1.s b6 j.ne
   have i : NE g3 g4 := .a
   replace b7 := d1.s b7 i.ne
   have lt_at3002 := GHeap.ltg d8
   replace hin := e.mono l
   replace hin1 := d.mono l
   clear m z y a1 a0 c2 c1 c4 c3 a4 a3 a2 a5
   have m : Fun.At _ g2 0 f p := ⟨Mem.of_get b6, hin⟩
   obtain ⟨z, y, a1, a0, c2, c1⟩ := m.get
   have c4 : MemN _ _ _ _ _ := ⟨rfl, m.1⟩
   have c3 := m.2
   have a4 : MemN _ _ _ _ _ := ⟨rfl, z.1⟩
   have a3 := z.2
   have a2 : MemN _ _ _ _ _ := ⟨rfl, y.1⟩
   have a5 := y.2
   clear n a7 a8 a9 b4 c7 c5 c6 c8 b0 b1 b2 b3
   have n : Fun.At _ g3 0 k q := ⟨Mem.of_get b7, hin1⟩
   obtain ⟨a7, a8, a9, b4, c7, c5⟩ := n.get
   have c6 : MemN _ _ _ _ _ := ⟨rfl, n.1⟩
   have c8 := n.2
   have b0 : MemN _ _ _ _ _ := ⟨rfl, a7.1⟩
   have b1 := a7.2
   have b2 : MemN _ _ _ _ _ := ⟨rfl, a8.1⟩
   have b3 := a8.2
   have mm3002 : MemN _ _ _ _ _ := ⟨rfl, Mem.of_get d8⟩
   refine .mv rfl (.mv rfl (.mv rfl (.nil (h5 _ _ ?_))))
   refine .ret ?_
   refine e6 _ _ ?_
   refine ⟨_, _, _, _, _, _, _, rfl, ag_27_D, (by rfl), (Mem.of_get d8), rfl, rfl, rfl, ?_⟩
   first
   | (obtain ⟨e1, e2⟩ := kmR_ok hC; rw [e1, e2, hC]; exact ⟨l, _, _, _, _, _, _, rfl, e8.keep (.of_le (.refl _)) (by omega), e7.keep (.of_le (.refl _)) (by omega)⟩)
   | (obtain ⟨e1, e2⟩ := kmR_not (f := f) (k := k) (by rw [hC]; decide); rw [e1, e2, hC]; exact ⟨l, .zero, .zero, none, fun _ => none, none, fun _ => none, by first | rfl | (rw [B_false hI]; rfl), .nil _ _ _, .nil _ _ _⟩)
  simp only [sps] at f4
  have hI : f.Is ∧ k.Is := by
    by_cases hh : f.Is ∧ k.Is
    · exact hh
    · rw [B_false hh] at f4; cases f4
  refine .skip ?_
  refine i1 _ _ (.seq (fun K6 h7 => .seq (fun K7 h6 => .region (.q rfl (.fieldAddr fo_33_1_E rfl) ?_))))
  refine .q rfl (.loadM ag_27_D rfl (by assumption)) ?_
  refine .q rfl (.fieldAddr fo_33_1_E rfl) ?_
  refine .q rfl (.loadM ag_27_D rfl (by assumption)) ?_
  refine .callQ rfl rfl rfl rfl @Try.call85 rfl (l02Same_c (hs := hs.2.1) (hs' := hs1.2.1)) ?_
  refine .q rfl (.not rfl) (.nil (h6 _ _ ?_))
  refine .cond rfl (fun f2 => ?_) (fun f2 => ?_)
  ·
   simp only [sps] at f2
   have hC := kmC_5 hI f2
   refine .seq (fun K8 i2 => .region (.q rfl (.build bt_27_Mb rfl rfl rfl) ?_))
   refine .r0 rfl rfl (.fillA rfl sz_27_D rfl rfl rfl rfl) ?_
   rintro _ H5001 ⟨rfl, d2, d9⟩
   have nx_H5001 := d2.nx
   replace l := l.st d2 (fun k hk => ⟨by omega, trivial⟩)
   have j : NE g2 g4 := .a
   replace b6 := d2.s b6 j.ne
   have i : NE g3 g4 := .a
   replace b7 := d2.s b7 i.ne
   have lt_at5001 := GHeap.ltg d9
   replace hin := e.mono l
   replace hin1 := d.mono l
   clear m z y a1 a0 c2 c1 c4 c3 a4 a3 a2 a5
   have m : Fun.At _ g2 0 f p := ⟨Mem.of_get b6, hin⟩
   obtain ⟨z, y, a1, a0, c2, c1⟩ := m.get
   have c4 : MemN _ _ _ _ _ := ⟨rfl, m.1⟩
   have c3 := m.2
   have a4 : MemN _ _ _ _ _ := ⟨rfl, z.1⟩
   have a3 := z.2
   have a2 : MemN _ _ _ _ _ := ⟨rfl, y.1⟩
   have a5 := y.2
   clear n a7 a8 a9 b4 c7 c5 c6 c8 b0 b1 b2 b3
   have n : Fun.At _ g3 0 k q := ⟨Mem.of_get b7, hin1⟩
   obtain ⟨a7, a8, a9, b4, c7, c5⟩ := n.get
   have c6 : MemN _ _ _ _ _ := ⟨rfl, n.1⟩
   have c8 := n.2
   have b0 : MemN _ _ _ _ _ := ⟨rfl, a7.1⟩
   have b1 := a7.2
   have b2 : MemN _ _ _ _ _ := ⟨rfl, a8.1⟩
   have b3 := a8.2
   have mm5001 : MemN _ _ _ _ _ := ⟨rfl, Mem.of_get d9⟩
   refine .mv rfl (.mv rfl (.mv rfl (.nil (i2 _ _ ?_))))
   refine .ret ?_
   refine e6 _ _ ?_
   refine ⟨_, _, _, _, _, _, _, rfl, ag_27_D, (by rfl), (Mem.of_get d9), rfl, rfl, rfl, ?_⟩
   first
   | (obtain ⟨e1, e2⟩ := kmR_ok hC; rw [e1, e2, hC]; exact ⟨l, _, _, _, _, _, _, rfl, e8.keep (.of_le (.refl _)) (by omega), e7.keep (.of_le (.refl _)) (by omega)⟩)
   | (obtain ⟨e1, e2⟩ := kmR_not (f := f) (k := k) (by rw [hC]; decide); rw [e1, e2, hC]; exact ⟨l, .zero, .zero, none, fun _ => none, none, fun _ => none, by first | rfl | (rw [B_false hI]; rfl), .nil _ _ _, .nil _ _ _⟩)
  simp only [sps] at f2
  have ho : KmOk f k := ⟨hI.1, hI.2, f2⟩
  refine .skip ?_
  refine h7 _ _ (.seq (fun K9 i3 => .seq (fun K10 g8 => .region ?_)))
  refine .q rfl (.loadM ag_33_E rfl ⟨rfl, Mem.of_get b6⟩) ?_
  refine .q rfl (.loadM ag_33_E rfl ⟨rfl, Mem.of_get b7⟩) ?_
  refine .call rfl rfl rfl rfl @Try.call135 rfl (l09Objects_c (ho := ho)) ?_
  rintro _ f6 ⟨e5, a28, r28, rfl, e0⟩
  have nx_H28 := e5.1
  replace l := l.trans e5
  replace b6 := e5.2 _ _ b6
  replace b7 := e5.2 _ _ b7
  replace f0 := e5.2 _ _ f0
  have b8 := e0
  have g : Keep H4.next f6 f6 := fun _ _ _ h => h
  replace hin := e.mono l
  replace hin1 := d.mono l
  clear m z y a1 a0 c2 c1 c4 c3 a4 a3 a2 a5
  have m : Fun.At _ g2 0 f p := ⟨Mem.of_get b6, hin⟩
  obtain ⟨z, y, a1, a0, c2, c1⟩ := m.get
  have c4 : MemN _ _ _ _ _ := ⟨rfl, m.1⟩
  have c3 := m.2
  have a4 : MemN _ _ _ _ _ := ⟨rfl, z.1⟩
  have a3 := z.2
  have a2 : MemN _ _ _ _ _ := ⟨rfl, y.1⟩
  have a5 := y.2
  clear n a7 a8 a9 b4 c7 c5 c6 c8 b0 b1 b2 b3
  have n : Fun.At _ g3 0 k q := ⟨Mem.of_get b7, hin1⟩
  obtain ⟨a7, a8, a9, b4, c7, c5⟩ := n.get
  have c6 : MemN _ _ _ _ _ := ⟨rfl, n.1⟩
  have c8 := n.2
  have b0 : MemN _ _ _ _ _ := ⟨rfl, a7.1⟩
  have b1 := a7.2
  have b2 : MemN _ _ _ _ _ := ⟨rfl, a8.1⟩
  have b3 := a8.2
  have e4 := e0.intss
  refine .q rfl (.len sl_25_B rfl) (.q rfl (.cmp rfl rfl rfl) (.nil (g8 _ _ ?_)))
  refine .cond rfl (fun g1 => ?_) (fun g1 => ?_)
  ·
   simp only [sps] at g1
   have hC := kmC_3 hI f2 (fun hh => by omega)
   refine .seq (fun K11 f9 => .region (.q rfl (.build bt_27_Mb rfl rfl rfl) ?_))
   refine .r0 rfl rfl (.fillA rfl sz_27_D rfl rfl rfl rfl) ?_
   rintro _ H7001 ⟨rfl, b9, d7⟩
   have nx_H7001 := b9.nx
   replace l := l.st b9 (fun k hk => ⟨by omega, trivial⟩)
   have j : NE g2 g4 := .a
   replace b6 := b9.s b6 j.ne
   have i : NE g3 g4 := .a
   replace b7 := b9.s b7 i.ne
   replace g := Keep.st g b9 (fun k hb hk => ⟨by omega, trivial⟩)
   replace e0 := b8.keep g (Nat.le_refl _)
   have lt_at7001 := GHeap.ltg d7
   replace hin := e.mono l
   replace hin1 := d.mono l
   clear m z y a1 a0 c2 c1 c4 c3 a4 a3 a2 a5
   have m : Fun.At _ g2 0 f p := ⟨Mem.of_get b6, hin⟩
   obtain ⟨z, y, a1, a0, c2, c1⟩ := m.get
   have c4 : MemN _ _ _ _ _ := ⟨rfl, m.1⟩
   have c3 := m.2
   have a4 : MemN _ _ _ _ _ := ⟨rfl, z.1⟩
   have a3 := z.2
   have a2 : MemN _ _ _ _ _ := ⟨rfl, y.1⟩
   have a5 := y.2
   clear n a7 a8 a9 b4 c7 c5 c6 c8 b0 b1 b2 b3
   have n : Fun.At _ g3 0 k q := ⟨Mem.of_get b7, hin1⟩
   obtain ⟨a7, a8, a9, b4, c7, c5⟩ := n.get
   have c6 : MemN _ _ _ _ _ := ⟨rfl, n.1⟩
   have c8 := n.2
   have b0 : MemN _ _ _ _ _ := ⟨rfl, a7.1⟩
   have b1 := a7.2
   have b2 : MemN _ _ _ _ _ := ⟨rfl, a8.1⟩
   have b3 := a8.2
   clear e4
   have e4 := e0.intss
   have mm7001 : MemN _ _ _ _ _ := ⟨rfl, Mem.of_get d7⟩
   refine .mv rfl (.mv rfl (.mv rfl (.nil (f9 _ _ ?_))))
   refine .ret ?_
   refine e6 _ _ ?_
   refine ⟨_, _, _, _, _, _, _, rfl, ag_27_D, (by rfl), (Mem.of_get d7), rfl, rfl, rfl, ?_⟩
   first
   | (obtain ⟨e1, e2⟩ := kmR_ok hC; rw [e1, e2, hC]; exact ⟨l, _, _, _, _, _, _, rfl, e8.keep (.of_le (.refl _)) (by omega), e7.keep (.of_le (.refl _)) (by omega)⟩)
   | (obtain ⟨e1, e2⟩ := kmR_not (f := f) (k := k) (by rw [hC]; decide); rw [e1, e2, hC]; exact ⟨l, .zero, .zero, none, fun _ => none, none, fun _ => none, by first | rfl | (rw [B_false hI]; rfl), .nil _ _ _, .nil _ _ _⟩)
  simp only [sps] at g1
  refine .skip ?_
  refine i3 _ _ (.seq (fun K12 g7 => .region ?_))
  refine .q rfl (.loadM ag_33_E rfl ⟨rfl, Mem.of_get b6⟩) ?_
  refine .q rfl (.loadM ag_33_E rfl ⟨rfl, Mem.of_get b7⟩) ?_
  refine .call rfl rfl rfl rfl @Try.call136 rfl (l09Comma_c (ho := ho) (h8 := by omega)) ?_
  rintro _ f5 ⟨e3, c35, p35, a35, r35, b35, s35, rfl, e9, e8, e7, ob35, sl35⟩
  have nx_H35 := e3.1
  replace l := l.trans e3
  replace b6 := e3.2 _ _ b6
  replace b7 := e3.2 _ _ b7
  replace f0 := e3.2 _ _ f0
  replace g := Keep.le g e3
  replace e0 := b8.keep g (Nat.le_refl _)
  have d0 := e9
  have o : Keep f6.next f5 f5 := fun _ _ _ h => h
  have d5 := e8
  have t : Keep f6.next f5 f5 := fun _ _ _ h => h
  have c9 := e7
  have u : Keep f6.next f5 f5 := fun _ _ _ h => h
  replace hin := e.mono l
  replace hin1 := d.mono l
  clear m z y a1 a0 c2 c1 c4 c3 a4 a3 a2 a5
  have m : Fun.At _ g2 0 f p := ⟨Mem.of_get b6, hin⟩
  obtain ⟨z, y, a1, a0, c2, c1⟩ := m.get
  have c4 : MemN _ _ _ _ _ := ⟨rfl, m.1⟩
  have c3 := m.2
  have a4 : MemN _ _ _ _ _ := ⟨rfl, z.1⟩
  have a3 := z.2
  have a2 : MemN _ _ _ _ _ := ⟨rfl, y.1⟩
  have a5 := y.2
  clear n a7 a8 a9 b4 c7 c5 c6 c8 b0 b1 b2 b3
  have n : Fun.At _ g3 0 k q := ⟨Mem.of_get b7, hin1⟩
  obtain ⟨a7, a8, a9, b4, c7, c5⟩ := n.get
  have c6 : MemN _ _ _ _ _ := ⟨rfl, n.1⟩
  have c8 := n.2
  have b0 : MemN _ _ _ _ _ := ⟨rfl, a7.1⟩
  have b1 := a7.2
  have b2 : MemN _ _ _ _ _ := ⟨rfl, a8.1⟩
  have b3 := a8.2
  clear e4
  have e4 := e0.intss
  have f3 := e9.inn
  refine .mv rfl (.q rfl (.extract rfl rfl) (.q rfl (.extract rfl rfl) (.q rfl (.extract rfl rfl) ?_)))
  refine .R rfl (.allocR rfl ze_27_E rfl) ?_
  rintro _ H9 ⟨g9, rfl, f1, ge9, i0⟩
  have nx_H9 := f1.1
  replace l := l.trans f1
  replace b6 := f1.2 _ _ b6
  replace b7 := f1.2 _ _ b7
  replace f0 := f1.2 _ _ f0
  replace g := Keep.le g f1
  replace e0 := b8.keep g (Nat.le_refl _)
  replace o := Keep.le o f1
  replace e9 := d0.keep o (Nat.le_refl _)
  replace t := Keep.le t f1
  replace e8 := d5.keep t (Nat.le_refl _)
  replace u := Keep.le u f1
  replace e7 := c9.keep u (Nat.le_refl _)
  have lt_at9 := GHeap.ltg i0
  replace hin := e.mono l
  replace hin1 := d.mono l
  clear m z y a1 a0 c2 c1 c4 c3 a4 a3 a2 a5
  have m : Fun.At _ g2 0 f p := ⟨Mem.of_get b6, hin⟩
  obtain ⟨z, y, a1, a0, c2, c1⟩ := m.get
  have c4 : MemN _ _ _ _ _ := ⟨rfl, m.1⟩
  have c3 := m.2
  have a4 : MemN _ _ _ _ _ := ⟨rfl, z.1⟩
  have a3 := z.2
  have a2 : MemN _ _ _ _ _ := ⟨rfl, y.1⟩
  have a5 := y.2
  clear n a7 a8 a9 b4 c7 c5 c6 c8 b0 b1 b2 b3
  have n : Fun.At _ g3 0 k q := ⟨Mem.of_get b7, hin1⟩
  obtain ⟨a7, a8, a9, b4, c7, c5⟩ := n.get
  have c6 : MemN _ _ _ _ _ := ⟨rfl, n.1⟩
  have c8 := n.2
  have b0 : MemN _ _ _ _ _ := ⟨rfl, a7.1⟩
  have b1 := a7.2
  have b2 : MemN _ _ _ _ _ := ⟨rfl, a8.1⟩
  have b3 := a8.2
  clear e4
  have e4 := e0.intss
  clear f3
  have f3 := e9.inn
  refine .r0 rfl rfl (.fillA rfl sz_27_D rfl rfl rfl rfl) ?_
  rintro _ H8008 ⟨rfl, b5, a6⟩
  have nx_H8008 := b5.nx
  replace l := l.st b5 (fun k hk => ⟨by omega, trivial⟩)
  replace b6 := b5.s b6
  replace b7 := b5.s b7
  have c0 : NE g4 g9 := .a
  replace f0 := b5.s f0 c0.ne
  replace g := Keep.st g b5 (fun k hb hk => ⟨by omega, trivial⟩)
  replace e0 := b8.keep g (Nat.le_refl _)
  replace o := Keep.st o b5 (fun k hb hk => ⟨by omega, trivial⟩)
  replace e9 := d0.keep o (Nat.le_refl _)
  replace t := Keep.st t b5 (fun k hb hk => ⟨by omega, trivial⟩)
  replace e8 := d5.keep t (Nat.le_refl _)
  replace u := Keep.st u b5 (fun k hb hk => ⟨by omega, trivial⟩)
  replace e7 := c9.keep u (Nat.le_refl _)
  have lt_at8008 := GHeap.ltg a6
  replace hin := e.mono l
  replace hin1 := d.mono l
  clear m z y a1 a0 c2 c1 c4 c3 a4 a3 a2 a5
  have m : Fun.At _ g2 0 f p := ⟨Mem.of_get b6, hin⟩
  obtain ⟨z, y, a1, a0, c2, c1⟩ := m.get
  have c4 : MemN _ _ _ _ _ := ⟨rfl, m.1⟩
  have c3 := m.2
  have a4 : MemN _ _ _ _ _ := ⟨rfl, z.1⟩
  have a3 := z.2
  have a2 : MemN _ _ _ _ _ := ⟨rfl, y.1⟩
  have a5 := y.2
  clear n a7 a8 a9 b4 c7 c5 c6 c8 b0 b1 b2 b3
  have n : Fun.At _ g3 0 k q := ⟨Mem.of_get b7, hin1⟩
  obtain ⟨a7, a8, a9, b4, c7, c5⟩ := n.get
  have c6 : MemN _ _ _ _ _ := ⟨rfl, n.1⟩
  have c8 := n.2
  have b0 : MemN _ _ _ _ _ := ⟨rfl, a7.1⟩
  have b1 := a7.2
  have b2 : MemN _ _ _ _ _ := ⟨rfl, a8.1⟩
  have b3 := a8.2
  clear e4
  have e4 := e0.intss
  clear f3
  have f3 := e9.inn
  have d3 : MemN _ _ _ _ _ := ⟨rfl, Mem.of_get a6⟩
  refine .mv rfl (.mv rfl (.nil (g7 _ _ (.seq (fun K13 h0 => .seq (fun K14 g5 => .region ?_))))))
  refine .q rfl (.loadM ag_27_D rfl ⟨rfl, Mem.of_get a6⟩) ?_
  refine .callQ rfl rfl rfl rfl @Try.call137 rfl (l02Fits_c) ?_
  refine .q rfl (.not rfl) (.nil (g5 _ _ ?_))
  refine .cond rfl (fun f8 => ?_) (fun f8 => ?_)
  ·
   simp only [sps] at f8
   have hC := kmC_3 hI f2 (fun hh => f8 ⟨by omega, by omega⟩)
   refine .seq (fun K15 h1 => .region (.q rfl (.build bt_27_Mb rfl rfl rfl) ?_))
   refine .r0 rfl rfl (.fillA rfl sz_27_D rfl rfl rfl rfl) ?_
   rintro _ H10001 ⟨rfl, w, d4⟩
   have nx_H10001 := w.nx
   replace l := l.st w (fun k hk => ⟨by omega, trivial⟩)
   have j : NE g2 g4 := .a
   replace b6 := w.s b6 j.ne
   have i : NE g3 g4 := .a
   replace b7 := w.s b7 i.ne
   replace a6 := w.s a6 (Ne.symm c0.ne)
   replace g := Keep.st g w (fun k hb hk => ⟨by omega, trivial⟩)
   replace e0 := b8.keep g (Nat.le_refl _)
   replace o := Keep.st o w (fun k hb hk => ⟨by omega, trivial⟩)
   replace e9 := d0.keep o (Nat.le_refl _)
   replace t := Keep.st t w (fun k hb hk => ⟨by omega, trivial⟩)
   replace e8 := d5.keep t (Nat.le_refl _)
   replace u := Keep.st u w (fun k hb hk => ⟨by omega, trivial⟩)
   replace e7 := c9.keep u (Nat.le_refl _)
   have lt_at10001 := GHeap.ltg d4
   replace hin := e.mono l
   replace hin1 := d.mono l
   clear m z y a1 a0 c2 c1 c4 c3 a4 a3 a2 a5
   have m : Fun.At _ g2 0 f p := ⟨Mem.of_get b6, hin⟩
   obtain ⟨z, y, a1, a0, c2, c1⟩ := m.get
   have c4 : MemN _ _ _ _ _ := ⟨rfl, m.1⟩
   have c3 := m.2
   have a4 : MemN _ _ _ _ _ := ⟨rfl, z.1⟩
   have a3 := z.2
   have a2 : MemN _ _ _ _ _ := ⟨rfl, y.1⟩
   have a5 := y.2
   clear n a7 a8 a9 b4 c7 c5 c6 c8 b0 b1 b2 b3
   have n : Fun.At _ g3 0 k q := ⟨Mem.of_get b7, hin1⟩
   obtain ⟨a7, a8, a9, b4, c7, c5⟩ := n.get
   have c6 : MemN _ _ _ _ _ := ⟨rfl, n.1⟩
   have c8 := n.2
   have b0 : MemN _ _ _ _ _ := ⟨rfl, a7.1⟩
   have b1 := a7.2
   have b2 : MemN _ _ _ _ _ := ⟨rfl, a8.1⟩
   have b3 := a8.2
   clear e4
   have e4 := e0.intss
   clear f3
   have f3 := e9.inn
   clear d3
   have d3 : MemN _ _ _ _ _ := ⟨rfl, Mem.of_get a6⟩
   have mm10001 : MemN _ _ _ _ _ := ⟨rfl, Mem.of_get d4⟩
   refine .mv rfl (.mv rfl (.mv rfl (.nil (h1 _ _ ?_))))
   refine .ret ?_
   refine e6 _ _ ?_
   refine ⟨_, _, _, _, _, _, _, rfl, ag_27_D, (by rfl), (Mem.of_get d4), rfl, rfl, rfl, ?_⟩
   first
   | (obtain ⟨e1, e2⟩ := kmR_ok hC; rw [e1, e2, hC]; exact ⟨l, _, _, _, _, _, _, rfl, e8.keep (.of_le (.refl _)) (by omega), e7.keep (.of_le (.refl _)) (by omega)⟩)
   | (obtain ⟨e1, e2⟩ := kmR_not (f := f) (k := k) (by rw [hC]; decide); rw [e1, e2, hC]; exact ⟨l, .zero, .zero, none, fun _ => none, none, fun _ => none, by first | rfl | (rw [B_false hI]; rfl), .nil _ _ _, .nil _ _ _⟩)
  simp only [sps] at f8
  have hC := kmC_0 hI f2 (by omega) (by omega)
  refine .skip ?_
  refine h0 _ _ (.seq (fun K16 g6 => .region ?_))
  refine .q rfl (.loadM ag_27_D rfl ⟨rfl, Mem.of_get a6⟩) ?_
  refine .mv rfl (.mv rfl ?_)
  refine .r0 rfl rfl (.fillA rfl sz_27_D rfl rfl rfl rfl) ?_
  rintro _ H11003 ⟨rfl, x, d6⟩
  have nx_H11003 := x.nx
  replace l := l.st x (fun k hk => ⟨by omega, trivial⟩)
  have j : NE g2 g4 := .a
  replace b6 := x.s b6 j.ne
  have i : NE g3 g4 := .a
  replace b7 := x.s b7 i.ne
  replace a6 := x.s a6 (Ne.symm c0.ne)
  replace g := Keep.st g x (fun k hb hk => ⟨by omega, trivial⟩)
  replace e0 := b8.keep g (Nat.le_refl _)
  replace o := Keep.st o x (fun k hb hk => ⟨by omega, trivial⟩)
  replace e9 := d0.keep o (Nat.le_refl _)
  replace t := Keep.st t x (fun k hb hk => ⟨by omega, trivial⟩)
  replace e8 := d5.keep t (Nat.le_refl _)
  replace u := Keep.st u x (fun k hb hk => ⟨by omega, trivial⟩)
  replace e7 := c9.keep u (Nat.le_refl _)
  have lt_at11003 := GHeap.ltg d6
  replace hin := e.mono l
  replace hin1 := d.mono l
  clear m z y a1 a0 c2 c1 c4 c3 a4 a3 a2 a5
  have m : Fun.At _ g2 0 f p := ⟨Mem.of_get b6, hin⟩
  obtain ⟨z, y, a1, a0, c2, c1⟩ := m.get
  have c4 : MemN _ _ _ _ _ := ⟨rfl, m.1⟩
  have c3 := m.2
  have a4 : MemN _ _ _ _ _ := ⟨rfl, z.1⟩
  have a3 := z.2
  have a2 : MemN _ _ _ _ _ := ⟨rfl, y.1⟩
  have a5 := y.2
  clear n a7 a8 a9 b4 c7 c5 c6 c8 b0 b1 b2 b3
  have n : Fun.At _ g3 0 k q := ⟨Mem.of_get b7, hin1⟩
  obtain ⟨a7, a8, a9, b4, c7, c5⟩ := n.get
  have c6 : MemN _ _ _ _ _ := ⟨rfl, n.1⟩
  have c8 := n.2
  have b0 : MemN _ _ _ _ _ := ⟨rfl, a7.1⟩
  have b1 := a7.2
  have b2 : MemN _ _ _ _ _ := ⟨rfl, a8.1⟩
  have b3 := a8.2
  clear e4
  have e4 := e0.intss
  clear f3
  have f3 := e9.inn
  clear d3
  have d3 : MemN _ _ _ _ _ := ⟨rfl, Mem.of_get a6⟩
  have mm11003 : MemN _ _ _ _ _ := ⟨rfl, Mem.of_get d6⟩
  refine .mv rfl (.mv rfl (.mv rfl (.nil (g6 _ _ ?_))))
  refine .ret ?_
  refine e6 _ _ ?_
  refine ⟨_, _, _, _, _, _, _, rfl, ag_27_D, (by rfl), (Mem.of_get d6), rfl, rfl, rfl, ?_⟩
  first
  | (obtain ⟨e1, e2⟩ := kmR_ok hC; rw [e1, e2, hC]; exact ⟨l, _, _, _, _, _, _, rfl, e8.keep (.of_le (.refl _)) (by omega), e7.keep (.of_le (.refl _)) (by omega)⟩)
  | (obtain ⟨e1, e2⟩ := kmR_not (f := f) (k := k) (by rw [hC]; decide); rw [e1, e2, hC]; exact ⟨l, .zero, .zero, none, fun _ => none, none, fun _ => none, by first | rfl | (rw [B_false hI]; rfl), .nil _ _ _, .nil _ _ _⟩)
theorem specCommaArrows_c {f k : Fun} {p q : FunP} {H : GHeap} (hin : f.In H p := by assumption) (hin1 : k.In H q := by assumption) (hs : f.Small := by assumption) (hs1 : k.Small := by assumption) :
    GCalls Try.prog 24 [.agg (f.cells p).toArray, .agg (k.cells q).toArray] H (fun v H' => H.Le H' ∧ ∃ a r, v = .tuple #[.slice a (kmRA f k).length (kmRA f k).length, .int .i64 (kmC f k)] ∧ IntssR H.next H' a (kmRA f k) r) := by
  refine GCalls.body (N := 20) (rs := [.tmp 4, .tmp 5]) Try.func24 rfl rfl rfl rfl (fun Qx c5 hend => ?_)
  refine .fg [0, 1] rfl ?_
  have j := GHeap.Le.refl H
  have c := hin
  have b := hin1
  refine .seq (fun K1 d0 => .region ?_)
  refine .R rfl (.boxR rfl sz_33_E rfl) ?_
  rintro _ H2 ⟨g2, rfl, c7, ge2, z⟩
  have nx_H2 := c7.1
  replace j := j.trans c7
  have lt_at2 := GHeap.ltg z
  replace hin := c.mono j
  replace hin1 := b.mono j
  have i : Fun.At _ g2 0 f p := ⟨Mem.of_get z, hin⟩
  obtain ⟨n, m, u, o, b5, b3⟩ := i.get
  have b6 : MemN _ _ _ _ _ := ⟨rfl, i.1⟩
  have b4 := i.2
  have x : MemN _ _ _ _ _ := ⟨rfl, n.1⟩
  have t := n.2
  have w : MemN _ _ _ _ _ := ⟨rfl, m.1⟩
  have y := m.2
  refine .R rfl (.boxR rfl sz_33_E rfl) ?_
  rintro _ H3 ⟨g3, rfl, c4, ge3, a8⟩
  have nx_H3 := c4.1
  replace j := j.trans c4
  replace z := c4.2 _ _ z
  have lt_at3 := GHeap.ltg a8
  replace hin := c.mono j
  replace hin1 := b.mono j
  clear i n m u o b5 b3 b6 b4 x t w y
  have i : Fun.At _ g2 0 f p := ⟨Mem.of_get z, hin⟩
  obtain ⟨n, m, u, o, b5, b3⟩ := i.get
  have b6 : MemN _ _ _ _ _ := ⟨rfl, i.1⟩
  have b4 := i.2
  have x : MemN _ _ _ _ _ := ⟨rfl, n.1⟩
  have t := n.2
  have w : MemN _ _ _ _ _ := ⟨rfl, m.1⟩
  have y := m.2
  have l : Fun.At _ g3 0 k q := ⟨Mem.of_get a8, hin1⟩
  obtain ⟨a1, a0, a2, a6, c0, b7⟩ := l.get
  have c1 : MemN _ _ _ _ _ := ⟨rfl, l.1⟩
  have b8 := l.2
  have a3 : MemN _ _ _ _ _ := ⟨rfl, a1.1⟩
  have a4 := a1.2
  have a7 : MemN _ _ _ _ _ := ⟨rfl, a0.1⟩
  have a5 := a0.2
  refine .mv rfl (.mv rfl (.nil (d0 _ _ (.seq (fun K2 c8 => .region ?_)))))
  refine .q rfl (.loadM ag_33_E rfl ⟨rfl, Mem.of_get z⟩) ?_
  refine .q rfl (.loadM ag_33_E rfl ⟨rfl, Mem.of_get a8⟩) ?_
  refine .call rfl rfl rfl rfl @Try.call72 rfl (l09Code_c) ?_
  rintro _ c3 ⟨b2, c13, p13, a13, r13, b13, s13, rfl, c6, c2⟩
  have nx_H13 := b2.1
  replace j := j.trans b2
  replace z := b2.2 _ _ z
  replace a8 := b2.2 _ _ a8
  have b0 := c6
  have g : Keep H3.next c3 c3 := fun _ _ _ h => h
  have b1 := c2
  have d : Keep H3.next c3 c3 := fun _ _ _ h => h
  replace hin := c.mono j
  replace hin1 := b.mono j
  clear i n m u o b5 b3 b6 b4 x t w y
  have i : Fun.At _ g2 0 f p := ⟨Mem.of_get z, hin⟩
  obtain ⟨n, m, u, o, b5, b3⟩ := i.get
  have b6 : MemN _ _ _ _ _ := ⟨rfl, i.1⟩
  have b4 := i.2
  have x : MemN _ _ _ _ _ := ⟨rfl, n.1⟩
  have t := n.2
  have w : MemN _ _ _ _ _ := ⟨rfl, m.1⟩
  have y := m.2
  clear l a1 a0 a2 a6 c0 b7 c1 b8 a3 a4 a7 a5
  have l : Fun.At _ g3 0 k q := ⟨Mem.of_get a8, hin1⟩
  obtain ⟨a1, a0, a2, a6, c0, b7⟩ := l.get
  have c1 : MemN _ _ _ _ _ := ⟨rfl, l.1⟩
  have b8 := l.2
  have a3 : MemN _ _ _ _ _ := ⟨rfl, a1.1⟩
  have a4 := a1.2
  have a7 : MemN _ _ _ _ _ := ⟨rfl, a0.1⟩
  have a5 := a0.2
  refine .mv rfl (.q rfl (.extract rfl rfl) (.q rfl (.extract rfl rfl) (.q rfl (.extract rfl rfl) (.q rfl (.extract rfl rfl) ?_))))
  refine .R rfl (.allocR rfl ze_27_E rfl) ?_
  rintro _ H6 ⟨g6, rfl, b9, ge6, c9⟩
  have nx_H6 := b9.1
  replace j := j.trans b9
  replace z := b9.2 _ _ z
  replace a8 := b9.2 _ _ a8
  replace g := Keep.le g b9
  replace c6 := b0.keep g (Nat.le_refl _)
  replace d := Keep.le d b9
  replace c2 := b1.keep d (Nat.le_refl _)
  have lt_at6 := GHeap.ltg c9
  replace hin := c.mono j
  replace hin1 := b.mono j
  clear i n m u o b5 b3 b6 b4 x t w y
  have i : Fun.At _ g2 0 f p := ⟨Mem.of_get z, hin⟩
  obtain ⟨n, m, u, o, b5, b3⟩ := i.get
  have b6 : MemN _ _ _ _ _ := ⟨rfl, i.1⟩
  have b4 := i.2
  have x : MemN _ _ _ _ _ := ⟨rfl, n.1⟩
  have t := n.2
  have w : MemN _ _ _ _ _ := ⟨rfl, m.1⟩
  have y := m.2
  clear l a1 a0 a2 a6 c0 b7 c1 b8 a3 a4 a7 a5
  have l : Fun.At _ g3 0 k q := ⟨Mem.of_get a8, hin1⟩
  obtain ⟨a1, a0, a2, a6, c0, b7⟩ := l.get
  have c1 : MemN _ _ _ _ _ := ⟨rfl, l.1⟩
  have b8 := l.2
  have a3 : MemN _ _ _ _ _ := ⟨rfl, a1.1⟩
  have a4 := a1.2
  have a7 : MemN _ _ _ _ _ := ⟨rfl, a0.1⟩
  have a5 := a0.2
  refine .r0 rfl rfl (.fillA rfl sz_27_D rfl rfl rfl rfl) ?_
  rintro _ H1009 ⟨rfl, e, a9⟩
  have nx_H1009 := e.nx
  replace j := j.st e (fun k hk => ⟨by omega, trivial⟩)
  replace z := e.s z
  replace a8 := e.s a8
  replace g := Keep.st g e (fun k hb hk => ⟨by omega, trivial⟩)
  replace c6 := b0.keep g (Nat.le_refl _)
  replace d := Keep.st d e (fun k hb hk => ⟨by omega, trivial⟩)
  replace c2 := b1.keep d (Nat.le_refl _)
  have lt_at1009 := GHeap.ltg a9
  replace hin := c.mono j
  replace hin1 := b.mono j
  clear i n m u o b5 b3 b6 b4 x t w y
  have i : Fun.At _ g2 0 f p := ⟨Mem.of_get z, hin⟩
  obtain ⟨n, m, u, o, b5, b3⟩ := i.get
  have b6 : MemN _ _ _ _ _ := ⟨rfl, i.1⟩
  have b4 := i.2
  have x : MemN _ _ _ _ _ := ⟨rfl, n.1⟩
  have t := n.2
  have w : MemN _ _ _ _ _ := ⟨rfl, m.1⟩
  have y := m.2
  clear l a1 a0 a2 a6 c0 b7 c1 b8 a3 a4 a7 a5
  have l : Fun.At _ g3 0 k q := ⟨Mem.of_get a8, hin1⟩
  obtain ⟨a1, a0, a2, a6, c0, b7⟩ := l.get
  have c1 : MemN _ _ _ _ _ := ⟨rfl, l.1⟩
  have b8 := l.2
  have a3 : MemN _ _ _ _ _ := ⟨rfl, a1.1⟩
  have a4 := a1.2
  have a7 : MemN _ _ _ _ _ := ⟨rfl, a0.1⟩
  have a5 := a0.2
  have mm1009 : MemN _ _ _ _ _ := ⟨rfl, Mem.of_get a9⟩
  refine .mv rfl (.mv rfl (.mv rfl (.nil (c8 _ _ (.seq (fun K3 d1 => .region (.mv rfl (.mv rfl (.mv rfl (.mv rfl (.nil (d1 _ _ ?_))))))))))))
  refine .ret ?_
  refine c5 _ _ ?_
  refine ⟨_, _, rfl, rfl, ?_⟩
  exact ⟨j, _, _, rfl, c2.keep (.of_le (.refl _)) (by omega)⟩
end Go.Proofs.Ytiooclghkafokaa
