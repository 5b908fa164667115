/- Transformations, in the program. No condition but those of each statement. -/
import Derived.Test.YtnohkokoimmclaaZ7
import Derived.Deep.Slices
import Derived.MapKept
namespace Go.Proofs.Ytnohkokoimmclaa
open Go Go.GL Go.RowKit Go.Proofs
theorem commutes_c {g o g' o' : Nat} {m : Tra} {p : TraP} {a : Nat} {H : GHeap} (h : Fun.At H g o m.s p.s := by assumption) (h' : Fun.At H g' o' m.t p.t := by assumption) (hd : Ints H p.d m.co := by assumption) (hS : m.Shape := by assumption) (ha : a < m.s.ar.length := by omega) :
    GCalls Try.prog 78 [.pointer (some ⟨g, o, none⟩), .pointer (some ⟨g', o', none⟩), .slice p.d m.co.length m.co.length, .int .i64 (a : Int)] H (Ret (.bool (B (m.Sq a))) H) := by
  refine GCalls.body (N := 56) (rs := [.tmp 8]) Try.func78 rfl rfl rfl rfl (fun Qx hret hend => ?_)
  refine .forget (fr' := [(0, some _), (1, some _), (2, some _), (3, some _)]) ⟨rfl, rfl, rfl, rfl, trivial⟩ ?_
  obtain ⟨fs, ft, c10, c11, j1, j2⟩ := h.get
  obtain ⟨gs, gt, d10, d11, l1, l2⟩ := h'.get
  obtain ⟨c0, c1, c2, c3, c4, i1, i2, i3, i4⟩ := fs.get
  have hs := hS.s.1.1
  have ht := hS.s.2.1.1
  have hf := hS.s.2.2
  have hf' := hS.t.2.2
  have e1 := hf.al
  have e2 := hf'.al
  have e3 := hS.ps
  have e4 := hS.pt
  have e5 := hS.cl
  rw [← e3] at e2
  have q1 := hs.src a (by omega)
  have q2 := hs.tgt a (by have := hs.tl; omega)
  have q3 := hf.ar a (by omega)
  have q4 := hf'.ar a (by omega)
  rw [← e4] at q4
  have q5 := hS.co (m.s.s.src.getD a 0).toNat (by omega)
  have q6 := hS.co (m.s.s.tgt.getD a 0).toNat (by omega)
  have q7 := hs.tl
  have q8 := ht.cl
  have q9 := ht.row (m.s.ar.getD a 0).toNat (by omega)
  have q10 := ht.row (m.co.getD (m.s.s.src.getD a 0).toNat 0).toNat (by omega)
  have q11 := hs.n40
  refine .seq (fun K1 hK1 => ?_)
  refine .region ?_
  refine .m rfl rfl rfl (.assign rfl) ?_
  refine .nil ?_
  refine hK1 _ _ ?_
  refine .seq (fun K2 hK2 => ?_)
  refine .regionD mixed_orders_B (.q 0 (.q 1 (.q 2 (.q 3 (.q 4 (.q 5 (.q 6 (.q 7 (.done))))))))) (by kernel_rfl) ?_
  refine .m rfl rfl rfl rfl (.refl _) (.move rfl) ?_
  refine .m rfl rfl rfl rfl (.refl _) (.nilCheck rfl) ?_
  refine .m rfl rfl rfl rfl (.refl _) (.fieldAddr fo_33_0_E rfl) ?_
  refine .m rfl rfl rfl rfl (.refl _) (.move rfl) ?_
  refine .m rfl rfl rfl rfl (.refl _) (.nilCheck rfl) ?_
  refine .m rfl rfl rfl rfl (.refl _) (.fieldAddr fo_33_1_E rfl) ?_
  refine .m rfl rfl rfl rfl (.refl _) (.assign rfl) ?_
  refine .m rfl rfl rfl rfl (.refl _) (.assign rfl) ?_
  refine .done ?_
  refine hK2 _ _ ?_
  refine .seq (fun K3 hK3 => ?_)
  refine .regionD mixed_orders_B (.q 0 (.q 1 (.q 2 (.q 3 (.q 4 (.q 5 (.q 6 (.q 7 (.q 8 (.q 9 (.q 10 (.q 11 (.q 12 (.q 13 (.q 14 (.q 15 (.q 16 (.q 17 (.q 19 (.q 20 (.q 21 (.q 22 (.q 23 (.q 24 (.q 25 (.q 26 (.q 27 (.q 28 (.q 29 (.q 30 (.q 31 (.q 32 (.q 33 (.q 34 (.q 35 (.q 36 (.c 18 1 (.c 37 0 (.q 38 (.q 39 (.done))))))))))))))))))))))))))))))))))))))))) (by kernel_rfl) ?_
  refine .m rfl rfl rfl rfl (.refl _) (.move rfl) ?_
  refine .m rfl rfl rfl rfl (.refl _) (.move rfl) ?_
  refine .m rfl rfl rfl rfl (.refl _) (.nilCheck rfl) ?_
  refine .m rfl rfl rfl rfl (.refl _) (.fieldAddr fo_33_3_E rfl) ?_
  refine .m rfl rfl rfl rfl (.refl _) (.load on_22_B rfl (by assumption)) ?_
  refine .m rfl rfl rfl rfl (.refl _) (.move rfl) ?_
  refine .m rfl rfl rfl rfl (.refl _) (.idxN sl_22_A (by assumption) rfl rfl (by omega)) ?_
  refine .m rfl rfl rfl rfl (.refl _) (.loadI on_2_A (by assumption) rfl (by omega)) ?_
  refine .m rfl rfl rfl rfl (.refl _) (.move rfl) ?_
  refine .m rfl rfl rfl rfl (.refl _) (.move rfl) ?_
  refine .m rfl rfl rfl rfl (.refl _) (.nilCheck rfl) ?_
  refine .m rfl rfl rfl rfl (.refl _) (.fieldAddr fo_31_2_B rfl) ?_
  refine .m rfl rfl rfl rfl (.refl _) (.load on_22_B rfl (by assumption)) ?_
  refine .m rfl rfl rfl rfl (.refl _) (.move rfl) ?_
  refine .m rfl rfl rfl rfl (.refl _) (.idxN sl_22_A (by assumption) rfl rfl (by omega)) ?_
  refine .m rfl rfl rfl rfl (.refl _) (.loadI on_2_A (by assumption) rfl (by omega)) ?_
  refine .m rfl rfl rfl rfl (.refl _) (.idx1 sl_22_A (by assumption) rfl rfl (by omega) (by omega)) ?_
  refine .m rfl rfl rfl rfl (.refl _) (.loadI on_2_A (by assumption) rfl (by omega)) ?_
  refine .m rfl rfl rfl rfl (.refl _) (.move rfl) ?_
  refine .m rfl rfl rfl rfl (.refl _) (.move rfl) ?_
  refine .m rfl rfl rfl rfl (.refl _) (.move rfl) ?_
  refine .m rfl rfl rfl rfl (.refl _) (.nilCheck rfl) ?_
  refine .m rfl rfl rfl rfl (.refl _) (.fieldAddr fo_31_1_B rfl) ?_
  refine .m rfl rfl rfl rfl (.refl _) (.load on_22_B rfl (by assumption)) ?_
  refine .m rfl rfl rfl rfl (.refl _) (.move rfl) ?_
  refine .m rfl rfl rfl rfl (.refl _) (.idxN sl_22_A (by assumption) rfl rfl (by omega)) ?_
  refine .m rfl rfl rfl rfl (.refl _) (.loadI on_2_A (by assumption) rfl (by omega)) ?_
  refine .m rfl rfl rfl rfl (.refl _) (.idx1 sl_22_A (by assumption) rfl rfl (by omega) (by omega)) ?_
  refine .m rfl rfl rfl rfl (.refl _) (.loadI on_2_A (by assumption) rfl (by omega)) ?_
  refine .m rfl rfl rfl rfl (.refl _) (.move rfl) ?_
  refine .m rfl rfl rfl rfl (.refl _) (.nilCheck rfl) ?_
  refine .m rfl rfl rfl rfl (.refl _) (.fieldAddr fo_33_3_E rfl) ?_
  refine .m rfl rfl rfl rfl (.refl _) (.load on_22_B rfl (by assumption)) ?_
  refine .m rfl rfl rfl rfl (.refl _) (.move rfl) ?_
  refine .m rfl rfl rfl rfl (.refl _) (.idxN sl_22_A (by assumption) rfl rfl (by omega)) ?_
  refine .m rfl rfl rfl rfl (.refl _) (.loadI on_2_A (by assumption) rfl (by omega)) ?_
  refine .callQ1 rfl rfl rfl rfl rfl @Try.call82 rfl (then_s) (.refl _) ?_
  refine .callQ0 rfl rfl rfl rfl rfl @Try.call82 rfl (then_s) ?_
  refine .m rfl rfl rfl rfl (.refl _) (.cmp rfl rfl rfl) ?_
  refine .m rfl rfl rfl rfl (.refl _) (.assign rfl) ?_
  refine .done ?_
  refine hK3 _ _ ?_
  refine .ret ?_
  -- leaf e1
  refine hret _ _ ?_
  refine ⟨_, rfl, ?_⟩
  exact .of (congrArg _ (by rw [Bool.eq_iff_iff, B_iff]; simp [Tra.Sq]))
end Go.Proofs.Ytnohkokoimmclaa
/- Functors and transformations, in the reference. No condition but those of each statement. -/
namespace Go.Proofs.Ytnohkokoimmclaa
open Go Go.GL Go.RowKit Go.Proofs
theorem l07Square_c {m : Tra} {p : TraP} {a : Nat} {H : GHeap} (hin : m.s.In H p.s := by assumption) (hin' : m.t.In H p.t := by assumption) (hd : Ints H p.d m.co := by assumption) (hS : m.Shape := by assumption) (ha : a < m.s.ar.length := by omega) :
    GCalls Try.prog 102 [.agg (m.s.cells p.s).toArray, .agg (m.t.cells p.t).toArray, .slice p.d m.co.length m.co.length, .int .i64 (a : Int)] H (Ret (.bool (B (m.Sq a))) H) := by
  refine GCalls.ret rfl ?_
  refine GCalls.body (N := 54) (rs := [.tmp 8]) Try.func102 rfl rfl rfl rfl (fun Qx hret hend => ?_)
  refine .forget (fr' := [(0, some _), (1, some _), (2, some _), (3, some _)]) ⟨rfl, rfl, rfl, rfl, trivial⟩ ?_
  refine .seq (fun K1 hK1 => ?_)
  refine .region ?_
  refine .d rfl rfl rfl (.box rfl sz_33_E rfl CIs.mk) ?_
  show GRun _ _ _ _ _ _ (H.push (.row (m.s.cells p.s) 33 true))
  have hle := GHeap.le_push H (.row (m.s.cells p.s) 33 true)
  have hb : Fun.At (H.push (.row (m.s.cells p.s) 33 true)) H.next 0 m.s p.s := ⟨Mem.new _ _ _ _, hin.mono hle⟩
  generalize H.push (.row (m.s.cells p.s) 33 true) = H1 at *
  refine .d rfl rfl rfl (.box rfl sz_33_E rfl CIs.mk) ?_
  show GRun _ _ _ _ _ _ (H1.push (.row (m.t.cells p.t) 33 true))
  have hle1 := GHeap.le_push H1 (.row (m.t.cells p.t) 33 true)
  have hb' : Fun.At (H1.push (.row (m.t.cells p.t) 33 true)) H1.next 0 m.t p.t := ⟨Mem.new _ _ _ _, (hin'.mono hle).mono hle1⟩
  replace hb := hb.mono hle1
  replace hle := hle.trans hle1
  replace hd := hd.mono hle
  generalize H1.push (.row (m.t.cells p.t) 33 true) = H3 at *
  obtain ⟨fs, ft, c10, c11, j1, j2⟩ := hb.get
  have hms : MemN _ _ _ _ _ := ⟨rfl, fs.1⟩
  have hmt : MemN _ _ _ _ _ := ⟨rfl, ft.1⟩
  refine .m rfl rfl rfl (.assign rfl) ?_
  refine .nil ?_
  refine hK1 _ _ ?_
  refine .seq (fun K2 hK2 => ?_)
  refine .regionD mixed_orders_B (.q 0 (.q 1 (.q 2 (.q 3 (.or (.c 4 1 (.c 5 1 (.c 6 1 (.c 7 0 .done)))) (.c 5 1 (.c 4 1 (.c 6 1 (.c 7 0 .done))))))))) (by kernel_rfl) ?_
  refine .m rfl rfl rfl rfl (.refl _) (.fieldAddr fo_33_0_E rfl) ?_
  refine .m rfl rfl rfl rfl (.refl _) (.loadM ag_31_D rfl (by assumption)) ?_
  refine .m rfl rfl rfl rfl (.refl _) (.fieldAddr fo_33_1_E rfl) ?_
  refine .m rfl rfl rfl rfl (.refl _) (.loadM ag_31_D rfl (by assumption)) ?_
  refine .two [(2, some _), (3, some _), (4, some _), (5, some _)] rfl rfl rfl rfl rfl rfl rfl rfl rfl rfl rfl rfl rfl rfl rfl rfl rfl rfl ze_31_E rfl sz_31_D rfl rfl rfl rfl rfl (by rfl) (by rfl) rfl rfl rfl rfl rfl ⟨rfl, rfl, rfl, rfl, trivial⟩ rfl rfl (.refl _) ?_
  intro g3 g4 H2 fr2 hle2 hga hgb hg3 hg4 hsub
  replace hle := hle.trans hle2
  obtain ⟨fs, ft, c10, c11, j1, j2⟩ := (hb.mono hle2).get
  obtain ⟨gs, gt, d10, d11, l1, l2⟩ := (hb'.mono hle2).get
  replace hd := hd.mono hle2
  have k3 : Cat.At H2 g3 0 m.s.s p.s.s := ⟨Mem.of_get hg3, fs.2⟩
  have k4 : Cat.At H2 g4 0 m.s.t p.s.t := ⟨Mem.of_get hg4, ft.2⟩
  obtain ⟨c0, c1, c2, c3, c4, i1, i2, i3, i4⟩ := k3.get
  obtain ⟨x0, x1, x2, x3, x4, y1, y2, y3, y4⟩ := k4.get
  have hs := hS.s.1.1
  have ht := hS.s.2.1.1
  have hf := hS.s.2.2
  have hf' := hS.t.2.2
  have e1 := hf.al
  have e2 := hf'.al
  have e3 := hS.ps
  have e4 := hS.pt
  have e5 := hS.cl
  rw [← e3] at e2
  have q1 := hs.src a (by omega)
  have q2 := hs.tgt a (by have := hs.tl; omega)
  have q3 := hf.ar a (by omega)
  have q4 := hf'.ar a (by omega)
  rw [← e4] at q4
  have q5 := hS.co (m.s.s.src.getD a 0).toNat (by omega)
  have q6 := hS.co (m.s.s.tgt.getD a 0).toNat (by omega)
  have q7 := hs.tl
  have q8 := ht.cl
  have q9 := ht.row (m.s.ar.getD a 0).toNat (by omega)
  have q10 := ht.row (m.co.getD (m.s.s.src.getD a 0).toNat 0).toNat (by omega)
  have q11 := hs.n40
  have r1 := y4.2 (m.s.ar.getD a 0).toNat (by omega)
  have r2 := y4.2 (m.co.getD (m.s.s.src.getD a 0).toNat 0).toNat (by omega)
  refine hK2 _ _ ?_
  refine .forget hsub ?_
  refine .seq (fun K3 hK3 => ?_)
  refine .regionD mixed_orders_B (.q 0 (.q 1 (.q 2 (.q 3 (.q 4 (.q 5 (.q 6 (.q 7 (.q 8 (.q 9 (.q 10 (.q 11 (.q 12 (.q 13 (.q 14 (.q 15 (.q 16 (.q 17 (.q 18 (.q 19 (.q 20 (.q 21 (.q 22 (.q 23 (.q 24 (.q 25 (.q 26 (.q 27 (.q 28 (.q 29 (.q 30 (.q 31 (.q 32 (.q 33 (.q 34 (.q 35 (.q 36 (.q 37 (.q 38 (.q 39 (.done))))))))))))))))))))))))))))))))))))))))) (by kernel_rfl) ?_
  refine .m rfl rfl rfl rfl (.refl _) (.fieldAddr fo_31_4_B rfl) ?_
  refine .m rfl rfl rfl rfl (.refl _) (.load on_23_B rfl (by assumption)) ?_
  refine .m rfl rfl rfl rfl (.refl _) (.fieldAddr fo_33_3_E rfl) ?_
  refine .m rfl rfl rfl rfl (.refl _) (.load on_22_B rfl (by assumption)) ?_
  refine .m rfl rfl rfl rfl (.refl _) (.move rfl) ?_
  refine .m rfl rfl rfl rfl (.refl _) (.idxN sl_22_A (by assumption) rfl rfl (by omega)) ?_
  refine .m rfl rfl rfl rfl (.refl _) (.loadI on_2_A (by assumption) rfl (by omega)) ?_
  refine .m rfl rfl rfl rfl (.refl _) (.idx1 sl_23_B (Intss.sl (by assumption)) rfl rfl (by omega) (by omega)) ?_
  refine .m rfl rfl rfl rfl (.refl _) (.loadR on_22_B (by assumption) rfl (by omega)) ?_
  refine .m rfl rfl rfl rfl (.refl _) (.move rfl) ?_
  refine .m rfl rfl rfl rfl (.refl _) (.fieldAddr fo_31_2_B rfl) ?_
  refine .m rfl rfl rfl rfl (.refl _) (.load on_22_B rfl (by assumption)) ?_
  refine .m rfl rfl rfl rfl (.refl _) (.move rfl) ?_
  refine .m rfl rfl rfl rfl (.refl _) (.idxN sl_22_A (by assumption) rfl rfl (by omega)) ?_
  refine .m rfl rfl rfl rfl (.refl _) (.loadI on_2_A (by assumption) rfl (by omega)) ?_
  refine .m rfl rfl rfl rfl (.refl _) (.idx1 sl_22_A (by assumption) rfl rfl (by omega) (by omega)) ?_
  refine .m rfl rfl rfl rfl (.refl _) (.loadI on_2_A (by assumption) rfl (by omega)) ?_
  refine .m rfl rfl rfl rfl (.refl _) (.idx1 sl_22_A (by assumption) rfl rfl (by omega) (by omega)) ?_
  refine .m rfl rfl rfl rfl (.refl _) (.loadI on_2_A (by assumption) rfl (by omega)) ?_
  refine .m rfl rfl rfl rfl (.refl _) (.fieldAddr fo_31_4_B rfl) ?_
  refine .m rfl rfl rfl rfl (.refl _) (.load on_23_B rfl (by assumption)) ?_
  refine .m rfl rfl rfl rfl (.refl _) (.move rfl) ?_
  refine .m rfl rfl rfl rfl (.refl _) (.fieldAddr fo_31_1_B rfl) ?_
  refine .m rfl rfl rfl rfl (.refl _) (.load on_22_B rfl (by assumption)) ?_
  refine .m rfl rfl rfl rfl (.refl _) (.move rfl) ?_
  refine .m rfl rfl rfl rfl (.refl _) (.idxN sl_22_A (by assumption) rfl rfl (by omega)) ?_
  refine .m rfl rfl rfl rfl (.refl _) (.loadI on_2_A (by assumption) rfl (by omega)) ?_
  refine .m rfl rfl rfl rfl (.refl _) (.idx1 sl_22_A (by assumption) rfl rfl (by omega) (by omega)) ?_
  refine .m rfl rfl rfl rfl (.refl _) (.loadI on_2_A (by assumption) rfl (by omega)) ?_
  refine .m rfl rfl rfl rfl (.refl _) (.idx1 sl_23_B (Intss.sl (by assumption)) rfl rfl (by omega) (by omega)) ?_
  refine .m rfl rfl rfl rfl (.refl _) (.loadR on_22_B (by assumption) rfl (by omega)) ?_
  refine .m rfl rfl rfl rfl (.refl _) (.fieldAddr fo_33_3_E rfl) ?_
  refine .m rfl rfl rfl rfl (.refl _) (.load on_22_B rfl (by assumption)) ?_
  refine .m rfl rfl rfl rfl (.refl _) (.move rfl) ?_
  refine .m rfl rfl rfl rfl (.refl _) (.idxN sl_22_A (by assumption) rfl rfl (by omega)) ?_
  refine .m rfl rfl rfl rfl (.refl _) (.loadI on_2_A (by assumption) rfl (by omega)) ?_
  refine .m rfl rfl rfl rfl (.refl _) (.idx1 sl_22_A (by assumption) rfl rfl (by omega) (by omega)) ?_
  refine .m rfl rfl rfl rfl (.refl _) (.loadI on_2_A (by assumption) rfl (by omega)) ?_
  refine .m rfl rfl rfl rfl (.refl _) (.cmp rfl rfl rfl) ?_
  refine .m rfl rfl rfl rfl (.refl _) (.assign rfl) ?_
  refine .done ?_
  refine hK3 _ _ ?_
  refine .ret ?_
  -- leaf e1
  refine hret _ _ ?_
  refine ⟨_, rfl, ?_⟩
  exact ⟨congrArg _ (by rw [Bool.eq_iff_iff, B_iff]; simp [Tra.Sq, Cat.th]), hle⟩
theorem l07Parallel_c {f f' : Fun} {p p' : FunP} {H : GHeap} (hin : f.In H p := by assumption) (hin' : f'.In H p' := by assumption) (hs : f.Small := by assumption) (hs' : f'.Small := by assumption) :
    GCalls Try.prog 51 [.agg (f.cells p).toArray, .agg (f'.cells p').toArray] H (Ret (.bool (B (f.s = f'.s ∧ f.t = f'.t))) H) := by
  refine GCalls.ret rfl ?_
  obtain ⟨m1, m2, m3, m4⟩ := hs
  obtain ⟨n1, n2, n3, n4⟩ := hs'
  refine GCalls.body (N := 17) (rs := [.tmp 4]) Try.func51 rfl rfl rfl rfl (fun Qx hret hend => ?_)
  refine .forget (fr' := [(0, some _), (1, some _)]) ⟨rfl, rfl, trivial⟩ ?_
  refine .seq (fun K1 hK1 => ?_)
  refine .region ?_
  refine .d rfl rfl rfl (.box rfl sz_33_E rfl CIs.mk) ?_
  show GRun _ _ _ _ _ _ (H.push (.row (f.cells p) 33 true))
  have hle := GHeap.le_push H (.row (f.cells p) 33 true)
  have hb : Fun.At (H.push (.row (f.cells p) 33 true)) H.next 0 f p := ⟨Mem.new _ _ _ _, hin.mono hle⟩
  generalize H.push (.row (f.cells p) 33 true) = H1 at *
  refine .d rfl rfl rfl (.box rfl sz_33_E rfl CIs.mk) ?_
  show GRun _ _ _ _ _ _ (H1.push (.row (f'.cells p') 33 true))
  have hle1 := GHeap.le_push H1 (.row (f'.cells p') 33 true)
  have hb' : Fun.At (H1.push (.row (f'.cells p') 33 true)) H1.next 0 f' p' := ⟨Mem.new _ _ _ _, (hin'.mono hle).mono hle1⟩
  replace hb := hb.mono hle1
  replace hle := hle.trans hle1
  generalize H1.push (.row (f'.cells p') 33 true) = H3 at *
  obtain ⟨fs, ft, c10, c11, j1, j2⟩ := hb.get
  obtain ⟨gs, gt, d10, d11, l1, l2⟩ := hb'.get
  have hms : MemN _ _ _ _ _ := ⟨rfl, fs.1⟩
  have hmt : MemN _ _ _ _ _ := ⟨rfl, ft.1⟩
  have hns : MemN _ _ _ _ _ := ⟨rfl, gs.1⟩
  have hnt : MemN _ _ _ _ _ := ⟨rfl, gt.1⟩
  have ims := fs.2
  have imt := ft.2
  have ins := gs.2
  have int := gt.2
  refine .m rfl rfl rfl (.assign rfl) ?_
  refine .nil ?_
  refine hK1 _ _ ?_
  refine .seq (fun K2 hK2 => ?_)
  refine .region ?_
  refine .m rfl rfl rfl (.fieldAddr fo_33_0_E rfl) ?_
  refine .m rfl rfl rfl (.loadM ag_31_D rfl (by assumption)) ?_
  refine .m rfl rfl rfl (.fieldAddr fo_33_0_E rfl) ?_
  refine .m rfl rfl rfl (.loadM ag_31_D rfl (by assumption)) ?_
  refine .callQ rfl rfl rfl rfl @Try.call74 rfl (l02Same_c) ?_
  refine .m rfl rfl rfl (.move rfl) ?_
  refine .split (fun h10 => ?_) (fun h10 => ?_)
  ·
   try simp only [sps] at h10
   refine .mg rfl rfl rfl rfl rfl (.fieldAddr fo_33_1_E rfl) ?_
   refine .mg rfl rfl rfl rfl rfl (.loadM ag_31_D rfl (by assumption)) ?_
   refine .mg rfl rfl rfl rfl rfl (.fieldAddr fo_33_1_E rfl) ?_
   refine .mg rfl rfl rfl rfl rfl (.loadM ag_31_D rfl (by assumption)) ?_
   refine .callQg rfl rfl rfl rfl rfl rfl @Try.call74 rfl (l02Same_c) ?_
   refine .m rfl rfl rfl (.pickT rfl rfl) ?_
   refine .m rfl rfl rfl (.assign rfl) ?_
   refine .nil ?_
   refine hK2 _ _ ?_
   refine .ret ?_
   -- leaf e1
   refine hret _ _ ?_
   refine ⟨_, rfl, ?_⟩
   exact ⟨congrArg _ (by rw [Bool.eq_iff_iff, B_iff]; first | (simp only [B_iff]; simp_all) | simp_all [B_iff, B_not]), hle⟩
  ·
   try simp only [sps] at h10
   refine .sg rfl rfl rfl rfl rfl ?_
   refine .sg rfl rfl rfl rfl rfl ?_
   refine .sg rfl rfl rfl rfl rfl ?_
   refine .sg rfl rfl rfl rfl rfl ?_
   refine .sg rfl rfl rfl rfl rfl ?_
   refine .m rfl rfl rfl (.pickF rfl rfl) ?_
   refine .m rfl rfl rfl (.assign rfl) ?_
   refine .nil ?_
   refine hK2 _ _ ?_
   refine .ret ?_
   -- leaf e2
   refine hret _ _ ?_
   refine ⟨_, rfl, ?_⟩
   exact ⟨congrArg _ (by rw [Bool.eq_iff_iff, B_iff]; first | (simp only [B_iff]; simp_all) | simp_all [B_iff, B_not]), hle⟩
theorem l06Is_c {f : Fun} {p : FunP} {H : GHeap} (hin : f.In H p := by assumption) (hsm : f.Small := by assumption) : GCalls Try.prog 43 [.agg (f.cells p).toArray] H (Ret (.bool (B f.Is)) H) := by
  refine GCalls.ret rfl ?_
  obtain ⟨m1, m2, m3, m4⟩ := hsm
  have m1' := m1
  have m2' := m2
  obtain ⟨n1, n2, n3, n4, n5, n6⟩ := m1'
  obtain ⟨k1, k2, k3, k4, k5, k6⟩ := m2'
  refine GCalls.body (N := 181) (rs := [.tmp 2]) Try.func43 rfl rfl rfl rfl (fun Qx hret hend => ?_)
  refine .forget (fr' := [(0, some _)]) ⟨rfl, trivial⟩ ?_
  refine .seq (fun K1 hK1 => ?_)
  refine .region ?_
  refine .d rfl rfl rfl (.box rfl sz_33_E rfl CIs.mk) ?_
  show GRun _ _ _ _ _ _ (H.push (.row (f.cells p) 33 true))
  have hle := GHeap.le_push H (.row (f.cells p) 33 true)
  have hb : Fun.At (H.push (.row (f.cells p) 33 true)) H.next 0 f p := ⟨Mem.new _ _ _ _, hin.mono hle⟩
  generalize H.push (.row (f.cells p) 33 true) = H1 at *
  generalize H.next = g at *
  obtain ⟨fs, ft, c10, c11, j1, j2⟩ := hb.get
  have hm : MemN _ _ _ _ _ := ⟨rfl, hb.1⟩
  have hin1 := hb.2
  have hms : MemN _ _ _ _ _ := ⟨rfl, fs.1⟩
  have hins1 := fs.2
  have hmt : MemN _ _ _ _ _ := ⟨rfl, ft.1⟩
  have hint1 := ft.2
  refine .m rfl rfl rfl (.assign rfl) ?_
  refine .nil ?_
  refine hK1 _ _ ?_
  refine .seq (fun K2 hK2 => ?_)
  refine .regionD mixed_orders_B (.q 0 (.q 1 (.q 2 (.q 3 (.or (.c 4 1 (.c 5 1 (.c 6 1 (.c 7 0 .done)))) (.c 5 1 (.c 4 1 (.c 6 1 (.c 7 0 .done))))))))) (by kernel_rfl) ?_
  refine .m rfl rfl rfl rfl (.refl _) (.fieldAddr fo_33_0_E rfl) ?_
  refine .m rfl rfl rfl rfl (.refl _) (.loadM ag_31_D rfl (by assumption)) ?_
  refine .m rfl rfl rfl rfl (.refl _) (.fieldAddr fo_33_1_E rfl) ?_
  refine .m rfl rfl rfl rfl (.refl _) (.loadM ag_31_D rfl (by assumption)) ?_
  refine .two [(1, some _), (2, some _)] rfl rfl rfl rfl rfl rfl rfl rfl rfl rfl rfl rfl rfl rfl rfl rfl rfl rfl ze_31_E rfl sz_31_D rfl rfl rfl rfl rfl (by rfl) (by rfl) rfl rfl rfl rfl rfl ⟨rfl, rfl, trivial⟩ rfl rfl (.refl _) ?_
  intro g3 g4 H2 fr2 hle2 hga hgb hg3 hg4 hsub
  replace hle := hle.trans hle2
  obtain ⟨fs, ft, c10, c11, j1, j2⟩ := (hb.mono hle2).get
  have k3 : Cat.At H2 g3 0 f.s p.s := ⟨Mem.of_get hg3, fs.2⟩
  have k4 : Cat.At H2 g4 0 f.t p.t := ⟨Mem.of_get hg4, ft.2⟩
  have hm3 : MemN _ _ _ _ _ := ⟨rfl, k3.1⟩
  have hm4 : MemN _ _ _ _ _ := ⟨rfl, k4.1⟩
  have im3 := k3.2
  have im4 := k4.2
  obtain ⟨c0, c1, c2, c3, c4, i1, i2, i3, i4⟩ := k3.get
  obtain ⟨x0, x1, x2, x3, x4, y1, y2, y3, y4⟩ := k4.get
  refine hK2 _ _ ?_
  refine .forget hsub ?_
  refine .seq (fun K3 hK3 => ?_)
  refine .seq (fun K4 hK4 => ?_)
  refine .region ?_
  refine .m rfl rfl rfl (.loadM ag_31_D rfl (by assumption)) ?_
  refine .callQ rfl rfl rfl rfl @Try.call64 rfl (l02Is_c) ?_
  refine .m rfl rfl rfl (.not rfl) ?_
  refine .m rfl rfl rfl (.move rfl) ?_
  refine .split (fun h16 => ?_) (fun h16 => ?_)
  ·
   try simp only [sps] at h16
   refine .sg rfl rfl rfl rfl rfl ?_
   refine .sg rfl rfl rfl rfl rfl ?_
   refine .sg rfl rfl rfl rfl rfl ?_
   refine .m rfl rfl rfl (.pickT rfl rfl) ?_
   refine .m rfl rfl rfl (.move rfl) ?_
   refine .sg rfl rfl rfl rfl rfl ?_
   refine .sg rfl rfl rfl rfl rfl ?_
   refine .sg rfl rfl rfl rfl rfl ?_
   refine .sg rfl rfl rfl rfl rfl ?_
   refine .sg rfl rfl rfl rfl rfl ?_
   refine .sg rfl rfl rfl rfl rfl ?_
   refine .m rfl rfl rfl (.pickT rfl rfl) ?_
   refine .m rfl rfl rfl (.move rfl) ?_
   refine .sg rfl rfl rfl rfl rfl ?_
   refine .sg rfl rfl rfl rfl rfl ?_
   refine .sg rfl rfl rfl rfl rfl ?_
   refine .sg rfl rfl rfl rfl rfl ?_
   refine .sg rfl rfl rfl rfl rfl ?_
   refine .sg rfl rfl rfl rfl rfl ?_
   refine .sg rfl rfl rfl rfl rfl ?_
   refine .m rfl rfl rfl (.pickT rfl rfl) ?_
   refine .nil ?_
   refine hK4 _ _ ?_
   refine .condT rfl ?_
   refine .seq (fun K5 hK5 => ?_)
   refine .region ?_
   refine .m rfl rfl rfl (.assign rfl) ?_
   refine .nil ?_
   refine hK5 _ _ ?_
   refine .ret ?_
   -- leaf e1
   refine hret _ _ ?_
   refine ⟨_, rfl, ?_⟩
   exact ⟨congrArg _ (B_false fun hI => h16 hI.1), hle⟩
  ·
   try simp only [sps] at h16
   refine .mg rfl rfl rfl rfl rfl (.loadM ag_31_D rfl (by assumption)) ?_
   refine .callQg rfl rfl rfl rfl rfl rfl @Try.call64 rfl (l02Is_c) ?_
   refine .mg rfl rfl rfl rfl rfl (.not rfl) ?_
   refine .m rfl rfl rfl (.pickF rfl rfl) ?_
   refine .m rfl rfl rfl (.move rfl) ?_
   refine .split (fun h21 => ?_) (fun h21 => ?_)
   ·
    try simp only [sps] at h21
    refine .sg rfl rfl rfl rfl rfl ?_
    refine .sg rfl rfl rfl rfl rfl ?_
    refine .sg rfl rfl rfl rfl rfl ?_
    refine .sg rfl rfl rfl rfl rfl ?_
    refine .sg rfl rfl rfl rfl rfl ?_
    refine .sg rfl rfl rfl rfl rfl ?_
    refine .m rfl rfl rfl (.pickT rfl rfl) ?_
    refine .m rfl rfl rfl (.move rfl) ?_
    refine .sg rfl rfl rfl rfl rfl ?_
    refine .sg rfl rfl rfl rfl rfl ?_
    refine .sg rfl rfl rfl rfl rfl ?_
    refine .sg rfl rfl rfl rfl rfl ?_
    refine .sg rfl rfl rfl rfl rfl ?_
    refine .sg rfl rfl rfl rfl rfl ?_
    refine .sg rfl rfl rfl rfl rfl ?_
    refine .m rfl rfl rfl (.pickT rfl rfl) ?_
    refine .nil ?_
    refine hK4 _ _ ?_
    refine .condT rfl ?_
    refine .seq (fun K6 hK6 => ?_)
    refine .region ?_
    refine .m rfl rfl rfl (.assign rfl) ?_
    refine .nil ?_
    refine hK6 _ _ ?_
    refine .ret ?_
    -- leaf e2
    refine hret _ _ ?_
    refine ⟨_, rfl, ?_⟩
    exact ⟨congrArg _ (B_false fun hI => h21 hI.2.1), hle⟩
   ·
    simp only [B_iff, Bool.not_eq_false', Bool.not_eq_true'] at h21
    have hS := h16.1
    have hT := h21.1
    have qs1 := hS.tl
    have qs2 := hS.n40
    have qs3 := hS.il
    have qs4 := hS.obj
    have qs5 := hS.cl
    have qt1 := hT.tl
    have qt2 := hT.n40
    have qt3 := hT.il
    have qt4 := hT.obj
    have qt5 := hT.cl
    refine .mg rfl rfl rfl rfl rfl (.fieldAddr fo_33_2_E rfl) ?_
    refine .mg rfl rfl rfl rfl rfl (.load on_22_B rfl (by assumption)) ?_
    refine .mg rfl rfl rfl rfl rfl (.len sl_22_A rfl) ?_
    refine .mg rfl rfl rfl rfl rfl (.fieldAddr fo_31_0_B rfl) ?_
    refine .mg rfl rfl rfl rfl rfl (.load on_2_A rfl (by assumption)) ?_
    refine .mg rfl rfl rfl rfl rfl (.cmp rfl rfl rfl) ?_
    refine .m rfl rfl rfl (.pickF rfl rfl) ?_
    refine .m rfl rfl rfl (.move rfl) ?_
    refine .split (fun h29 => ?_) (fun h29 => ?_)
    ·
     try simp only [sps] at h29
     refine .sg rfl rfl rfl rfl rfl ?_
     refine .sg rfl rfl rfl rfl rfl ?_
     refine .sg rfl rfl rfl rfl rfl ?_
     refine .sg rfl rfl rfl rfl rfl ?_
     refine .sg rfl rfl rfl rfl rfl ?_
     refine .sg rfl rfl rfl rfl rfl ?_
     refine .sg rfl rfl rfl rfl rfl ?_
     refine .m rfl rfl rfl (.pickT rfl rfl) ?_
     refine .nil ?_
     refine hK4 _ _ ?_
     refine .condT rfl ?_
     refine .seq (fun K7 hK7 => ?_)
     refine .region ?_
     refine .m rfl rfl rfl (.assign rfl) ?_
     refine .nil ?_
     refine hK7 _ _ ?_
     refine .ret ?_
     -- leaf e3
     refine hret _ _ ?_
     refine ⟨_, rfl, ?_⟩
     exact ⟨congrArg _ (B_false fun hI => by have := hI.2.2.ol; omega), hle⟩
    ·
     try simp only [sps] at h29
     refine .mg rfl rfl rfl rfl rfl (.fieldAddr fo_33_3_E rfl) ?_
     refine .mg rfl rfl rfl rfl rfl (.load on_22_B rfl (by assumption)) ?_
     refine .mg rfl rfl rfl rfl rfl (.len sl_22_A rfl) ?_
     refine .mg rfl rfl rfl rfl rfl (.fieldAddr fo_31_1_B rfl) ?_
     refine .mg rfl rfl rfl rfl rfl (.load on_22_B rfl (by assumption)) ?_
     refine .mg rfl rfl rfl rfl rfl (.len sl_22_A rfl) ?_
     refine .mg rfl rfl rfl rfl rfl (.cmp rfl rfl rfl) ?_
     refine .m rfl rfl rfl (.pickF rfl rfl) ?_
     refine .nil ?_
     refine hK4 _ _ ?_
     refine .cond rfl (fun h37 => ?_) (fun h37 => ?_)
     ·
      try simp only [sps] at h37
      refine .seq (fun K8 hK8 => ?_)
      refine .region ?_
      refine .m rfl rfl rfl (.assign rfl) ?_
      refine .nil ?_
      refine hK8 _ _ ?_
      refine .ret ?_
      -- leaf e4
      refine hret _ _ ?_
      refine ⟨_, rfl, ?_⟩
      exact ⟨congrArg _ (B_false fun hI => by have := hI.2.2.al; omega), hle⟩
     ·
      try simp only [sps] at h37
      refine .skip ?_
      refine hK3 _ _ ?_
      refine .seq (fun K9 hK9 => ?_)
      refine .seq (fun K10 hK10 => ?_)
      refine .region ?_
      refine .m rfl rfl rfl (.fieldAddr fo_31_0_B rfl) ?_
      refine .m rfl rfl rfl (.load on_2_A rfl (by assumption)) ?_
      refine .m rfl rfl rfl (.fieldAddr fo_33_2_E rfl) ?_
      refine .m rfl rfl rfl (.load on_22_B rfl (by assumption)) ?_
      refine .callQ rfl rfl rfl rfl @Try.call65 rfl (l01Map_c) ?_
      refine .m rfl rfl rfl (.not rfl) ?_
      refine .m rfl rfl rfl (.move rfl) ?_
      refine .split (fun h44 => ?_) (fun h44 => ?_)
      ·
       try simp only [sps] at h44
       refine .sg rfl rfl rfl rfl rfl ?_
       refine .sg rfl rfl rfl rfl rfl ?_
       refine .sg rfl rfl rfl rfl rfl ?_
       refine .sg rfl rfl rfl rfl rfl ?_
       refine .sg rfl rfl rfl rfl rfl ?_
       refine .sg rfl rfl rfl rfl rfl ?_
       refine .sg rfl rfl rfl rfl rfl ?_
       refine .m rfl rfl rfl (.pickT rfl rfl) ?_
       refine .nil ?_
       refine hK10 _ _ ?_
       refine .condT rfl ?_
       refine .seq (fun K11 hK11 => ?_)
       refine .region ?_
       refine .m rfl rfl rfl (.assign rfl) ?_
       refine .nil ?_
       refine hK11 _ _ ?_
       refine .ret ?_
       -- leaf e5
       refine hret _ _ ?_
       refine ⟨_, rfl, ?_⟩
       exact ⟨congrArg _ (B_false fun hI => by rw [allIn_iff.2 hI.2.2.ob] at h44; cases h44), hle⟩
      ·
       try simp only [sps] at h44
       refine .mg rfl rfl rfl rfl rfl (.fieldAddr fo_31_1_B rfl) ?_
       refine .mg rfl rfl rfl rfl rfl (.load on_22_B rfl (by assumption)) ?_
       refine .mg rfl rfl rfl rfl rfl (.len sl_22_A rfl) ?_
       refine .mg rfl rfl rfl rfl rfl (.fieldAddr fo_33_3_E rfl) ?_
       refine .mg rfl rfl rfl rfl rfl (.load on_22_B rfl (by assumption)) ?_
       refine .callQg rfl rfl rfl rfl rfl rfl @Try.call65 rfl (l01Map_c) ?_
       refine .mg rfl rfl rfl rfl rfl (.not rfl) ?_
       refine .m rfl rfl rfl (.pickF rfl rfl) ?_
       refine .nil ?_
       refine hK10 _ _ ?_
       refine .cond rfl (fun h52 => ?_) (fun h52 => ?_)
       ·
        try simp only [sps] at h52
        refine .seq (fun K12 hK12 => ?_)
        refine .region ?_
        refine .m rfl rfl rfl (.assign rfl) ?_
        refine .nil ?_
        refine hK12 _ _ ?_
        refine .ret ?_
        -- leaf e6
        refine hret _ _ ?_
        refine ⟨_, rfl, ?_⟩
        exact ⟨congrArg _ (B_false fun hI => by rw [allIn_iff.2 hI.2.2.ar] at h52; cases h52), hle⟩
       ·
        try simp only [sps] at h52
        refine .skip ?_
        refine hK9 _ _ ?_
        refine .seq (fun K13 hK13 => ?_)
        refine .seq (fun K14 hK14 => ?_)
        refine .region ?_
        refine .m rfl rfl rfl (.assign rfl) ?_
        refine .nil ?_
        refine hK14 _ _ ?_
        refine .block ?_
        refine .loopR (σ := Nat) [(1, some _), (3, some _), (4, some _)] (fun k => [(5, some (.int .i64 (k : Int)))]) (fun k H' => H2 = H' ∧ k ≤ f.s.src.length ∧ ∀ a, a < k → f.t.src.getD (f.ar.getD a 0).toNat 0 = f.ob.getD (f.s.src.getD a 0).toNat 0 ∧ f.t.tgt.getD (f.ar.getD a 0).toNat 0 = f.ob.getD (f.s.tgt.getD a 0).toNat 0) (fun k => f.s.src.length - k) (0) ⟨rfl, rfl, rfl, trivial⟩ ⟨rfl, trivial⟩ ?_ ?_
        ·
         refine ⟨rfl, ?_⟩
         exact ⟨by omega, fun x hx => by omega⟩
        ·
         rintro k _ ⟨rfl, hI⟩ KL1 hKL1
         refine .forget (fr' := [(5, some (.int .i64 (k : Int))), (1, some _), (3, some _), (4, some _)]) ⟨rfl, rfl, rfl, rfl, trivial⟩ ?_
         obtain ⟨hk1, ha1⟩ := hI
         refine .seq (fun K15 hK15 => ?_)
         refine .seq (fun K16 hK16 => ?_)
         refine .region ?_
         refine .m rfl rfl rfl (.move rfl) ?_
         refine .m rfl rfl rfl (.fieldAddr fo_31_1_B rfl) ?_
         refine .m rfl rfl rfl (.load on_22_B rfl (by assumption)) ?_
         refine .m rfl rfl rfl (.len sl_22_A rfl) ?_
         refine .m rfl rfl rfl (.cmp rfl rfl rfl) ?_
         refine .nil ?_
         refine hK16 _ _ ?_
         refine .cond rfl (fun h57 => ?_) (fun h57 => ?_)
         ·
          try simp only [sps] at h57
          refine .skip ?_
          refine hK15 _ _ ?_
          refine .seq (fun K17 hK17 => ?_)
          refine .block ?_
          refine .seq (fun K18 hK18 => ?_)
          refine .regionD mixed_orders_B (.q 0 (.q 1 (.q 2 (.q 3 (.q 4 (.q 5 (.q 6 (.q 7 (.q 8 (.q 9 (.q 10 (.q 11 (.q 12 (.q 13 (.q 14 (.q 15 (.q 16 (.q 17 (.q 18 (.q 19 (.q 20 (.q 21 (.q 22 (.q 23 (.q 24 (.q 25 (.q 26 (.q 27 (.q 28 (.q 29 (.q 30 (.q 31 (.q 32 (.q 33 (.q 34 (.q 35 (.q 36 (.q 37 (.q 38 (.q 39 (.done))))))))))))))))))))))))))))))))))))))))) (by kernel_rfl) ?_
          have q1 := h52 k (by omega)
          have q2 := hS.src k (by omega)
          have q3 := hS.tgt k (by omega)
          refine .m rfl rfl rfl rfl (.refl _) (.fieldAddr fo_31_1_B rfl) ?_
          refine .m rfl rfl rfl rfl (.refl _) (.load on_22_B rfl (by assumption)) ?_
          refine .m rfl rfl rfl rfl (.refl _) (.fieldAddr fo_33_3_E rfl) ?_
          refine .m rfl rfl rfl rfl (.refl _) (.load on_22_B rfl (by assumption)) ?_
          refine .m rfl rfl rfl rfl (.refl _) (.move rfl) ?_
          refine .m rfl rfl rfl rfl (.refl _) (.idxN sl_22_A (by assumption) rfl rfl (by omega)) ?_
          refine .m rfl rfl rfl rfl (.refl _) (.loadI on_2_A (by assumption) rfl (by omega)) ?_
          refine .m rfl rfl rfl rfl (.refl _) (.idx1 sl_22_A (by assumption) rfl rfl (by omega) (by omega)) ?_
          refine .m rfl rfl rfl rfl (.refl _) (.loadI on_2_A (by assumption) rfl (by omega)) ?_
          refine .m rfl rfl rfl rfl (.refl _) (.fieldAddr fo_33_2_E rfl) ?_
          refine .m rfl rfl rfl rfl (.refl _) (.load on_22_B rfl (by assumption)) ?_
          refine .m rfl rfl rfl rfl (.refl _) (.fieldAddr fo_31_1_B rfl) ?_
          refine .m rfl rfl rfl rfl (.refl _) (.load on_22_B rfl (by assumption)) ?_
          refine .m rfl rfl rfl rfl (.refl _) (.move rfl) ?_
          refine .m rfl rfl rfl rfl (.refl _) (.idxN sl_22_A (by assumption) rfl rfl (by omega)) ?_
          refine .m rfl rfl rfl rfl (.refl _) (.loadI on_2_A (by assumption) rfl (by omega)) ?_
          refine .m rfl rfl rfl rfl (.refl _) (.idx1 sl_22_A (by assumption) rfl rfl (by omega) (by omega)) ?_
          refine .m rfl rfl rfl rfl (.refl _) (.loadI on_2_A (by assumption) rfl (by omega)) ?_
          refine .m rfl rfl rfl rfl (.refl _) (.cmp rfl rfl rfl) ?_
          refine .m rfl rfl rfl rfl (.refl _) (.move rfl) ?_
          refine .split (fun h79 => ?_) (fun h79 => ?_)
          ·
           try simp only [sps] at h79
           refine .sg rfl rfl rfl rfl rfl rfl ?_
           refine .sg rfl rfl rfl rfl rfl rfl ?_
           refine .sg rfl rfl rfl rfl rfl rfl ?_
           refine .sg rfl rfl rfl rfl rfl rfl ?_
           refine .sg rfl rfl rfl rfl rfl rfl ?_
           refine .sg rfl rfl rfl rfl rfl rfl ?_
           refine .sg rfl rfl rfl rfl rfl rfl ?_
           refine .sg rfl rfl rfl rfl rfl rfl ?_
           refine .sg rfl rfl rfl rfl rfl rfl ?_
           refine .sg rfl rfl rfl rfl rfl rfl ?_
           refine .sg rfl rfl rfl rfl rfl rfl ?_
           refine .sg rfl rfl rfl rfl rfl rfl ?_
           refine .sg rfl rfl rfl rfl rfl rfl ?_
           refine .sg rfl rfl rfl rfl rfl rfl ?_
           refine .sg rfl rfl rfl rfl rfl rfl ?_
           refine .sg rfl rfl rfl rfl rfl rfl ?_
           refine .sg rfl rfl rfl rfl rfl rfl ?_
           refine .sg rfl rfl rfl rfl rfl rfl ?_
           refine .sg rfl rfl rfl rfl rfl rfl ?_
           refine .m rfl rfl rfl rfl (.refl _) (.pickT rfl rfl) ?_
           refine .done ?_
           refine hK18 _ _ ?_
           refine .condT rfl ?_
           refine .seq (fun K19 hK19 => ?_)
           refine .region ?_
           refine .m rfl rfl rfl (.assign rfl) ?_
           refine .nil ?_
           refine hK19 _ _ ?_
           refine .ret ?_
           -- leaf e7
           refine hret _ _ ?_
           refine ⟨_, rfl, ?_⟩
           exact ⟨congrArg _ (B_false fun hI => h79 (hI.2.2.ends k (by omega)).1), hle⟩
          ·
           try simp only [sps] at h79
           refine .mg rfl rfl rfl rfl rfl rfl (.refl _) (.fieldAddr fo_31_2_B rfl) ?_
           refine .mg rfl rfl rfl rfl rfl rfl (.refl _) (.load on_22_B rfl (by assumption)) ?_
           refine .mg rfl rfl rfl rfl rfl rfl (.refl _) (.fieldAddr fo_33_3_E rfl) ?_
           refine .mg rfl rfl rfl rfl rfl rfl (.refl _) (.load on_22_B rfl (by assumption)) ?_
           refine .mg rfl rfl rfl rfl rfl rfl (.refl _) (.move rfl) ?_
           refine .mg rfl rfl rfl rfl rfl rfl (.refl _) (.idxN sl_22_A (by assumption) rfl rfl (by omega)) ?_
           refine .mg rfl rfl rfl rfl rfl rfl (.refl _) (.loadI on_2_A (by assumption) rfl (by omega)) ?_
           refine .mg rfl rfl rfl rfl rfl rfl (.refl _) (.idx1 sl_22_A (by assumption) rfl rfl (by omega) (by omega)) ?_
           refine .mg rfl rfl rfl rfl rfl rfl (.refl _) (.loadI on_2_A (by assumption) rfl (by omega)) ?_
           refine .mg rfl rfl rfl rfl rfl rfl (.refl _) (.fieldAddr fo_33_2_E rfl) ?_
           refine .mg rfl rfl rfl rfl rfl rfl (.refl _) (.load on_22_B rfl (by assumption)) ?_
           refine .mg rfl rfl rfl rfl rfl rfl (.refl _) (.fieldAddr fo_31_2_B rfl) ?_
           refine .mg rfl rfl rfl rfl rfl rfl (.refl _) (.load on_22_B rfl (by assumption)) ?_
           refine .mg rfl rfl rfl rfl rfl rfl (.refl _) (.move rfl) ?_
           refine .mg rfl rfl rfl rfl rfl rfl (.refl _) (.idxN sl_22_A (by assumption) rfl rfl (by omega)) ?_
           refine .mg rfl rfl rfl rfl rfl rfl (.refl _) (.loadI on_2_A (by assumption) rfl (by omega)) ?_
           refine .mg rfl rfl rfl rfl rfl rfl (.refl _) (.idx1 sl_22_A (by assumption) rfl rfl (by omega) (by omega)) ?_
           refine .mg rfl rfl rfl rfl rfl rfl (.refl _) (.loadI on_2_A (by assumption) rfl (by omega)) ?_
           refine .mg rfl rfl rfl rfl rfl rfl (.refl _) (.cmp rfl rfl rfl) ?_
           refine .m rfl rfl rfl rfl (.refl _) (.pickF rfl rfl) ?_
           refine .done ?_
           refine hK18 _ _ ?_
           refine .cond rfl (fun h99 => ?_) (fun h99 => ?_)
           ·
            try simp only [sps] at h99
            refine .seq (fun K20 hK20 => ?_)
            refine .region ?_
            refine .m rfl rfl rfl (.assign rfl) ?_
            refine .nil ?_
            refine hK20 _ _ ?_
            refine .ret ?_
            -- leaf e8
            refine hret _ _ ?_
            refine ⟨_, rfl, ?_⟩
            exact ⟨congrArg _ (B_false fun hI => h99 (hI.2.2.ends k (by omega)).2), hle⟩
           ·
            try simp only [sps] at h99
            refine .skip ?_
            refine hK17 _ _ ?_
            refine .region ?_
            refine .m rfl rfl rfl (.move rfl) ?_
            refine .m rfl rfl rfl (.add rfl rfl rfl (by omega) (by omega)) ?_
            refine .m rfl rfl rfl (.assign rfl) ?_
            refine .nil ?_
            refine hKL1 (k + 1) _ _ ?_ ?_ ⟨rfl, rfl, rfl, rfl, trivial⟩
            ·
             refine ⟨rfl, ?_⟩
             refine ⟨by omega, fun x hx => ?_⟩
             by_cases e : x < k
             · exact ha1 x e
             · obtain rfl : x = k := by omega
               exact ⟨h79, h99⟩
            ·
             omega
         ·
          try simp only [sps] at h57
          refine .exit ?_
          refine hK13 _ _ ?_
          refine .seq (fun K21 hK21 => ?_)
          refine .seq (fun K22 hK22 => ?_)
          refine .region ?_
          refine .m rfl rfl rfl (.assign rfl) ?_
          refine .nil ?_
          refine hK22 _ _ ?_
          refine .block ?_
          refine .loopR (σ := Nat) [(1, some _), (3, some _), (4, some _)] (fun k => [(6, some (.int .i64 (k : Int)))]) (fun k H' => H2 = H' ∧ (k : Int) ≤ f.s.obj ∧ ∀ x, x < k → f.ar.getD (f.s.idn.getD x 0).toNat 0 = f.t.idn.getD (f.ob.getD x 0).toNat 0) (fun k => f.s.idn.length - k) (0) ⟨rfl, rfl, rfl, trivial⟩ ⟨rfl, trivial⟩ ?_ ?_
          ·
           refine ⟨rfl, ?_⟩
           exact ⟨by omega, fun x hx => by omega⟩
          ·
           rintro k _ ⟨rfl, hI⟩ KL2 hKL2
           refine .forget (fr' := [(6, some (.int .i64 (k : Int))), (1, some _), (3, some _), (4, some _)]) ⟨rfl, rfl, rfl, rfl, trivial⟩ ?_
           obtain ⟨hk2, ha2⟩ := hI
           refine .seq (fun K23 hK23 => ?_)
           refine .seq (fun K24 hK24 => ?_)
           refine .region ?_
           refine .m rfl rfl rfl (.move rfl) ?_
           refine .m rfl rfl rfl (.fieldAddr fo_31_0_B rfl) ?_
           refine .m rfl rfl rfl (.load on_2_A rfl (by assumption)) ?_
           refine .m rfl rfl rfl (.cmp rfl rfl rfl) ?_
           refine .nil ?_
           refine hK24 _ _ ?_
           refine .cond rfl (fun h103 => ?_) (fun h103 => ?_)
           ·
            try simp only [sps] at h103
            refine .skip ?_
            refine hK23 _ _ ?_
            refine .seq (fun K25 hK25 => ?_)
            refine .block ?_
            refine .seq (fun K26 hK26 => ?_)
            refine .regionD mixed_orders_B (.q 0 (.q 1 (.q 2 (.q 3 (.q 4 (.q 5 (.q 6 (.q 7 (.q 8 (.q 9 (.q 10 (.q 11 (.q 12 (.q 13 (.q 14 (.q 15 (.q 16 (.q 17 (.q 18 (.done)))))))))))))))))))) (by kernel_rfl) ?_
            have q1 := hS.idn k (by omega)
            have q2 := h44 k (by omega)
            refine .m rfl rfl rfl rfl (.refl _) (.fieldAddr fo_33_3_E rfl) ?_
            refine .m rfl rfl rfl rfl (.refl _) (.load on_22_B rfl (by assumption)) ?_
            refine .m rfl rfl rfl rfl (.refl _) (.fieldAddr fo_31_3_B rfl) ?_
            refine .m rfl rfl rfl rfl (.refl _) (.load on_22_B rfl (by assumption)) ?_
            refine .m rfl rfl rfl rfl (.refl _) (.move rfl) ?_
            refine .m rfl rfl rfl rfl (.refl _) (.idxN sl_22_A (by assumption) rfl rfl (by omega)) ?_
            refine .m rfl rfl rfl rfl (.refl _) (.loadI on_2_A (by assumption) rfl (by omega)) ?_
            refine .m rfl rfl rfl rfl (.refl _) (.idx1 sl_22_A (by assumption) rfl rfl (by omega) (by omega)) ?_
            refine .m rfl rfl rfl rfl (.refl _) (.loadI on_2_A (by assumption) rfl (by omega)) ?_
            refine .m rfl rfl rfl rfl (.refl _) (.fieldAddr fo_31_3_B rfl) ?_
            refine .m rfl rfl rfl rfl (.refl _) (.load on_22_B rfl (by assumption)) ?_
            refine .m rfl rfl rfl rfl (.refl _) (.fieldAddr fo_33_2_E rfl) ?_
            refine .m rfl rfl rfl rfl (.refl _) (.load on_22_B rfl (by assumption)) ?_
            refine .m rfl rfl rfl rfl (.refl _) (.move rfl) ?_
            refine .m rfl rfl rfl rfl (.refl _) (.idxN sl_22_A (by assumption) rfl rfl (by omega)) ?_
            refine .m rfl rfl rfl rfl (.refl _) (.loadI on_2_A (by assumption) rfl (by omega)) ?_
            refine .m rfl rfl rfl rfl (.refl _) (.idx1 sl_22_A (by assumption) rfl rfl (by omega) (by omega)) ?_
            refine .m rfl rfl rfl rfl (.refl _) (.loadI on_2_A (by assumption) rfl (by omega)) ?_
            refine .m rfl rfl rfl rfl (.refl _) (.cmp rfl rfl rfl) ?_
            refine .done ?_
            refine hK26 _ _ ?_
            refine .cond rfl (fun h124 => ?_) (fun h124 => ?_)
            ·
             try simp only [sps] at h124
             refine .seq (fun K27 hK27 => ?_)
             refine .region ?_
             refine .m rfl rfl rfl (.assign rfl) ?_
             refine .nil ?_
             refine hK27 _ _ ?_
             refine .ret ?_
             -- leaf e9
             refine hret _ _ ?_
             refine ⟨_, rfl, ?_⟩
             exact ⟨congrArg _ (B_false fun hI => h124 (hI.2.2.ids k (by omega))), hle⟩
            ·
             try simp only [sps] at h124
             refine .skip ?_
             refine hK25 _ _ ?_
             refine .region ?_
             refine .m rfl rfl rfl (.move rfl) ?_
             refine .m rfl rfl rfl (.add rfl rfl rfl (by omega) (by omega)) ?_
             refine .m rfl rfl rfl (.assign rfl) ?_
             refine .nil ?_
             refine hKL2 (k + 1) _ _ ?_ ?_ ⟨rfl, rfl, rfl, rfl, trivial⟩
             ·
              refine ⟨rfl, ?_⟩
              refine ⟨by omega, fun x hx => ?_⟩
              by_cases e : x < k
              · exact ha2 x e
              · obtain rfl : x = k := by omega
                exact h124
             ·
              omega
           ·
            try simp only [sps] at h103
            refine .exit ?_
            refine hK21 _ _ ?_
            refine .seq (fun K28 hK28 => ?_)
            refine .seq (fun K29 hK29 => ?_)
            refine .region ?_
            refine .m rfl rfl rfl (.assign rfl) ?_
            refine .nil ?_
            refine hK29 _ _ ?_
            refine .block ?_
            refine .loopR (σ := Nat) [(1, some _), (3, some _), (4, some _)] (fun k => [(7, some (.int .i64 (k : Int)))]) (fun k H' => H2 = H' ∧ k ≤ f.s.src.length ∧ ∀ a, a < k → ∀ b, b < f.s.src.length → f.s.tgt.getD a 0 = f.s.src.getD b 0 → f.A (f.s.th a b) = f.t.th (f.ar.getD a 0) (f.ar.getD b 0)) (fun k => f.s.src.length - k) (0) ⟨rfl, rfl, rfl, trivial⟩ ⟨rfl, trivial⟩ ?_ ?_
            ·
             refine ⟨rfl, ?_⟩
             exact ⟨by omega, fun x hx => by omega⟩
            ·
             rintro k _ ⟨rfl, hI⟩ KL3 hKL3
             refine .forget (fr' := [(7, some (.int .i64 (k : Int))), (1, some _), (3, some _), (4, some _)]) ⟨rfl, rfl, rfl, rfl, trivial⟩ ?_
             obtain ⟨hk3, ha3⟩ := hI
             refine .seq (fun K30 hK30 => ?_)
             refine .seq (fun K31 hK31 => ?_)
             refine .region ?_
             refine .m rfl rfl rfl (.move rfl) ?_
             refine .m rfl rfl rfl (.fieldAddr fo_31_1_B rfl) ?_
             refine .m rfl rfl rfl (.load on_22_B rfl (by assumption)) ?_
             refine .m rfl rfl rfl (.len sl_22_A rfl) ?_
             refine .m rfl rfl rfl (.cmp rfl rfl rfl) ?_
             refine .nil ?_
             refine hK31 _ _ ?_
             refine .cond rfl (fun h129 => ?_) (fun h129 => ?_)
             ·
              try simp only [sps] at h129
              refine .skip ?_
              refine hK30 _ _ ?_
              refine .seq (fun K32 hK32 => ?_)
              refine .block ?_
              refine .seq (fun K33 hK33 => ?_)
              refine .region ?_
              refine .m rfl rfl rfl (.assign rfl) ?_
              refine .nil ?_
              refine hK33 _ _ ?_
              refine .block ?_
              refine .loopR (σ := Nat) [(1, some _), (3, some _), (4, some _), (7, some _)] (fun j => [(8, some (.int .i64 (j : Int)))]) (fun j H' => H2 = H' ∧ j ≤ f.s.src.length ∧ ∀ b, b < j → f.s.tgt.getD k 0 = f.s.src.getD b 0 → f.A (f.s.th k b) = f.t.th (f.ar.getD k 0) (f.ar.getD b 0)) (fun j => f.s.src.length - j) (0) ⟨rfl, rfl, rfl, rfl, trivial⟩ ⟨rfl, trivial⟩ ?_ ?_
              ·
               refine ⟨rfl, ?_⟩
               exact ⟨by omega, fun x hx => by omega⟩
              ·
               rintro j _ ⟨rfl, hI⟩ KL4 hKL4
               refine .forget (fr' := [(8, some (.int .i64 (j : Int))), (1, some _), (3, some _), (4, some _), (7, some _)]) ⟨rfl, rfl, rfl, rfl, rfl, trivial⟩ ?_
               obtain ⟨hk4, ha4⟩ := hI
               refine .seq (fun K34 hK34 => ?_)
               refine .seq (fun K35 hK35 => ?_)
               refine .region ?_
               refine .m rfl rfl rfl (.move rfl) ?_
               refine .m rfl rfl rfl (.fieldAddr fo_31_1_B rfl) ?_
               refine .m rfl rfl rfl (.load on_22_B rfl (by assumption)) ?_
               refine .m rfl rfl rfl (.len sl_22_A rfl) ?_
               refine .m rfl rfl rfl (.cmp rfl rfl rfl) ?_
               refine .nil ?_
               refine hK35 _ _ ?_
               refine .cond rfl (fun h136 => ?_) (fun h136 => ?_)
               ·
                try simp only [sps] at h136
                refine .skip ?_
                refine hK34 _ _ ?_
                refine .seq (fun K36 hK36 => ?_)
                refine .block ?_
                refine .seq (fun K37 hK37 => ?_)
                refine .regionD mixed_orders_B (.q 0 (.q 1 (.q 2 (.q 3 (.q 4 (.q 5 (.q 6 (.q 7 (.q 8 (.q 9 (.q 10 (.q 11 (.q 12 (.q 13 (.q 14 (.q 15 (.q 16 (.q 17 (.q 18 (.q 19 (.q 20 (.q 21 (.q 22 (.q 23 (.q 24 (.q 25 (.q 26 (.q 27 (.q 28 (.q 29 (.q 30 (.q 31 (.q 32 (.q 33 (.q 34 (.q 35 (.q 36 (.q 37 (.q 38 (.q 39 (.q 40 (.q 41 (.done))))))))))))))))))))))))))))))))))))))))))) (by kernel_rfl) ?_
                have r1 := i4.2 k (by omega)
                have r1l := hS.row k (by omega)
                have q5 := hS.th_lt (f := k) (g := j) (by omega) (by omega)
                have q6 := hS.th_ge (f := k) (g := j) (by omega) (by omega)
                rw [Cat.th_nat] at q5 q6
                have r2 := h52 k (by omega)
                have r3 := h52 j (by omega)
                have r4 := hT.row (f.ar.getD k 0).toNat (by omega)
                have r5 := y4.2 (f.ar.getD k 0).toNat (by omega)
                refine .m rfl rfl rfl rfl (.refl _) (.fieldAddr fo_31_2_B rfl) ?_
                refine .m rfl rfl rfl rfl (.refl _) (.load on_22_B rfl (by assumption)) ?_
                refine .m rfl rfl rfl rfl (.refl _) (.move rfl) ?_
                refine .m rfl rfl rfl rfl (.refl _) (.idxN sl_22_A (by assumption) rfl rfl (by omega)) ?_
                refine .m rfl rfl rfl rfl (.refl _) (.loadI on_2_A (by assumption) rfl (by omega)) ?_
                refine .m rfl rfl rfl rfl (.refl _) (.fieldAddr fo_31_1_B rfl) ?_
                refine .m rfl rfl rfl rfl (.refl _) (.load on_22_B rfl (by assumption)) ?_
                refine .m rfl rfl rfl rfl (.refl _) (.move rfl) ?_
                refine .m rfl rfl rfl rfl (.refl _) (.idxN sl_22_A (by assumption) rfl rfl (by omega)) ?_
                refine .m rfl rfl rfl rfl (.refl _) (.loadI on_2_A (by assumption) rfl (by omega)) ?_
                refine .m rfl rfl rfl rfl (.refl _) (.cmp rfl rfl rfl) ?_
                refine .m rfl rfl rfl rfl (.refl _) (.move rfl) ?_
                refine .split (fun h150 => ?_) (fun h150 => ?_)
                ·
                 simp only [beq_iff_eq] at h150
                 have q7 := q6.2 h150
                 refine .mg rfl rfl rfl rfl rfl rfl (.refl _) (.fieldAddr fo_33_3_E rfl) ?_
                 refine .mg rfl rfl rfl rfl rfl rfl (.refl _) (.load on_22_B rfl (by assumption)) ?_
                 refine .mg rfl rfl rfl rfl rfl rfl (.refl _) (.fieldAddr fo_31_4_B rfl) ?_
                 refine .mg rfl rfl rfl rfl rfl rfl (.refl _) (.load on_23_B rfl (by assumption)) ?_
                 refine .mg rfl rfl rfl rfl rfl rfl (.refl _) (.move rfl) ?_
                 refine .mg rfl rfl rfl rfl rfl rfl (.refl _) (.idxN sl_23_B (Intss.sl (by assumption)) rfl rfl (by omega)) ?_
                 refine .mg rfl rfl rfl rfl rfl rfl (.refl _) (.loadR on_22_B (by assumption) rfl (by omega)) ?_
                 refine .mg rfl rfl rfl rfl rfl rfl (.refl _) (.move rfl) ?_
                 refine .mg rfl rfl rfl rfl rfl rfl (.refl _) (.idxN sl_22_A (by assumption) rfl rfl (by omega)) ?_
                 refine .mg rfl rfl rfl rfl rfl rfl (.refl _) (.loadI on_2_A (by assumption) rfl (by omega)) ?_
                 refine .mg rfl rfl rfl rfl rfl rfl (.refl _) (.idx1 sl_22_A (by assumption) rfl rfl (by omega) (by omega)) ?_
                 refine .mg rfl rfl rfl rfl rfl rfl (.refl _) (.loadI on_2_A (by assumption) rfl (by omega)) ?_
                 refine .mg rfl rfl rfl rfl rfl rfl (.refl _) (.fieldAddr fo_31_4_B rfl) ?_
                 refine .mg rfl rfl rfl rfl rfl rfl (.refl _) (.load on_23_B rfl (by assumption)) ?_
                 refine .mg rfl rfl rfl rfl rfl rfl (.refl _) (.fieldAddr fo_33_3_E rfl) ?_
                 refine .mg rfl rfl rfl rfl rfl rfl (.refl _) (.load on_22_B rfl (by assumption)) ?_
                 refine .mg rfl rfl rfl rfl rfl rfl (.refl _) (.move rfl) ?_
                 refine .mg rfl rfl rfl rfl rfl rfl (.refl _) (.idxN sl_22_A (by assumption) rfl rfl (by omega)) ?_
                 refine .mg rfl rfl rfl rfl rfl rfl (.refl _) (.loadI on_2_A (by assumption) rfl (by omega)) ?_
                 refine .mg rfl rfl rfl rfl rfl rfl (.refl _) (.idx1 sl_23_B (Intss.sl (by assumption)) rfl rfl (by omega) (by omega)) ?_
                 refine .mg rfl rfl rfl rfl rfl rfl (.refl _) (.loadR on_22_B (by assumption) rfl (by omega)) ?_
                 refine .mg rfl rfl rfl rfl rfl rfl (.refl _) (.fieldAddr fo_33_3_E rfl) ?_
                 refine .mg rfl rfl rfl rfl rfl rfl (.refl _) (.load on_22_B rfl (by assumption)) ?_
                 refine .mg rfl rfl rfl rfl rfl rfl (.refl _) (.move rfl) ?_
                 refine .mg rfl rfl rfl rfl rfl rfl (.refl _) (.idxN sl_22_A (by assumption) rfl rfl (by omega)) ?_
                 refine .mg rfl rfl rfl rfl rfl rfl (.refl _) (.loadI on_2_A (by assumption) rfl (by omega)) ?_
                 refine .mg rfl rfl rfl rfl rfl rfl (.refl _) (.idx1 sl_22_A (by assumption) rfl rfl (by omega) (by omega)) ?_
                 refine .mg rfl rfl rfl rfl rfl rfl (.refl _) (.loadI on_2_A (by assumption) rfl (by omega)) ?_
                 refine .mg rfl rfl rfl rfl rfl rfl (.refl _) (.cmp rfl rfl rfl) ?_
                 refine .m rfl rfl rfl rfl (.refl _) (.pickT rfl rfl) ?_
                 refine .done ?_
                 refine hK37 _ _ ?_
                 refine .cond rfl (fun h180 => ?_) (fun h180 => ?_)
                 ·
                  try simp only [sps] at h180
                  refine .seq (fun K38 hK38 => ?_)
                  refine .region ?_
                  refine .m rfl rfl rfl (.assign rfl) ?_
                  refine .nil ?_
                  refine hK38 _ _ ?_
                  refine .ret ?_
                  -- leaf e10
                  refine hret _ _ ?_
                  refine ⟨_, rfl, ?_⟩
                  exact ⟨congrArg _ (B_false fun hI => h180 (hI.2.2.th k (by omega) j (by omega) h150)), hle⟩
                 ·
                  try simp only [sps] at h180
                  refine .skip ?_
                  refine hK36 _ _ ?_
                  refine .region ?_
                  refine .m rfl rfl rfl (.move rfl) ?_
                  refine .m rfl rfl rfl (.add rfl rfl rfl (by omega) (by omega)) ?_
                  refine .m rfl rfl rfl (.assign rfl) ?_
                  refine .nil ?_
                  refine hKL4 (j + 1) _ _ ?_ ?_ ⟨rfl, rfl, rfl, rfl, rfl, trivial⟩
                  ·
                   refine ⟨rfl, ?_⟩
                   refine ⟨by omega, fun x hx => ?_⟩
                   by_cases e : x < j
                   · exact ha4 x e
                   · obtain rfl : x = j := by omega
                     first
                       | exact fun _ => h180
                       | exact fun e => absurd e h150
                  ·
                   omega
                ·
                 try simp only [sps] at h150
                 refine .sg rfl rfl rfl rfl rfl rfl ?_
                 refine .sg rfl rfl rfl rfl rfl rfl ?_
                 refine .sg rfl rfl rfl rfl rfl rfl ?_
                 refine .sg rfl rfl rfl rfl rfl rfl ?_
                 refine .sg rfl rfl rfl rfl rfl rfl ?_
                 refine .sg rfl rfl rfl rfl rfl rfl ?_
                 refine .sg rfl rfl rfl rfl rfl rfl ?_
                 refine .sg rfl rfl rfl rfl rfl rfl ?_
                 refine .sg rfl rfl rfl rfl rfl rfl ?_
                 refine .sg rfl rfl rfl rfl rfl rfl ?_
                 refine .sg rfl rfl rfl rfl rfl rfl ?_
                 refine .sg rfl rfl rfl rfl rfl rfl ?_
                 refine .sg rfl rfl rfl rfl rfl rfl ?_
                 refine .sg rfl rfl rfl rfl rfl rfl ?_
                 refine .sg rfl rfl rfl rfl rfl rfl ?_
                 refine .sg rfl rfl rfl rfl rfl rfl ?_
                 refine .sg rfl rfl rfl rfl rfl rfl ?_
                 refine .sg rfl rfl rfl rfl rfl rfl ?_
                 refine .sg rfl rfl rfl rfl rfl rfl ?_
                 refine .sg rfl rfl rfl rfl rfl rfl ?_
                 refine .sg rfl rfl rfl rfl rfl rfl ?_
                 refine .sg rfl rfl rfl rfl rfl rfl ?_
                 refine .sg rfl rfl rfl rfl rfl rfl ?_
                 refine .sg rfl rfl rfl rfl rfl rfl ?_
                 refine .sg rfl rfl rfl rfl rfl rfl ?_
                 refine .sg rfl rfl rfl rfl rfl rfl ?_
                 refine .sg rfl rfl rfl rfl rfl rfl ?_
                 refine .sg rfl rfl rfl rfl rfl rfl ?_
                 refine .sg rfl rfl rfl rfl rfl rfl ?_
                 refine .m rfl rfl rfl rfl (.refl _) (.pickF rfl rfl) ?_
                 refine .done ?_
                 refine hK37 _ _ ?_
                 refine .condF rfl ?_
                 refine .skip ?_
                 refine hK36 _ _ ?_
                 refine .region ?_
                 refine .m rfl rfl rfl (.move rfl) ?_
                 refine .m rfl rfl rfl (.add rfl rfl rfl (by omega) (by omega)) ?_
                 refine .m rfl rfl rfl (.assign rfl) ?_
                 refine .nil ?_
                 refine hKL4 (j + 1) _ _ ?_ ?_ ⟨rfl, rfl, rfl, rfl, rfl, trivial⟩
                 ·
                  refine ⟨rfl, ?_⟩
                  refine ⟨by omega, fun x hx => ?_⟩
                  by_cases e : x < j
                  · exact ha4 x e
                  · obtain rfl : x = j := by omega
                    first
                      | exact fun _ => h180
                      | exact fun e => absurd e h150
                 ·
                  omega
               ·
                try simp only [sps] at h136
                refine .exit ?_
                refine hK32 _ _ ?_
                refine .region ?_
                refine .m rfl rfl rfl (.move rfl) ?_
                refine .m rfl rfl rfl (.add rfl rfl rfl (by omega) (by omega)) ?_
                refine .m rfl rfl rfl (.assign rfl) ?_
                refine .nil ?_
                refine hKL3 (k + 1) _ _ ?_ ?_ ⟨rfl, rfl, rfl, rfl, trivial⟩
                ·
                 refine ⟨rfl, ?_⟩
                 refine ⟨by omega, fun x hx => ?_⟩
                 by_cases e : x < k
                 · exact ha3 x e
                 · obtain rfl : x = k := by omega
                   exact fun b hb => ha4 b (by omega)
                ·
                 omega
             ·
              try simp only [sps] at h129
              refine .exit ?_
              refine hK28 _ _ ?_
              refine .seq (fun K39 hK39 => ?_)
              refine .region ?_
              refine .m rfl rfl rfl (.assign rfl) ?_
              refine .nil ?_
              refine hK39 _ _ ?_
              refine .ret ?_
              -- leaf e11
              refine hret _ _ ?_
              refine ⟨_, rfl, ?_⟩
              exact ⟨congrArg _ (B_true ⟨h16, h21, by omega, by omega, h44, h52, fun a ha => ha1 a (by omega), fun x hx => ha2 x (by omega), fun a ha => ha3 a (by omega)⟩), hle⟩
end Go.Proofs.Ytnohkokoimmclaa
/- Steps that make or write memory, told by what holds behind them; lists that are gathered in loops. No condition. -/
namespace Go.GL
open Go.RowKit

/-- Not among these. -/
def out : List Nat → Nat → Prop
  | [], _ => True
  | g :: r, k => k ≠ g ∧ out r k
/-- All but some rows stay. -/
structure St (bs : List Nat) (H H' : GHeap) : Prop where
  nx : H.next ≤ H'.next
  same : ∀ k o, out bs k → H.get k = some o → H'.get k = some o
theorem St.refl (bs : List Nat) (H : GHeap) : St bs H H := ⟨Nat.le_refl _, fun _ _ _ h => h⟩
theorem GHeap.Le.st {H0 H H' : GHeap} {bs : List Nat} (h : H0.Le H) (s : St bs H H') (hg : ∀ k, k < H0.next → out bs k) : H0.Le H' :=
  ⟨Nat.le_trans h.1 s.nx, fun k o hk => s.same k o (hg k (GHeap.lt_of_get hk)) (h.2 k o hk)⟩
theorem St.le {bs : List Nat} {H0 H H' : GHeap} (s : St bs H0 H) (h : H.Le H') : St bs H0 H' := ⟨Nat.le_trans s.nx h.1, fun k o hk hg => h.2 k o (s.same k o hk hg)⟩
theorem St.st {bs cs : List Nat} {H0 H H' : GHeap} (s : St bs H0 H) (h : St cs H H') (hg : ∀ k, k < H0.next → out bs k → out cs k) : St bs H0 H' :=
  ⟨Nat.le_trans s.nx h.nx, fun k o hk h1 => h.same k o (hg k (GHeap.lt_of_get h1) hk) (s.same k o hk h1)⟩
theorem St.of_le {bs : List Nat} {H H' : GHeap} (h : H.Le H') : St bs H H' := ⟨h.1, fun k o _ hg => h.2 k o hg⟩
theorem St.keep {bs : List Nat} {b : Nat} {H H' : GHeap} (s : St bs H H') (hg : ∀ k, b ≤ k → out bs k) : Keep b H H' := fun k o hk h => s.same k o (hg k hk) h
theorem Keep.le {b : Nat} {H0 H H' : GHeap} (k : Keep b H0 H) (h : H.Le H') : Keep b H0 H' := fun g o hb hg => h.2 g o (k g o hb hg)
theorem Keep.st {bs : List Nat} {b : Nat} {H0 H H' : GHeap} (k : Keep b H0 H) (h : St bs H H') (hg : ∀ k, b ≤ k → k < H0.next → out bs k) : Keep b H0 H' := fun g o hb h1 => h.same g o (hg g hb (GHeap.lt_of_get h1)) (k g o hb h1)
theorem St.of_set {g : Nat} {H : GHeap} {o : Option GObj} : St [g] H (H.set g o) := ⟨by rw [GHeap.next_set]; exact Nat.le_refl _, fun k x hk h => by rw [GHeap.get_set_ne (Ne.symm hk.1)]; exact h⟩
theorem St.push {bs : List Nat} {H H' : GHeap} {o : GObj} (s : St bs H H') : St bs H (H'.push o) := ⟨by rw [GHeap.next_push]; have := s.nx; omega, fun k x hk h => GHeap.get_push_of (s.same k x hk h)⟩

section
variable {P : Program} {N : Nat} {ops : Array Oper} {Q : Slots → GHeap → Prop} {L : List (Oper × Nat)} {fr : Slots} {H Hb : GHeap} {o : Oper} {i : Nat} {t : Tree}
theorem CDo.mono {R R' : Option Value → GHeap → Prop} (h : CDo P o fr H R) (hi : ∀ v H', R v H' → R' v H') : CDo P o fr H R' :=
  .mk fun B w0 ρ a w hs hf next Qx hn => h.run B w0 ρ a w hs hf next Qx fun ρ' v c H' w' hR => hn ρ' v c H' w' (hi v H' hR)
theorem GTree.mono {Q' : Slots → GHeap → Prop} (hq : ∀ fr H, Q' fr H → Q fr H) : ∀ {t : Tree} {fr : Slots} {Hb H : GHeap}, GTree P N ops Q' t fr Hb H → GTree P N ops Q t fr Hb H
  | .done, _, _, _, h => hq _ _ h
  | .q i t, fr, Hb, H, h => by
    unfold GTree at h ⊢
    obtain ⟨o, h1, h2, h3⟩ := h
    refine ⟨o, h1, h2, ?_⟩
    split
    · rename_i hg
      rw [hg] at h3
      obtain ⟨v, Hq, k1, k2, k3, k4⟩ := h3
      exact ⟨v, Hq, k1, k2, k3, GTree.mono hq k4⟩
    · rename_i j want hg
      rw [hg] at h3
      obtain ⟨s, c, k1, k2, k3, k4⟩ := h3
      exact ⟨s, c, k1, k2, fun e => let ⟨v, Hq, l1, l2, l3, l4⟩ := k3 e; ⟨v, Hq, l1, l2, l3, GTree.mono hq l4⟩, fun e => GTree.mono hq (k4 e)⟩
  | .c i k t, fr, Hb, H, h => by
    unfold GTree at h ⊢
    obtain ⟨o, h1, h2, h3⟩ := h
    refine ⟨o, h1, h2, ?_⟩
    split
    · rename_i hg
      rw [hg] at h3
      exact h3.mono fun v H' ⟨l1, l2⟩ => ⟨l1, GTree.mono hq l2⟩
    · rename_i j want hg
      rw [hg] at h3
      obtain ⟨s, c, k1, k2, k3, k4⟩ := h3
      exact ⟨s, c, k1, k2, fun e => (k3 e).mono fun v H' ⟨l1, l2⟩ => ⟨l1, GTree.mono hq l2⟩, fun e => GTree.mono hq (k4 e)⟩
  | .or s t, fr, Hb, H, h => by
    unfold GTree at h ⊢
    exact ⟨GTree.mono hq h.1, GTree.mono hq h.2⟩
theorem GTree.cut (rest : Slots) (hr : Sub rest fr) (R : Slots → Slots → GHeap → Prop) (h : GTree P N ops (R rest) t fr Hb H) (hq : ∀ fr' H', R rest fr' H' → Q fr' H') : GTree P N ops Q t fr Hb H := h.mono hq
theorem GTree.mB {d : Tmp} {v : Value} (hi : ops[i]? = some o) (hd : o.dst = some d) (hN : Nat.blt d N = true) (hg : o.guard = none) (hle : Hb.Le H) (hm : MStep P fr Hb o.op v) (h : GTree P N ops Q t ((d, some v) :: fr) Hb H) : GTree P N ops Q (.q i t) fr Hb H := by
  unfold GTree
  refine ⟨o, hi, by unfold dstOk; rw [hd]; exact hN, ?_⟩
  rw [hg]
  exact ⟨v, Hb, .refl _, hle, hm, by rw [hd]; exact h⟩
theorem GTree.orI {s : Tree} (h : GTree P N ops Q s fr Hb H) (h' : GTree P N ops Q t fr Hb H) : GTree P N ops Q (.or s t) fr Hb H := by unfold GTree; exact ⟨h, h'⟩
theorem GRun.r {d : Tmp} {R : Option Value → GHeap → Prop} (hd : o.dst = some d) (hN : Nat.blt d N = true) (hg : o.guard = none) (hc : CDo P o fr H R) (h : ∀ v H', R v H' → GRun P N ops Q L ((d, v) :: fr) H') : GRun P N ops Q ((o, 0) :: L) fr H :=
  .c hd hN hg (by simp) hc fun v H' hR => ⟨fun e => (by cases e), h v H' hR⟩
theorem GRun.rg {d s : Tmp} {R : Option Value → GHeap → Prop} {j : Nat} {want : Bool} (hd : o.dst = some d) (hN : Nat.blt d N = true) (hg : o.guard = some (j, want)) (hs : guardSlot ops j = some s) (hb : fr.get s = some (.bool want)) (hc : CDo P o fr H R)
    (h : ∀ v H', R v H' → GRun P N ops Q L ((d, v) :: fr) H') : GRun P N ops Q ((o, 0) :: L) fr H :=
  .cg hd hN hg hs hb (by simp) hc fun v H' hR => ⟨fun e => (by cases e), h v H' hR⟩
theorem GRun.r0 {R : Option Value → GHeap → Prop} (hd : o.dst = none) (hg : o.guard = none) (hc : CDo P o fr H R) (h : ∀ v H', R v H' → GRun P N ops Q L fr H') : GRun P N ops Q ((o, 0) :: L) fr H :=
  .c0 hd hg (by simp) hc fun v H' hR => ⟨fun e => (by cases e), h v H' hR⟩
theorem GTree.r0 {R : Option Value → GHeap → Prop} (hi : ops[i]? = some o) (hd : o.dst = none) (hg : o.guard = none) (hc : CDo P o fr H R) (h : ∀ v H', R v H' → GTree P N ops Q t fr H' H') : GTree P N ops Q (.c i 0 t) fr Hb H := by
  unfold GTree
  refine ⟨o, hi, by unfold dstOk; rw [hd], ?_⟩
  rw [hg]
  refine .mk fun B w0 ρ a w hs hf next Qx hn => ?_
  exact hc.run B w0 ρ a w hs hf next Qx fun ρ' v c H' w' hR => hn ρ' v c H' w' ⟨fun e => (by cases e), by rw [hd, if_neg (by simp)]; exact h v H' hR⟩
theorem GTree.r1 {R : Option Value → GHeap → Prop} (hi : ops[i]? = some o) (hd : o.dst = none) (hg : o.guard = none) (hc : CDo P o fr H R) (h : ∀ v H', R v H' → Hb.Le H' ∧ GTree P N ops Q t fr Hb H') : GTree P N ops Q (.c i 1 t) fr Hb H := by
  unfold GTree
  refine ⟨o, hi, by unfold dstOk; rw [hd], ?_⟩
  rw [hg]
  refine .mk fun B w0 ρ a w hs hf next Qx hn => ?_
  exact hc.run B w0 ρ a w hs hf next Qx fun ρ' v c H' w' hR => hn ρ' v c H' w' ⟨fun _ => (h v H' hR).1, by rw [hd, if_pos rfl]; exact (h v H' hR).2⟩
end

section
variable {P : Program} {H : GHeap} {fr : Slots} {o : Oper}
theorem CDo.boxR {e : TypeId} {x : Operand} {v : Value} {n : Nat} (ho : o.op = .box e x) (he : (P.info? e).map (·.size) = some n) (hx : ev fr x = some v) :
    CDo P o fr H (fun r H' => ∃ g, r = some (.pointer (some ⟨g, 0, none⟩)) ∧ H.Le H' ∧ H.next ≤ g ∧ H'.get g = some (.row v.cells.toList e true)) :=
  .box ho he hx ⟨_, rfl, GHeap.le_push _ _, Nat.le_refl _, GHeap.get_push_new _ _⟩
theorem CDo.allocR {e : TypeId} {z : List Value} {n : Nat} (ho : o.op = .alloc e) (hz : zeroT P e = some (z, n)) (hfl : z.all flat1 = true) :
    CDo P o fr H (fun r H' => ∃ g, r = some (.pointer (some ⟨g, 0, none⟩)) ∧ H.Le H' ∧ H.next ≤ g ∧ H'.get g = some (.row z e true)) :=
  .alloc ho hz hfl ⟨_, rfl, GHeap.le_push _ _, Nat.le_refl _, GHeap.get_push_new _ _⟩
theorem CDo.litR {t e : TypeId} {len n : Nat} {parts : Array (Nat × Operand)} {z vs cs : List Value} (ho : o.op = .buildSlice t len parts) (ht : sliceT P t = some (e, n)) (hz : zeroT P e = some (z, n)) (hfl : z.all flat1 = true) (hzn : z.length = n) (h0 : 0 < n)
    (hsm : len * n ≤ 16777216) (hv : evs fr (parts.toList.map (·.2)) = some vs) (hc : fillL (fun i => some (i * n, n)) (madeL z (len * n)) ((parts.toList.map (·.1)).zip vs) = some cs) :
    CDo P o fr H (fun r H' => ∃ g, r = some (.slice (some ⟨g, 0, none⟩) len len) ∧ H.Le H' ∧ H.next ≤ g ∧ H'.get g = some (.row cs e true)) :=
  .buildSlice ho ht hz hfl hzn h0 hsm hv hc ⟨_, rfl, GHeap.le_push _ _, Nat.le_refl _, GHeap.get_push_new _ _⟩
theorem CDo.makeR {t e : TypeId} {x y : Operand} {k k' : IntKind} {l c n bytes : Nat} {z : List Value} (ho : o.op = .makeSlice t x y) (ht : sliceT P t = some (e, n)) (hz : zeroT P e = some (z, n)) (hb : (P.info? e).map (·.bytes) = some bytes)
    (hfl : z.all flat1 = true) (hzn : z.length = n) (h0 : 0 < n) (hx : ev fr x = some (.int k l)) (hy : ev fr y = some (.int k' c)) (hlc : l ≤ c) (hsm : bytes * c ≤ 281474976710656) (hsc : c ≤ 9223372036854775807) :
    CDo P o fr H (fun r H' => ∃ g, r = some (.slice (some ⟨g, 0, none⟩) l l) ∧ H.Le H' ∧ H.next ≤ g ∧ H'.get g = some (.row (madeL z (l * n)) e true)) :=
  .makeSlice ho ht hz hb hfl hzn h0 hx hy hlc hsm hsc ⟨_, rfl, GHeap.le_push _ _, Nat.le_refl _, GHeap.get_push_new _ _⟩
/-- A new list whose elements are of one cell; j, c: its length and room, as numbers of the program. -/
theorem CDo.makeV {t e : TypeId} {x y : Operand} {k k' : IntKind} {j c : Int} {bytes : Nat} {z : Value} (ho : o.op = .makeSlice t x y) (ht : sliceT P t = some (e, 1)) (hz : zeroT P e = some ([z], 1)) (hb : (P.info? e).map (·.bytes) = some bytes)
    (hfl : [z].all flat1 = true) (hx : ev fr x = some (.int k j)) (hy : ev fr y = some (.int k' c)) (h0 : 0 ≤ j) (hlc : j ≤ c) (hsm : bytes * c ≤ 281474976710656) (hsc : c ≤ 9223372036854775807) :
    CDo P o fr H (fun r H' => ∃ g, r = some (.slice (some ⟨g, 0, none⟩) j.toNat j.toNat) ∧ H.Le H' ∧ H.next ≤ g ∧ H'.get g = some (.row (List.replicate j.toNat z) e true)) := by
  have e1 : (j.toNat : Int) = j := Int.toNat_of_nonneg h0
  have e2 : (c.toNat : Int) = c := Int.toNat_of_nonneg (by omega)
  have e3 : bytes * c.toNat ≤ 281474976710656 := by
    have : ((bytes * c.toNat : Nat) : Int) ≤ 281474976710656 := by rw [Int.natCast_mul, e2]; exact hsm
    omega
  refine .makeSlice (l := j.toNat) (c := c.toNat) ho ht hz hb hfl rfl (by omega) (by rw [e1]; exact hx) (by rw [e2]; exact hy) (by omega) e3 (by omega) ⟨_, rfl, GHeap.le_push _ _, Nat.le_refl _, ?_⟩
  rw [GHeap.get_push_new, madeL_one, Nat.mul_one]
theorem CDo.makeI {t e : TypeId} {x y : Operand} {k k' : IntKind} {j c : Int} {bytes : Nat} (ho : o.op = .makeSlice t x y) (ht : sliceT P t = some (e, 1)) (hz : zeroT P e = some ([.int .i64 0], 1)) (hb : (P.info? e).map (·.bytes) = some bytes)
    (hx : ev fr x = some (.int k j)) (hy : ev fr y = some (.int k' c)) (h0 : 0 ≤ j) (hlc : j ≤ c) (hsm : bytes * c ≤ 281474976710656) (hsc : c ≤ 9223372036854775807) :
    CDo P o fr H (fun r H' => ∃ g, r = some (.slice (some ⟨g, 0, none⟩) j.toNat j.toNat) ∧ H.Le H' ∧ H.next ≤ g ∧ H'.get g = some (.row (ints (List.replicate j.toNat 0)) e true)) := by
  have : ints (List.replicate j.toNat 0) = List.replicate j.toNat (Value.int .i64 0) := by simp [ints]
  rw [this]
  exact .makeV ho ht hz hb rfl hx hy h0 hlc hsm hsc
theorem CDo.makeB {t e : TypeId} {x y : Operand} {k k' : IntKind} {j c : Int} {bytes : Nat} (ho : o.op = .makeSlice t x y) (ht : sliceT P t = some (e, 1)) (hz : zeroT P e = some ([.bool false], 1)) (hb : (P.info? e).map (·.bytes) = some bytes)
    (hx : ev fr x = some (.int k j)) (hy : ev fr y = some (.int k' c)) (h0 : 0 ≤ j) (hlc : j ≤ c) (hsm : bytes * c ≤ 281474976710656) (hsc : c ≤ 9223372036854775807) :
    CDo P o fr H (fun r H' => ∃ g, r = some (.slice (some ⟨g, 0, none⟩) j.toNat j.toNat) ∧ H.Le H' ∧ H.next ≤ g ∧ H'.get g = some (.row (bools (List.replicate j.toNat false)) e true)) := by
  have : bools (List.replicate j.toNat false) = List.replicate j.toNat (Value.bool false) := by simp [bools]
  rw [this]
  exact .makeV ho ht hz hb rfl hx hy h0 hlc hsm hsc
theorem CDo.storeR {t : TypeId} {x y : Operand} {g off : Nat} {v : Value} {cs : List Value} {e : TypeId} (ho : o.op = .store t x y) (ht : (P.info? t).map (·.size) = some 1) (hx : ev fr x = some (.pointer (some ⟨g, off, none⟩))) (hy : ev fr y = some v)
    (h1 : v.oneCell' = true) (hg : H.get g = some (.row cs e true)) (hoff : off < cs.length) :
    CDo P o fr H (fun r H' => r = none ∧ St [g] H H' ∧ H'.get g = some (.row (cs.set off v) e true)) :=
  .store ho ht hx hy h1 hg hoff ⟨rfl, .of_set, GHeap.get_set_eq (GHeap.lt_of_get hg)⟩
theorem CDo.storeI {t : TypeId} {x y : Operand} {g off : Nat} {m : Int} {ys : List Int} {e : TypeId} (ho : o.op = .store t x y) (ht : (P.info? t).map (·.size) = some 1) (hx : ev fr x = some (.pointer (some ⟨g, off, none⟩))) (hy : ev fr y = some (.int .i64 m))
    (hg : H.get g = some (.row (ints ys) e true)) (hoff : off < ys.length) :
    CDo P o fr H (fun r H' => r = none ∧ St [g] H H' ∧ H'.get g = some (.row (ints (ys.set off m)) e true)) := by
  rw [← ints_set]; exact .storeR ho ht hx hy rfl hg (by simpa using hoff)
theorem bools_set (ys : List Bool) (i : Nat) (v : Bool) : (bools ys).set i (.bool v) = bools (ys.set i v) := by simp [bools, List.map_set]
theorem CDo.storeB {t : TypeId} {x y : Operand} {g off : Nat} {m : Bool} {ys : List Bool} {e : TypeId} (ho : o.op = .store t x y) (ht : (P.info? t).map (·.size) = some 1) (hx : ev fr x = some (.pointer (some ⟨g, off, none⟩))) (hy : ev fr y = some (.bool m))
    (hg : H.get g = some (.row (bools ys) e true)) (hoff : off < ys.length) :
    CDo P o fr H (fun r H' => r = none ∧ St [g] H H' ∧ H'.get g = some (.row (bools (ys.set off m)) e true)) := by
  rw [← bools_set]; exact .storeR ho ht hx hy rfl hg (by simpa using hoff)
theorem CDo.storeNR {t : TypeId} {x y : Operand} {g off n : Nat} {vs : Array Value} {cs : List Value} {e : TypeId} (ho : o.op = .store t x y) (ht : (P.info? t).map (·.size) = some n) (hx : ev fr x = some (.pointer (some ⟨g, off, none⟩))) (hy : ev fr y = some (.agg vs))
    (hn : vs.size = n) (h1 : vs.toList.all (·.oneCell') = true) (hg : H.get g = some (.row cs e true)) (hoff : off + n ≤ cs.length) :
    CDo P o fr H (fun r H' => r = none ∧ St [g] H H' ∧ H'.get g = some (.row (setAll cs off vs.toList) e true)) :=
  .storeN ho ht hx hy hn h1 hg hoff ⟨rfl, .of_set, GHeap.get_set_eq (GHeap.lt_of_get hg)⟩
/-- A struct's row is filled whole. -/
theorem CDo.fillR {t : TypeId} {x y : Operand} {g n : Nat} {vs : Array Value} {cs : List Value} {e : TypeId} (ho : o.op = .store t x y) (ht : (P.info? t).map (·.size) = some n) (hx : ev fr x = some (.pointer (some ⟨g, 0, none⟩))) (hy : ev fr y = some (.agg vs))
    (hn : vs.size = n) (h1 : vs.toList.all (·.oneCell') = true) (hg : H.get g = some (.row cs e true)) (hoff : cs.length = n) :
    CDo P o fr H (fun r H' => r = none ∧ St [g] H H' ∧ H'.get g = some (.row vs.toList e true)) := by
  have : setAll cs 0 vs.toList = vs.toList := setAll_all _ _ (by simp [hoff, hn])
  have h := CDo.storeNR (P := P) (H := H) ho ht hx hy hn h1 hg (by omega)
  rw [this] at h
  exact h
theorem CDo.appendR {t tx e : TypeId} {s x : Operand} {g off n m sz bytes : Nat} {z cs news : List Value} (ho : o.op = .call { callee := .builtin .append, args := #[s, x], argTypes := #[t, tx] }) (ht : sliceT P t = some (e, sz)) (hz : zeroT P e = some (z, sz)) (hzn : z.length = sz)
    (hb : (P.info? e).map (·.bytes) = some bytes) (hsv : ev fr s = some (.slice (some ⟨g, off, none⟩) n n)) (hg : H.get g = some (.row cs e true)) (hend : off + n * sz = cs.length) (hsrc : SrcG P fr H sz tx x m news)
    (hN : n + m ≤ 16777216) (hB : (n + m) * bytes ≤ 140737488355328) :
    CDo P o fr H (fun r H' => ∃ g', r = some (.slice (some ⟨g', 0, none⟩) (n + m) (n + m)) ∧ St [g] H H' ∧ H.next ≤ g' ∧ H'.get g' = some (.row (cs.drop off ++ news) e true)) :=
  .append ho ht hz hzn hb hsv hg hend hsrc (by unfold maxLen; omega) hB ⟨_, rfl, .push .of_set, Nat.le_refl _, by have := GHeap.get_push_new (H.set g none) (.row (cs.drop off ++ news) e true); rwa [GHeap.next_set] at this⟩
/-- One value more, that lies in a row of its own. -/
theorem CDo.appendV {t tx e e' : TypeId} {s x : Operand} {g g1 n sz bytes : Nat} {z cs vs : List Value} (ho : o.op = .call { callee := .builtin .append, args := #[s, x], argTypes := #[t, tx] }) (ht : sliceT P t = some (e, sz)) (hz : zeroT P e = some (z, sz)) (hzn : z.length = sz)
    (hb : (P.info? e).map (·.bytes) = some bytes) (htx : sliceT P tx = some (e', sz)) (hsv : ev fr s = some (.slice (some ⟨g, 0, none⟩) n n)) (hx : ev fr x = some (.slice (some ⟨g1, 0, none⟩) 1 1)) (hg : H.get g = some (.row cs e true)) (hg1 : H.get g1 = some (.row vs e' true)) (hend : n * sz = cs.length)
    (hv : vs.length = sz) (hone : vs.all (·.oneCell') = true) (hN : n + 1 ≤ 16777216) (hB : (n + 1) * bytes ≤ 140737488355328) :
    CDo P o fr H (fun r H' => ∃ g', r = some (.slice (some ⟨g', 0, none⟩) (n + 1) (n + 1)) ∧ St [g] H H' ∧ H.next ≤ g' ∧ H'.get g' = some (.row (cs ++ vs) e true)) :=
  .appendR (cs := cs) (news := vs) ho ht hz hzn hb hsv hg (by omega) (.slice htx hx (by omega) (fun i v hv => by rw [GHeap.cell_of hg1, Nat.zero_add]; exact hv) (fun v hv => List.all_eq_true.1 hone v hv)) hN hB
theorem CDo.appendI {t tx e e' : TypeId} {s x : Operand} {g g1 n bytes : Nat} {z : List Value} {ys : List Int} {m : Int} (ho : o.op = .call { callee := .builtin .append, args := #[s, x], argTypes := #[t, tx] }) (ht : sliceT P t = some (e, 1)) (hz : zeroT P e = some (z, 1)) (hzn : z.length = 1)
    (hb : (P.info? e).map (·.bytes) = some bytes) (htx : sliceT P tx = some (e', 1)) (hsv : ev fr s = some (.slice (some ⟨g, 0, none⟩) n n)) (hx : ev fr x = some (.slice (some ⟨g1, 0, none⟩) 1 1)) (hg : H.get g = some (.row (ints ys) e true)) (hg1 : H.get g1 = some (.row [.int .i64 m] e' true)) (hend : n = ys.length)
    (hN : n + 1 ≤ 16777216) (hB : (n + 1) * bytes ≤ 140737488355328) :
    CDo P o fr H (fun r H' => ∃ g', r = some (.slice (some ⟨g', 0, none⟩) (n + 1) (n + 1)) ∧ St [g] H H' ∧ H.next ≤ g' ∧ H'.get g' = some (.row (ints (ys ++ [m])) e true)) := by
  have e1 : ints (ys ++ [m]) = ints ys ++ [.int .i64 m] := by simp [ints]
  rw [e1]
  exact .appendV ho ht hz hzn hb htx hsv hx hg hg1 (by simp; omega) rfl rfl hN hB
end

/-- The numbers below n with a property, in order. -/
def filtN (n : Nat) (p : Nat → Bool) : List Int := ((List.range n).filter p).map fun (i : Nat) => (i : Int)
theorem filtN_zero (p : Nat → Bool) : filtN 0 p = [] := rfl
theorem filtN_T {n : Nat} {p : Nat → Bool} (h : p n = true) : filtN (n + 1) p = filtN n p ++ [(n : Int)] := by simp [filtN, List.range_succ, h]
theorem filtN_F {n : Nat} {p : Nat → Bool} (h : p n = false) : filtN (n + 1) p = filtN n p := by simp [filtN, List.range_succ, h]
theorem filtN_le (n : Nat) (p : Nat → Bool) : (filtN n p).length ≤ n := by
  unfold filtN; rw [List.length_map]; exact Nat.le_trans (List.length_filter_le _ _) (by simp)
theorem mem_filtN {n : Nat} {p : Nat → Bool} {x : Int} : x ∈ filtN n p ↔ ∃ i, i < n ∧ p i = true ∧ x = i := by
  simp only [filtN, List.mem_map, List.mem_filter, List.mem_range]
  exact ⟨fun ⟨i, ⟨h1, h2⟩, h3⟩ => ⟨i, h1, h2, h3.symm⟩, fun ⟨i, h1, h2, h3⟩ => ⟨i, ⟨h1, h2⟩, h3.symm⟩⟩
theorem filtN_congr {n : Nat} {p q : Nat → Bool} (h : ∀ i, i < n → p i = q i) : filtN n p = filtN n q := by
  unfold filtN
  rw [List.filter_congr fun i hi => h i (List.mem_range.1 hi)]
theorem getD_mem {xs : List Int} {i : Nat} (h : i < xs.length) : xs.getD i 0 ∈ xs := by
  rw [List.getD_eq_getElem?_getD, List.getElem?_eq_getElem h]; exact List.getElem_mem h
theorem mem_getD {xs : List Int} {x : Int} (h : x ∈ xs) : ∃ i, i < xs.length ∧ xs.getD i 0 = x := by
  obtain ⟨i, hi, e⟩ := List.getElem_of_mem h
  exact ⟨i, hi, by rw [List.getD_eq_getElem?_getD, List.getElem?_eq_getElem hi]; exact e⟩
theorem filtN_get {n : Nat} {p : Nat → Bool} {i : Nat} (h : i < (filtN n p).length) : ∃ j, j < n ∧ p j = true ∧ (filtN n p).getD i 0 = j := mem_filtN.1 (getD_mem h)

/-- The first of a list with a property, or -1. -/
def firstIn (xs : List Int) (p : Int → Bool) : Int := (xs.find? p).getD (-1)
theorem firstIn_some {xs : List Int} {p : Int → Bool} {i : Nat} (hi : i < xs.length) (h : p (xs.getD i 0) = true) (hb : ∀ j, j < i → p (xs.getD j 0) = false) : firstIn xs p = xs.getD i 0 := by
  unfold firstIn
  have : xs.find? p = some (xs.getD i 0) := by
    rw [List.find?_eq_some_iff_getElem]
    refine ⟨h, i, hi, by simp [List.getD_eq_getElem?_getD, hi], fun j hj => ?_⟩
    have := hb j hj
    rw [List.getD_eq_getElem?_getD, List.getElem?_eq_getElem (by omega)] at this
    simpa using this
  rw [this]; rfl
theorem firstIn_none {xs : List Int} {p : Int → Bool} (h : ∀ j, j < xs.length → p (xs.getD j 0) = false) : firstIn xs p = -1 := by
  unfold firstIn
  have : xs.find? p = none := by
    rw [List.find?_eq_none]
    intro x hx
    obtain ⟨i, hi, rfl⟩ := mem_getD hx
    simp only [h i hi]; exact Bool.false_ne_true
  rw [this]; rfl
theorem firstIn_congr {xs : List Int} {p q : Int → Bool} (h : ∀ x ∈ xs, p x = q x) : firstIn xs p = firstIn xs q := by
  unfold firstIn
  congr 1
  induction xs with
  | nil => rfl
  | cons a l ih =>
    simp only [List.find?_cons]
    rw [h a (by simp), ih fun x hx => h x (by simp [hx])]
theorem firstIn_ge {xs : List Int} {p : Int → Bool} (h0 : ∀ x ∈ xs, 0 ≤ x) : 0 ≤ firstIn xs p ↔ ∃ x ∈ xs, p x = true := by
  unfold firstIn
  cases e : xs.find? p with
  | none =>
    rw [List.find?_eq_none] at e
    simp only [Option.getD_none]
    exact ⟨fun h => by omega, fun ⟨x, hx, hp⟩ => absurd hp (e x hx)⟩
  | some y =>
    have h1 := List.mem_of_find?_eq_some e
    have h2 := List.find?_some e
    exact ⟨fun _ => ⟨y, h1, h2⟩, fun _ => h0 y h1⟩
end Go.GL
/- Hom sets and inverses: plain laws. No condition. -/
namespace Go.GL

def Cat.hom (c : Cat) (x y : Int) : List Int := filtN c.src.length fun f => decide (c.src.getD f 0 = x) && decide (c.tgt.getD f 0 = y)
/-- g is the inverse of f, for f; g and g; f that are there. -/
def Cat.invB (c : Cat) (f g : Int) : Bool := decide (c.th f g = c.idn.getD (c.src.getD f.toNat 0).toNat 0) && decide (c.th g f = c.idn.getD (c.tgt.getD f.toNat 0).toNat 0)
/-- The inverse of an arrow, or -1. -/
def Cat.inv (c : Cat) (f : Int) : Int := firstIn (c.hom (c.tgt.getD f.toNat 0) (c.src.getD f.toNat 0)) (c.invB f)
theorem Cat.hom_get {c : Cat} {x y : Int} {i : Nat} (h : i < (c.hom x y).length) : ∃ f : Nat, f < c.src.length ∧ c.src.getD f 0 = x ∧ c.tgt.getD f 0 = y ∧ (c.hom x y).getD i 0 = f := by
  obtain ⟨j, h1, h2, h3⟩ := filtN_get h
  simp only [sps] at h2
  exact ⟨j, h1, h2.1, h2.2, h3⟩
theorem Cat.mem_hom {c : Cat} {x y g : Int} : g ∈ c.hom x y ↔ ∃ f : Nat, f < c.src.length ∧ c.src.getD f 0 = x ∧ c.tgt.getD f 0 = y ∧ g = f := by
  unfold Cat.hom
  rw [mem_filtN]
  simp only [sps]
  exact ⟨fun ⟨f, h1, h2, h3⟩ => ⟨f, h1, h2.1, h2.2, h3⟩, fun ⟨f, h1, h2, h3, h4⟩ => ⟨f, h1, ⟨h2, h3⟩, h4⟩⟩
theorem Cat.hom_le (c : Cat) (x y : Int) : (c.hom x y).length ≤ c.src.length := filtN_le _ _

def Cat.retr (c : Cat) (f : Int) : List Int := filtN c.src.length fun g => (decide (c.src.getD g 0 = c.T f) && decide (c.tgt.getD g 0 = c.S f)) && decide (c.th f g = c.I (c.S f))
def Cat.sect (c : Cat) (f : Int) : List Int := filtN c.src.length fun g => (decide (c.src.getD g 0 = c.T f) && decide (c.tgt.getD g 0 = c.S f)) && decide (c.th g f = c.I (c.T f))
theorem Cat.mem_sect {c : Cat} {f g : Int} : g ∈ c.sect f ↔ ∃ k : Nat, k < c.src.length ∧ c.src.getD k 0 = c.T f ∧ c.tgt.getD k 0 = c.S f ∧ c.th k f = c.I (c.T f) ∧ g = k := by
  unfold Cat.sect
  rw [mem_filtN]
  simp only [sps]
  exact ⟨fun ⟨f, h1, h2, h3⟩ => ⟨f, h1, h2.1.1, h2.1.2, h2.2, h3⟩, fun ⟨f, h1, h2, h3, h4, h5⟩ => ⟨f, h1, ⟨⟨h2, h3⟩, h4⟩, h5⟩⟩
theorem firstIn_filt {n : Nat} {p q : Nat → Bool} {r s : Int → Bool} (h : ∀ i : Nat, i < n → (p i && r i) = (q i && s i)) : firstIn (filtN n p) r = firstIn (filtN n q) s := by
  unfold firstIn filtN
  congr 1
  rw [List.find?_map, List.find?_map, List.find?_filter, List.find?_filter]
  congr 1
  have : ∀ l : List Nat, (∀ i ∈ l, i < n) → l.find? (fun a => p a && (r ∘ fun (i : Nat) => (i : Int)) a) = l.find? (fun a => q a && (s ∘ fun (i : Nat) => (i : Int)) a) := by
    intro l
    induction l with
    | nil => intro _; rfl
    | cons a l ih =>
      intro hl
      simp only [List.find?_cons, Function.comp]
      rw [h a (hl a (by simp))]
      rw [show List.find? (fun a => p a && r ↑a) l = List.find? (fun a => q a && s ↑a) l from ih fun i hi => hl i (by simp [hi])]
  have h2 := this _ fun i hi => List.mem_range.1 hi
  simpa using h2
theorem Cat.inv_retr (c : Cat) (f : Int) : firstIn (c.retr f) (fun g => (c.sect f).contains g) = c.inv f := by
  unfold Cat.inv Cat.retr Cat.hom
  refine firstIn_filt fun i hi => ?_
  rw [Bool.eq_iff_iff]
  simp only [sps, Cat.invB, List.contains_iff_mem, Cat.mem_sect]
  refine ⟨fun ⟨⟨⟨h1, h2⟩, h3⟩, k, h4, h5, h6, h7, h8⟩ => ⟨⟨h1, h2⟩, h3, ?_⟩, fun ⟨⟨h1, h2⟩, h3, h4⟩ => ⟨⟨⟨h1, h2⟩, h3⟩, i, hi, h1, h2, h4, rfl⟩⟩
  obtain rfl : i = k := by omega
  exact h7
end Go.GL
/- Hom sets and inverses. No condition but those of each statement. -/
namespace Go.Proofs.Ytnohkokoimmclaa
open Go Go.GL Go.RowKit Go.Proofs
theorem hom_c {g o : Nat} {c : Cat} {p : CatP} {x y : Int} {H : GHeap} (h : Cat.At H g o c p := by assumption) (hS : c.Shape := by assumption) :
    GCalls Try.prog 77 [.pointer (some ⟨g, o, none⟩), .int .i64 x, .int .i64 y] H (NewInts 2 H (c.hom x y)) := by
  refine GCalls.body (N := 44) (rs := [.tmp 6]) Try.func77 rfl rfl rfl rfl (fun Qx hret hend => ?_)
  refine .forget (fr' := [(0, some _), (1, some _), (2, some _)]) ⟨rfl, rfl, rfl, trivial⟩ ?_
  have hle := GHeap.Le.refl H
  have base_h := h
  obtain ⟨c0, c1, c2, c3, c4, i1, i2, i3, i4⟩ := h.get
  have hm : MemN _ _ _ _ _ := ⟨rfl, h.1⟩
  have hi := h.2
  have q1 := hS.tl
  have q2 := hS.n40
  refine .seq (fun K1 hK1 => ?_)
  refine .region ?_
  refine .m rfl rfl rfl (.assign rfl) ?_
  refine .nil ?_
  refine hK1 _ _ ?_
  refine .seq (fun K2 hK2 => ?_)
  refine .region ?_
  refine .r rfl rfl rfl (.litR rfl sl_22_A ze_2_E rfl rfl (by omega) (by omega) rfl rfl) ?_
  rintro _ H9 ⟨g9, rfl, le9, ge9, at9⟩
  have nx_H9 := le9.1
  replace hle := hle.trans le9
  have lt_at9 := GHeap.lt_of_get at9
  replace h := base_h.mono hle
  clear c0 c1 c2 c3 c4 i1 i2 i3 i4 hm hi
  obtain ⟨c0, c1, c2, c3, c4, i1, i2, i3, i4⟩ := h.get
  have hm : MemN _ _ _ _ _ := ⟨rfl, h.1⟩
  have hi := h.2
  replace at9 : GHeap.get H9 g9 = some (.row (ints []) 2 true) := at9
  refine .m rfl rfl rfl (.assign rfl) ?_
  refine .nil ?_
  refine hK2 _ _ ?_
  refine .seq (fun K3 hK3 => ?_)
  refine .seq (fun K4 hK4 => ?_)
  refine .region ?_
  refine .m rfl rfl rfl (.move rfl) ?_
  refine .m rfl rfl rfl (.nilCheck rfl) ?_
  refine .m rfl rfl rfl (.fieldAddr fo_31_1_B rfl) ?_
  refine .m rfl rfl rfl (.load on_22_B rfl (by assumption)) ?_
  refine .m rfl rfl rfl (.len sl_22_A rfl) ?_
  refine .m rfl rfl rfl (.move rfl) ?_
  refine .nil ?_
  refine hK4 _ _ ?_
  refine .block ?_
  refine .loopR (σ := Nat × Nat × Nat) [(0, some _), (1, some _), (2, some _), (14, some _)] (fun (k, gL7, nL7) => [(15, some (.int .i64 (k : Int))), (7, some (.slice (some ⟨gL7, 0, none⟩) nL7 nL7))]) (fun (k, gL7, nL7) H' => St [g9] H9 H' ∧ H'.get gL7 = some (.row (ints (filtN k fun f => decide (c.src.getD f 0 = x) && decide (c.tgt.getD f 0 = y))) 2 true) ∧ (gL7 = g9 ∨ H9.next ≤ gL7) ∧ nL7 = (filtN k fun f => decide (c.src.getD f 0 = x) && decide (c.tgt.getD f 0 = y)).length ∧ k ≤ c.src.length) (fun (k, gL7, nL7) => c.src.length - k) ((0, _, _)) ⟨rfl, rfl, rfl, rfl, trivial⟩ ⟨rfl, rfl, trivial⟩ ?_ ?_
  ·
   refine ⟨.refl _ _, by first | assumption | exact at9 | simpa using at9, .inl rfl, by first | rfl | assumption | simp | omega, ?_⟩
   omega
  ·
   rintro ⟨k, gL7, nL7⟩ HL1 ⟨lst1, at_L7, pl_L7, ln_L7, hI⟩ KL1 hKL1
   refine .forget (fr' := [(15, some (.int .i64 (k : Int))), (7, some (.slice (some ⟨gL7, 0, none⟩) nL7 nL7)), (0, some _), (1, some _), (2, some _), (14, some _)]) ⟨rfl, rfl, rfl, rfl, rfl, rfl, trivial⟩ ?_
   have ge_L7 : H.next ≤ gL7 := by omega
   have nx_HL1 := lst1.nx
   replace hle := hle.st lst1 (fun k hk => ⟨by omega, trivial⟩)
   have lt_at_L7 := GHeap.lt_of_get at_L7
   replace h := base_h.mono hle
   clear c0 c1 c2 c3 c4 i1 i2 i3 i4 hm hi
   obtain ⟨c0, c1, c2, c3, c4, i1, i2, i3, i4⟩ := h.get
   have hm : MemN _ _ _ _ _ := ⟨rfl, h.1⟩
   have hi := h.2
   have hfl := filtN_le k fun f => decide (c.src.getD f 0 = x) && decide (c.tgt.getD f 0 = y)
   refine .seq (fun K5 hK5 => ?_)
   refine .region ?_
   refine .m rfl rfl rfl (.cmp rfl rfl rfl) ?_
   refine .nil ?_
   refine hK5 _ _ ?_
   refine .seq (fun K6 hK6 => ?_)
   refine .cond rfl (fun h16 => ?_) (fun h16 => ?_)
   ·
    try simp only [sps] at h16
    refine .skip ?_
    refine hK6 _ _ ?_
    refine .seq (fun K7 hK7 => ?_)
    refine .block ?_
    refine .seq (fun K8 hK8 => ?_)
    refine .region ?_
    refine .m rfl rfl rfl (.move rfl) ?_
    refine .m rfl rfl rfl (.assign rfl) ?_
    refine .nil ?_
    refine hK8 _ _ ?_
    refine .seq (fun K9 hK9 => ?_)
    refine .region ?_
    refine .m rfl rfl rfl (.move rfl) ?_
    refine .m rfl rfl rfl (.nilCheck rfl) ?_
    refine .m rfl rfl rfl (.fieldAddr fo_31_1_B rfl) ?_
    refine .m rfl rfl rfl (.load on_22_B rfl (by assumption)) ?_
    refine .m rfl rfl rfl (.move rfl) ?_
    refine .m rfl rfl rfl (.idxN sl_22_A (by assumption) rfl rfl (by omega)) ?_
    refine .m rfl rfl rfl (.loadI on_2_A (by assumption) rfl (by omega)) ?_
    refine .m rfl rfl rfl (.move rfl) ?_
    refine .m rfl rfl rfl (.cmp rfl rfl rfl) ?_
    refine .m rfl rfl rfl (.move rfl) ?_
    refine .split (fun h27 => ?_) (fun h27 => ?_)
    ·
     try simp only [sps] at h27
     refine .mg rfl rfl rfl rfl rfl (.move rfl) ?_
     refine .mg rfl rfl rfl rfl rfl (.nilCheck rfl) ?_
     refine .mg rfl rfl rfl rfl rfl (.fieldAddr fo_31_2_B rfl) ?_
     refine .mg rfl rfl rfl rfl rfl (.load on_22_B rfl (by assumption)) ?_
     refine .mg rfl rfl rfl rfl rfl (.move rfl) ?_
     refine .mg rfl rfl rfl rfl rfl (.idxN sl_22_A (by assumption) rfl rfl (by omega)) ?_
     refine .mg rfl rfl rfl rfl rfl (.loadI on_2_A (by assumption) rfl (by omega)) ?_
     refine .mg rfl rfl rfl rfl rfl (.move rfl) ?_
     refine .mg rfl rfl rfl rfl rfl (.cmp rfl rfl rfl) ?_
     refine .m rfl rfl rfl (.pickT rfl rfl) ?_
     refine .nil ?_
     refine hK9 _ _ ?_
     refine .cond rfl (fun h37 => ?_) (fun h37 => ?_)
     ·
      try simp only [sps] at h37
      refine .region ?_
      refine .m rfl rfl rfl (.move rfl) ?_
      refine .m rfl rfl rfl (.move rfl) ?_
      refine .r rfl rfl rfl (.litR rfl sl_22_A ze_2_E rfl rfl (by omega) (by omega) rfl rfl) ?_
      rintro _ H40 ⟨g40, rfl, le40, ge40, at40⟩
      have nx_H40 := le40.1
      replace hle := hle.trans le40
      replace lst1 := lst1.le le40
      replace at_L7 := le40.2 _ _ at_L7
      have lt_at40 := GHeap.lt_of_get at40
      replace h := base_h.mono hle
      clear c0 c1 c2 c3 c4 i1 i2 i3 i4 hm hi
      obtain ⟨c0, c1, c2, c3, c4, i1, i2, i3, i4⟩ := h.get
      have hm : MemN _ _ _ _ _ := ⟨rfl, h.1⟩
      have hi := h.2
      refine .r rfl rfl rfl (.appendI rfl sl_22_A ze_2_E rfl by_2_E sl_22_A rfl rfl (by assumption) (by assumption) (by first | omega | (simp <;> omega)) (by omega) (by omega)) ?_
      rintro _ H41 ⟨g41, rfl, st41, ge41, at41⟩
      have nx_H41 := st41.nx
      replace hle := hle.st st41 (fun k hk => ⟨by omega, trivial⟩)
      replace lst1 := lst1.st st41 (fun k hk ho => by simp only [out, and_true] at ho ⊢ <;> omega)
      replace at40 := st41.same _ _ ⟨by omega, trivial⟩ at40
      have lt_at41 := GHeap.lt_of_get at41
      replace h := base_h.mono hle
      clear c0 c1 c2 c3 c4 i1 i2 i3 i4 hm hi
      obtain ⟨c0, c1, c2, c3, c4, i1, i2, i3, i4⟩ := h.get
      have hm : MemN _ _ _ _ _ := ⟨rfl, h.1⟩
      have hi := h.2
      refine .m rfl rfl rfl (.assign rfl) ?_
      refine .nil ?_
      refine hK7 _ _ ?_
      refine .region ?_
      refine .m rfl rfl rfl (.add rfl rfl rfl (by omega) (by omega)) ?_
      refine .m rfl rfl rfl (.move rfl) ?_
      refine .nil ?_
      refine hKL1 ((k + 1, _, _)) _ _ ?_ ?_ ⟨rfl, rfl, rfl, rfl, rfl, rfl, trivial⟩
      ·
       refine ⟨lst1, by first | assumption | (rw [filtN_T (by simp only [sps]; omega)]; assumption) | (rw [filtN_F (by simp only [sps]; omega)]; assumption), by omega, by first | omega | (simp only [List.length_append, List.length_cons, List.length_nil] <;> omega) | (rw [filtN_T (by simp only [sps]; omega)] <;> (first | omega | (simp only [List.length_append, List.length_cons, List.length_nil] <;> omega))) | (rw [filtN_F (by simp only [sps]; omega)] <;> (first | omega | (simp only [List.length_append, List.length_cons, List.length_nil] <;> omega))), ?_⟩
       omega
      ·
       (dsimp only; omega)
     ·
      try simp only [sps] at h37
      refine .skip ?_
      refine hK7 _ _ ?_
      refine .region ?_
      refine .m rfl rfl rfl (.add rfl rfl rfl (by omega) (by omega)) ?_
      refine .m rfl rfl rfl (.move rfl) ?_
      refine .nil ?_
      refine hKL1 ((k + 1, _, _)) _ _ ?_ ?_ ⟨rfl, rfl, rfl, rfl, rfl, rfl, trivial⟩
      ·
       refine ⟨lst1, by first | assumption | (rw [filtN_T (by simp only [sps]; omega)]; assumption) | (rw [filtN_F (by simp only [sps]; omega)]; assumption), by omega, by first | omega | (simp only [List.length_append, List.length_cons, List.length_nil] <;> omega) | (rw [filtN_T (by simp only [sps]; omega)] <;> (first | omega | (simp only [List.length_append, List.length_cons, List.length_nil] <;> omega))) | (rw [filtN_F (by simp only [sps]; omega)] <;> (first | omega | (simp only [List.length_append, List.length_cons, List.length_nil] <;> omega))), ?_⟩
       omega
      ·
       (dsimp only; omega)
    ·
     try simp only [sps] at h27
     refine .sg rfl rfl rfl rfl rfl ?_
     refine .sg rfl rfl rfl rfl rfl ?_
     refine .sg rfl rfl rfl rfl rfl ?_
     refine .sg rfl rfl rfl rfl rfl ?_
     refine .sg rfl rfl rfl rfl rfl ?_
     refine .sg rfl rfl rfl rfl rfl ?_
     refine .sg rfl rfl rfl rfl rfl ?_
     refine .sg rfl rfl rfl rfl rfl ?_
     refine .sg rfl rfl rfl rfl rfl ?_
     refine .m rfl rfl rfl (.pickF rfl rfl) ?_
     refine .nil ?_
     refine hK9 _ _ ?_
     refine .condF rfl ?_
     refine .skip ?_
     refine hK7 _ _ ?_
     refine .region ?_
     refine .m rfl rfl rfl (.add rfl rfl rfl (by omega) (by omega)) ?_
     refine .m rfl rfl rfl (.move rfl) ?_
     refine .nil ?_
     refine hKL1 ((k + 1, _, _)) _ _ ?_ ?_ ⟨rfl, rfl, rfl, rfl, rfl, rfl, trivial⟩
     ·
      refine ⟨lst1, by first | assumption | (rw [filtN_T (by simp only [sps]; omega)]; assumption) | (rw [filtN_F (by simp only [sps]; omega)]; assumption), by omega, by first | omega | (simp only [List.length_append, List.length_cons, List.length_nil] <;> omega) | (rw [filtN_T (by simp only [sps]; omega)] <;> (first | omega | (simp only [List.length_append, List.length_cons, List.length_nil] <;> omega))) | (rw [filtN_F (by simp only [sps]; omega)] <;> (first | omega | (simp only [List.length_append, List.length_cons, List.length_nil] <;> omega))), ?_⟩
      omega
     ·
      (dsimp only; omega)
   ·
    try simp only [sps] at h16
    refine .exit ?_
    refine hK3 _ _ ?_
    refine .seq (fun K10 hK10 => ?_)
    refine .region ?_
    refine .m rfl rfl rfl (.move rfl) ?_
    refine .m rfl rfl rfl (.assign rfl) ?_
    refine .nil ?_
    refine hK10 _ _ ?_
    refine .ret ?_
    -- leaf e1
    refine hret _ _ ?_
    refine ⟨_, rfl, ?_⟩
    obtain rfl : k = c.src.length := by omega
    exact ⟨hle, _, by rw [ln_L7]; rfl, at_L7, ge_L7⟩
theorem inverse_c {g o : Nat} {c : Cat} {p : CatP} {f : Int} {H : GHeap} (h : Cat.At H g o c p := by assumption) (hS : c.Shape := by assumption) (h0 : 0 ≤ f := by omega) (h1 : f < c.src.length := by omega) :
    GCalls Try.prog 62 [.pointer (some ⟨g, o, none⟩), .int .i64 f] H (Ret (.int .i64 (c.inv f)) H) := by
  refine GCalls.ret rfl ?_
  refine GCalls.body (N := 60) (rs := [.tmp 4]) Try.func62 rfl rfl rfl rfl (fun Qx hret hend => ?_)
  refine .forget (fr' := [(0, some _), (1, some _)]) ⟨rfl, rfl, trivial⟩ ?_
  have hle := GHeap.Le.refl H
  have base_h := h
  obtain ⟨c0, c1, c2, c3, c4, i1, i2, i3, i4⟩ := h.get
  have hm : MemN _ _ _ _ _ := ⟨rfl, h.1⟩
  have hi := h.2
  have q1 := hS.tl
  have q2 := hS.n40
  have q3 := hS.il
  have q4 := hS.src f.toNat (by omega)
  have q5 := hS.tgt f.toNat (by omega)
  have q6 := hS.cl
  have q7 := hS.row f.toNat (by omega)
  have q8 := c.hom_le (c.tgt.getD f.toNat 0) (c.src.getD f.toNat 0)
  refine .seq (fun K1 hK1 => ?_)
  refine .region ?_
  refine .m rfl rfl rfl (.assign rfl) ?_
  refine .nil ?_
  refine hK1 _ _ ?_
  refine .seq (fun K2 hK2 => ?_)
  refine .regionD mixed_orders_B (.q 0 (.q 1 (.q 2 (.q 3 (.q 4 (.q 5 (.q 6 (.q 7 (.q 8 (.q 9 (.q 10 (.q 11 (.q 12 (.q 13 (.q 14 (.q 15 (.done))))))))))))))))) (by kernel_rfl) ?_
  refine .m rfl rfl rfl rfl (.refl _) (.move rfl) ?_
  refine .m rfl rfl rfl rfl (.refl _) (.nilCheck rfl) ?_
  refine .m rfl rfl rfl rfl (.refl _) (.fieldAddr fo_31_1_B rfl) ?_
  refine .m rfl rfl rfl rfl (.refl _) (.load on_22_B rfl (by assumption)) ?_
  refine .m rfl rfl rfl rfl (.refl _) (.move rfl) ?_
  refine .m rfl rfl rfl rfl (.refl _) (.idx1 sl_22_A (by assumption) rfl rfl (by omega) (by omega)) ?_
  refine .m rfl rfl rfl rfl (.refl _) (.loadI on_2_A (by assumption) rfl (by omega)) ?_
  refine .m rfl rfl rfl rfl (.refl _) (.move rfl) ?_
  refine .m rfl rfl rfl rfl (.refl _) (.nilCheck rfl) ?_
  refine .m rfl rfl rfl rfl (.refl _) (.fieldAddr fo_31_2_B rfl) ?_
  refine .m rfl rfl rfl rfl (.refl _) (.load on_22_B rfl (by assumption)) ?_
  refine .m rfl rfl rfl rfl (.refl _) (.move rfl) ?_
  refine .m rfl rfl rfl rfl (.refl _) (.idx1 sl_22_A (by assumption) rfl rfl (by omega) (by omega)) ?_
  refine .m rfl rfl rfl rfl (.refl _) (.loadI on_2_A (by assumption) rfl (by omega)) ?_
  refine .m rfl rfl rfl rfl (.refl _) (.assign rfl) ?_
  refine .m rfl rfl rfl rfl (.refl _) (.assign rfl) ?_
  refine .done ?_
  refine hK2 _ _ ?_
  refine .seq (fun K3 hK3 => ?_)
  refine .seq (fun K4 hK4 => ?_)
  refine .region ?_
  refine .m rfl rfl rfl (.move rfl) ?_
  refine .m rfl rfl rfl (.move rfl) ?_
  refine .m rfl rfl rfl (.move rfl) ?_
  refine .call rfl rfl rfl rfl @Try.call77 rfl (hom_c) ?_
  rintro _ H26 ⟨le26, g26, rfl, at26, ge26⟩
  have nx_H26 := le26.1
  replace hle := hle.trans le26
  have lt_at26 := GHeap.lt_of_get at26
  replace h := base_h.mono hle
  clear c0 c1 c2 c3 c4 i1 i2 i3 i4 hm hi
  obtain ⟨c0, c1, c2, c3, c4, i1, i2, i3, i4⟩ := h.get
  have hm : MemN _ _ _ _ _ := ⟨rfl, h.1⟩
  have hi := h.2
  have i26 := Ints.of_get at26
  refine .m rfl rfl rfl (.len sl_22_A rfl) ?_
  refine .m rfl rfl rfl (.move rfl) ?_
  refine .nil ?_
  refine hK4 _ _ ?_
  refine .block ?_
  refine .loopR (σ := Nat) [(0, some _), (1, some _), (5, some _), (6, some _), (26, some _), (27, some _)] (fun k => [(28, some (.int .i64 (k : Int)))]) (fun k H' => H26 = H' ∧ (k : Int) ≤ (c.hom (c.tgt.getD f.toNat 0) (c.src.getD f.toNat 0)).length ∧ ∀ i, i < k → c.invB f ((c.hom (c.tgt.getD f.toNat 0) (c.src.getD f.toNat 0)).getD i 0) = false) (fun k => ((c.hom (c.tgt.getD f.toNat 0) (c.src.getD f.toNat 0)).length - k : Int).toNat) (0) ⟨rfl, rfl, rfl, rfl, rfl, rfl, trivial⟩ ⟨rfl, trivial⟩ ?_ ?_
  ·
   refine ⟨rfl, ?_⟩
   exact ⟨by omega, fun _ _ => by omega⟩
  ·
   rintro k _ ⟨rfl, hI⟩ KL1 hKL1
   refine .forget (fr' := [(28, some (.int .i64 (k : Int))), (0, some _), (1, some _), (5, some _), (6, some _), (26, some _), (27, some _)]) ⟨rfl, rfl, rfl, rfl, rfl, rfl, rfl, trivial⟩ ?_
   obtain ⟨hk1, ha1⟩ := hI
   refine .seq (fun K5 hK5 => ?_)
   refine .region ?_
   refine .m rfl rfl rfl (.cmp rfl rfl rfl) ?_
   refine .nil ?_
   refine hK5 _ _ ?_
   refine .seq (fun K6 hK6 => ?_)
   refine .cond rfl (fun h29 => ?_) (fun h29 => ?_)
   ·
    simp only [sps] at h29
    obtain ⟨j, j1', j2', j3', j4'⟩ := c.hom_get (x := (c.tgt.getD f.toNat 0)) (y := (c.src.getD f.toNat 0)) (i := k) (by omega)
    have q9 := hS.row j (by omega)
    have q10 : ((c.hom (c.tgt.getD f.toNat 0) (c.src.getD f.toNat 0)).getD k 0).toNat = j := by omega
    refine .skip ?_
    refine hK6 _ _ ?_
    refine .seq (fun K7 hK7 => ?_)
    refine .block ?_
    refine .seq (fun K8 hK8 => ?_)
    refine .region ?_
    refine .m rfl rfl rfl (.idxN sl_22_A (by first | assumption | exact SlA.of_row at26 (by first | rfl | (simp; done) | (simp <;> omega))) rfl rfl (by omega)) ?_
    refine .m rfl rfl rfl (.loadI on_2_A (by first | assumption | exact Ints.of_get at26) rfl (by omega)) ?_
    refine .m rfl rfl rfl (.assign rfl) ?_
    refine .nil ?_
    refine hK8 _ _ ?_
    refine .seq (fun K9 hK9 => ?_)
    refine .regionD mixed_orders_B (.q 0 (.q 1 (.q 2 (.q 4 (.q 5 (.q 6 (.q 7 (.q 8 (.q 9 (.q 10 (.c 3 1 (.q 11 (.q 12 (.q 13 (.q 14 (.q 15 (.q 17 (.q 18 (.q 19 (.q 20 (.q 21 (.q 22 (.q 23 (.c 16 1 (.q 24 (.q 25 (.done))))))))))))))))))))))))))) (by kernel_rfl) ?_
    refine .m rfl rfl rfl rfl (.refl _) (.move rfl) ?_
    refine .m rfl rfl rfl rfl (.refl _) (.move rfl) ?_
    refine .m rfl rfl rfl rfl (.refl _) (.move rfl) ?_
    refine .m rfl rfl rfl rfl (.refl _) (.move rfl) ?_
    refine .m rfl rfl rfl rfl (.refl _) (.nilCheck rfl) ?_
    refine .m rfl rfl rfl rfl (.refl _) (.fieldAddr fo_31_3_B rfl) ?_
    refine .m rfl rfl rfl rfl (.refl _) (.load on_22_B rfl (by assumption)) ?_
    refine .m rfl rfl rfl rfl (.refl _) (.move rfl) ?_
    refine .m rfl rfl rfl rfl (.refl _) (.idx1 sl_22_A (by assumption) rfl rfl (by omega) (by omega)) ?_
    refine .m rfl rfl rfl rfl (.refl _) (.loadI on_2_A (by assumption) rfl (by omega)) ?_
    refine .callQ1 rfl rfl rfl rfl rfl @Try.call82 rfl (then_s) (.refl _) ?_
    refine .m rfl rfl rfl rfl (.refl _) (.cmp rfl rfl rfl) ?_
    refine .m rfl rfl rfl rfl (.refl _) (.move rfl) ?_
    refine .split (fun h44 => ?_) (fun h44 => ?_)
    ·
     try simp only [sps] at h44
     refine .mg rfl rfl rfl rfl rfl rfl (.refl _) (.move rfl) ?_
     refine .mg rfl rfl rfl rfl rfl rfl (.refl _) (.move rfl) ?_
     refine .mg rfl rfl rfl rfl rfl rfl (.refl _) (.move rfl) ?_
     refine .mg rfl rfl rfl rfl rfl rfl (.refl _) (.move rfl) ?_
     refine .mg rfl rfl rfl rfl rfl rfl (.refl _) (.nilCheck rfl) ?_
     refine .mg rfl rfl rfl rfl rfl rfl (.refl _) (.fieldAddr fo_31_3_B rfl) ?_
     refine .mg rfl rfl rfl rfl rfl rfl (.refl _) (.load on_22_B rfl (by assumption)) ?_
     refine .mg rfl rfl rfl rfl rfl rfl (.refl _) (.move rfl) ?_
     refine .mg rfl rfl rfl rfl rfl rfl (.refl _) (.idx1 sl_22_A (by assumption) rfl rfl (by omega) (by omega)) ?_
     refine .mg rfl rfl rfl rfl rfl rfl (.refl _) (.loadI on_2_A (by assumption) rfl (by omega)) ?_
     refine .callQ1g rfl rfl rfl rfl rfl rfl rfl @Try.call82 rfl (then_s) (.refl _) ?_
     refine .mg rfl rfl rfl rfl rfl rfl (.refl _) (.cmp rfl rfl rfl) ?_
     refine .m rfl rfl rfl rfl (.refl _) (.pickT rfl rfl) ?_
     refine .done ?_
     refine hK9 _ _ ?_
     refine .cond rfl (fun h57 => ?_) (fun h57 => ?_)
     ·
      try simp only [sps] at h57
      refine .seq (fun K10 hK10 => ?_)
      refine .region ?_
      refine .m rfl rfl rfl (.move rfl) ?_
      refine .m rfl rfl rfl (.assign rfl) ?_
      refine .nil ?_
      refine hK10 _ _ ?_
      refine .ret ?_
      -- leaf e1
      refine hret _ _ ?_
      refine ⟨_, rfl, ?_⟩
      exact ⟨congrArg _ (firstIn_some (i := k) (by omega) (by simp only [Cat.invB, sps]; omega) ha1), hle⟩
     ·
      try simp only [sps] at h57
      refine .skip ?_
      refine hK7 _ _ ?_
      refine .region ?_
      refine .m rfl rfl rfl (.add rfl rfl rfl (by omega) (by omega)) ?_
      refine .m rfl rfl rfl (.move rfl) ?_
      refine .nil ?_
      refine hKL1 (k + 1) _ _ ?_ ?_ ⟨rfl, rfl, rfl, rfl, rfl, rfl, rfl, trivial⟩
      ·
       refine ⟨rfl, ?_⟩
       refine ⟨by omega, fun i hx => ?_⟩
       by_cases hltq : i < k
       · exact ha1 i hltq
       · obtain rfl : i = k := by omega
         simp only [Cat.invB, sps]; omega
      ·
       omega
    ·
     try simp only [sps] at h44
     refine .sg rfl rfl rfl rfl rfl rfl ?_
     refine .sg rfl rfl rfl rfl rfl rfl ?_
     refine .sg rfl rfl rfl rfl rfl rfl ?_
     refine .sg rfl rfl rfl rfl rfl rfl ?_
     refine .sg rfl rfl rfl rfl rfl rfl ?_
     refine .sg rfl rfl rfl rfl rfl rfl ?_
     refine .sg rfl rfl rfl rfl rfl rfl ?_
     refine .sg rfl rfl rfl rfl rfl rfl ?_
     refine .sg rfl rfl rfl rfl rfl rfl ?_
     refine .sg rfl rfl rfl rfl rfl rfl ?_
     refine .sgc rfl rfl rfl rfl rfl rfl ?_
     refine .sg rfl rfl rfl rfl rfl rfl ?_
     refine .m rfl rfl rfl rfl (.refl _) (.pickF rfl rfl) ?_
     refine .done ?_
     refine hK9 _ _ ?_
     refine .condF rfl ?_
     refine .skip ?_
     refine hK7 _ _ ?_
     refine .region ?_
     refine .m rfl rfl rfl (.add rfl rfl rfl (by omega) (by omega)) ?_
     refine .m rfl rfl rfl (.move rfl) ?_
     refine .nil ?_
     refine hKL1 (k + 1) _ _ ?_ ?_ ⟨rfl, rfl, rfl, rfl, rfl, rfl, rfl, trivial⟩
     ·
      refine ⟨rfl, ?_⟩
      refine ⟨by omega, fun i hx => ?_⟩
      by_cases hltq : i < k
      · exact ha1 i hltq
      · obtain rfl : i = k := by omega
        simp only [Cat.invB, sps]; omega
     ·
      omega
   ·
    try simp only [sps] at h29
    refine .exit ?_
    refine hK3 _ _ ?_
    refine .seq (fun K11 hK11 => ?_)
    refine .region ?_
    refine .m rfl rfl rfl (.assign rfl) ?_
    refine .nil ?_
    refine hK11 _ _ ?_
    refine .ret ?_
    -- leaf e2
    refine hret _ _ ?_
    refine ⟨_, rfl, ?_⟩
    exact ⟨congrArg _ (firstIn_none fun i hi => ha1 i (by omega)), hle⟩
theorem l01Has_c {a : Option Addr} {xs : List Int} {n : Int} {H : GHeap} (h : Ints H a xs := by assumption) (hl : xs.length ≤ 1048576 := by omega) :
    GCalls Try.prog 114 [.slice a xs.length xs.length, .int .i64 n] H (Ret (.bool (xs.contains n)) H) := by
  refine GCalls.body (N := 18) (rs := [.tmp 4]) Try.func114 rfl rfl rfl rfl (fun Qx hret hend => ?_)
  refine .forget (fr' := [(0, some _), (1, some _)]) ⟨rfl, rfl, trivial⟩ ?_
  refine .seq (fun K1 hK1 => ?_)
  refine .region ?_
  refine .m rfl rfl rfl (.assign rfl) ?_
  refine .nil ?_
  refine hK1 _ _ ?_
  refine .seq (fun K2 hK2 => ?_)
  refine .seq (fun K3 hK3 => ?_)
  refine .region ?_
  refine .m rfl rfl rfl (.assign rfl) ?_
  refine .nil ?_
  refine hK3 _ _ ?_
  refine .block ?_
  refine .loopR (σ := Nat) [(0, some _), (1, some _)] (fun k => [(5, some (.int .i64 (k : Int)))]) (fun k H' => H = H' ∧ (k : Int) ≤ xs.length ∧ ∀ i, i < k → ¬ xs.getD i 0 = n) (fun k => (xs.length - k : Int).toNat) (0) ⟨rfl, rfl, trivial⟩ ⟨rfl, trivial⟩ ?_ ?_
  ·
   refine ⟨rfl, ?_⟩
   exact ⟨by omega, fun _ _ => by omega⟩
  ·
   rintro k _ ⟨rfl, hI⟩ KL1 hKL1
   refine .forget (fr' := [(5, some (.int .i64 (k : Int))), (0, some _), (1, some _)]) ⟨rfl, rfl, rfl, trivial⟩ ?_
   obtain ⟨hk1, ha1⟩ := hI
   refine .seq (fun K4 hK4 => ?_)
   refine .seq (fun K5 hK5 => ?_)
   refine .region ?_
   refine .m rfl rfl rfl (.move rfl) ?_
   refine .m rfl rfl rfl (.move rfl) ?_
   refine .m rfl rfl rfl (.len sl_22_A rfl) ?_
   refine .m rfl rfl rfl (.cmp rfl rfl rfl) ?_
   refine .nil ?_
   refine hK5 _ _ ?_
   refine .cond rfl (fun h9 => ?_) (fun h9 => ?_)
   ·
    try simp only [sps] at h9
    refine .skip ?_
    refine hK4 _ _ ?_
    refine .seq (fun K6 hK6 => ?_)
    refine .block ?_
    refine .seq (fun K7 hK7 => ?_)
    refine .region ?_
    refine .m rfl rfl rfl (.move rfl) ?_
    refine .m rfl rfl rfl (.move rfl) ?_
    refine .m rfl rfl rfl (.idxN sl_22_A (by assumption) rfl rfl (by omega)) ?_
    refine .m rfl rfl rfl (.loadI on_2_A (by assumption) rfl (by omega)) ?_
    refine .m rfl rfl rfl (.move rfl) ?_
    refine .m rfl rfl rfl (.cmp rfl rfl rfl) ?_
    refine .nil ?_
    refine hK7 _ _ ?_
    refine .cond rfl (fun h17 => ?_) (fun h17 => ?_)
    ·
     try simp only [sps] at h17
     refine .seq (fun K8 hK8 => ?_)
     refine .region ?_
     refine .m rfl rfl rfl (.assign rfl) ?_
     refine .nil ?_
     refine hK8 _ _ ?_
     refine .ret ?_
     -- leaf e1
     refine hret _ _ ?_
     refine ⟨_, rfl, ?_⟩
     exact .of (congrArg _ (List.contains_iff_mem.2 (by rw [← h17]; exact getD_mem (by omega))))
    ·
     try simp only [sps] at h17
     refine .skip ?_
     refine hK6 _ _ ?_
     refine .region ?_
     refine .m rfl rfl rfl (.move rfl) ?_
     refine .m rfl rfl rfl (.add rfl rfl rfl (by omega) (by omega)) ?_
     refine .m rfl rfl rfl (.assign rfl) ?_
     refine .nil ?_
     refine hKL1 (k + 1) _ _ ?_ ?_ ⟨rfl, rfl, rfl, trivial⟩
     ·
      refine ⟨rfl, ?_⟩
      refine ⟨by omega, fun i hx => ?_⟩
      by_cases hltq : i < k
      · exact ha1 i hltq
      · obtain rfl : i = k := by omega
        first | assumption | omega | simp_all
     ·
      omega
   ·
    try simp only [sps] at h9
    refine .exit ?_
    refine hK2 _ _ ?_
    refine .seq (fun K9 hK9 => ?_)
    refine .region ?_
    refine .m rfl rfl rfl (.assign rfl) ?_
    refine .nil ?_
    refine hK9 _ _ ?_
    refine .ret ?_
    -- leaf e2
    refine hret _ _ ?_
    refine ⟨_, rfl, ?_⟩
    exact .of (congrArg _ (Bool.eq_false_iff.2 fun hc => by
      obtain ⟨i, hi, e⟩ := mem_getD (List.contains_iff_mem.1 hc)
      exact ha1 i (by omega) e))
theorem l05Sections_c {c : Cat} {p : CatP} {f : Int} {H : GHeap} (hin : c.In H p := by assumption) (hS : c.Shape := by assumption) (h0 : 0 ≤ f := by omega) (h1 : f < c.src.length := by omega) :
    GCalls Try.prog 113 [.agg (c.cells p).toArray, .int .i64 f] H (NewInts 2 H (c.sect f)) := by
  refine GCalls.body (N := 64) (rs := [.tmp 4]) Try.func113 rfl rfl rfl rfl (fun Qx hret hend => ?_)
  refine .forget (fr' := [(0, some _), (1, some _)]) ⟨rfl, rfl, trivial⟩ ?_
  have hle := GHeap.Le.refl H
  have base_hin := hin
  have q1 := hS.tl
  have q2 := hS.n40
  have q3 := hS.il
  have q4 := hS.src f.toNat (by omega)
  have q5 := hS.tgt f.toNat (by omega)
  have q6 := hS.cl
  refine .seq (fun K1 hK1 => ?_)
  refine .region ?_
  refine .r rfl rfl rfl (.boxR rfl sz_31_D rfl) ?_
  rintro _ H2 ⟨g2, rfl, le2, ge2, at2⟩
  have nx_H2 := le2.1
  replace hle := hle.trans le2
  have lt_at2 := GHeap.lt_of_get at2
  replace hin := base_hin.mono hle
  have hb2 : Cat.At _ g2 0 c p := ⟨Mem.of_get at2, hin⟩
  obtain ⟨c02, c12, c22, c32, c42, i12, i22, i32, i42⟩ := hb2.get
  have hm2 : MemN _ _ _ _ _ := ⟨rfl, hb2.1⟩
  have hi2 := hb2.2
  refine .m rfl rfl rfl (.assign rfl) ?_
  refine .nil ?_
  refine hK1 _ _ ?_
  refine .seq (fun K2 hK2 => ?_)
  refine .region ?_
  refine .r rfl rfl rfl (.litR rfl sl_22_A ze_2_E rfl rfl (by omega) (by omega) rfl rfl) ?_
  rintro _ H7 ⟨g7, rfl, le7, ge7, at7⟩
  have nx_H7 := le7.1
  replace hle := hle.trans le7
  replace at2 := le7.2 _ _ at2
  have lt_at7 := GHeap.lt_of_get at7
  replace hin := base_hin.mono hle
  clear hb2 c02 c12 c22 c32 c42 i12 i22 i32 i42 hm2 hi2
  have hb2 : Cat.At _ g2 0 c p := ⟨Mem.of_get at2, hin⟩
  obtain ⟨c02, c12, c22, c32, c42, i12, i22, i32, i42⟩ := hb2.get
  have hm2 : MemN _ _ _ _ _ := ⟨rfl, hb2.1⟩
  have hi2 := hb2.2
  replace at7 : GHeap.get H7 g7 = some (.row (ints []) 2 true) := at7
  refine .m rfl rfl rfl (.assign rfl) ?_
  refine .nil ?_
  refine hK2 _ _ ?_
  refine .seq (fun K3 hK3 => ?_)
  refine .seq (fun K4 hK4 => ?_)
  refine .region ?_
  refine .m rfl rfl rfl (.assign rfl) ?_
  refine .nil ?_
  refine hK4 _ _ ?_
  refine .block ?_
  refine .loopR (σ := Nat × Nat × Nat) [(1, some _), (2, some _)] (fun (k, gL5, nL5) => [(6, some (.int .i64 (k : Int))), (5, some (.slice (some ⟨gL5, 0, none⟩) nL5 nL5))]) (fun (k, gL5, nL5) H' => St [g7] H7 H' ∧ H'.get gL5 = some (.row (ints (filtN k fun g => (decide (c.src.getD g 0 = c.T f) && decide (c.tgt.getD g 0 = c.S f)) && decide (c.th g f = c.I (c.T f)))) 2 true) ∧ (gL5 = g7 ∨ H7.next ≤ gL5) ∧ nL5 = (filtN k fun g => (decide (c.src.getD g 0 = c.T f) && decide (c.tgt.getD g 0 = c.S f)) && decide (c.th g f = c.I (c.T f))).length ∧ k ≤ c.src.length) (fun (k, gL5, nL5) => c.src.length - k) ((0, _, _)) ⟨rfl, rfl, trivial⟩ ⟨rfl, rfl, trivial⟩ ?_ ?_
  ·
   refine ⟨.refl _ _, by first | assumption | exact at7 | simpa using at7, .inl rfl, by first | rfl | assumption | simp | omega, ?_⟩
   omega
  ·
   rintro ⟨k, gL5, nL5⟩ HL1 ⟨lst1, at_L5, pl_L5, ln_L5, hI⟩ KL1 hKL1
   refine .forget (fr' := [(6, some (.int .i64 (k : Int))), (5, some (.slice (some ⟨gL5, 0, none⟩) nL5 nL5)), (1, some _), (2, some _)]) ⟨rfl, rfl, rfl, rfl, trivial⟩ ?_
   have ge_L5 : H.next ≤ gL5 := by omega
   have nx_HL1 := lst1.nx
   replace hle := hle.st lst1 (fun k hk => ⟨by omega, trivial⟩)
   replace at2 := lst1.same _ _ ⟨by omega, trivial⟩ at2
   have lt_at_L5 := GHeap.lt_of_get at_L5
   replace hin := base_hin.mono hle
   clear hb2 c02 c12 c22 c32 c42 i12 i22 i32 i42 hm2 hi2
   have hb2 : Cat.At _ g2 0 c p := ⟨Mem.of_get at2, hin⟩
   obtain ⟨c02, c12, c22, c32, c42, i12, i22, i32, i42⟩ := hb2.get
   have hm2 : MemN _ _ _ _ _ := ⟨rfl, hb2.1⟩
   have hi2 := hb2.2
   have hfl := filtN_le k fun g => (decide (c.src.getD g 0 = c.T f) && decide (c.tgt.getD g 0 = c.S f)) && decide (c.th g f = c.I (c.T f))
   refine .seq (fun K5 hK5 => ?_)
   refine .seq (fun K6 hK6 => ?_)
   refine .region ?_
   refine .m rfl rfl rfl (.move rfl) ?_
   refine .m rfl rfl rfl (.fieldAddr fo_31_1_B rfl) ?_
   refine .m rfl rfl rfl (.load on_22_B rfl (by first | assumption | exact Mem.of_get at2 1 _ rfl)) ?_
   refine .m rfl rfl rfl (.len sl_22_A rfl) ?_
   refine .m rfl rfl rfl (.cmp rfl rfl rfl) ?_
   refine .nil ?_
   refine hK6 _ _ ?_
   refine .cond rfl (fun h12 => ?_) (fun h12 => ?_)
   ·
    simp only [sps] at h12
    have q9 := hS.row k (by omega)
    have q10 := i42.2 k (by omega)
    refine .skip ?_
    refine hK5 _ _ ?_
    refine .seq (fun K7 hK7 => ?_)
    refine .block ?_
    refine .seq (fun K8 hK8 => ?_)
    refine .regionD mixed_orders_B (.q 0 (.q 1 (.q 2 (.q 3 (.q 4 (.q 5 (.q 6 (.q 7 (.q 8 (.q 9 (.q 10 (.q 11 (.q 12 (.q 13 (.q 14 (.q 15 (.q 16 (.q 17 (.q 18 (.q 19 (.q 20 (.q 21 (.q 22 (.q 23 (.q 24 (.q 25 (.q 26 (.q 27 (.q 28 (.q 29 (.q 30 (.q 31 (.q 32 (.q 33 (.q 34 (.q 35 (.q 36 (.q 37 (.q 38 (.q 39 (.q 40 (.q 41 (.q 42 (.q 43 (.done))))))))))))))))))))))))))))))))))))))))))))) (by kernel_rfl) ?_
    refine .m rfl rfl rfl rfl (.refl _) (.fieldAddr fo_31_1_B rfl) ?_
    refine .m rfl rfl rfl rfl (.refl _) (.load on_22_B rfl (by first | assumption | exact Mem.of_get at2 1 _ rfl)) ?_
    refine .m rfl rfl rfl rfl (.refl _) (.move rfl) ?_
    refine .m rfl rfl rfl rfl (.refl _) (.idxN sl_22_A (by assumption) rfl rfl (by omega)) ?_
    refine .m rfl rfl rfl rfl (.refl _) (.loadI on_2_A (by assumption) rfl (by omega)) ?_
    refine .m rfl rfl rfl rfl (.refl _) (.fieldAddr fo_31_2_B rfl) ?_
    refine .m rfl rfl rfl rfl (.refl _) (.load on_22_B rfl (by first | assumption | exact Mem.of_get at2 2 _ rfl)) ?_
    refine .m rfl rfl rfl rfl (.refl _) (.move rfl) ?_
    refine .m rfl rfl rfl rfl (.refl _) (.idx1 sl_22_A (by assumption) rfl rfl (by omega) (by omega)) ?_
    refine .m rfl rfl rfl rfl (.refl _) (.loadI on_2_A (by assumption) rfl (by omega)) ?_
    refine .m rfl rfl rfl rfl (.refl _) (.cmp rfl rfl rfl) ?_
    refine .m rfl rfl rfl rfl (.refl _) (.move rfl) ?_
    refine .split (fun h26 => ?_) (fun h26 => ?_)
    ·
     try simp only [sps] at h26
     refine .mg rfl rfl rfl rfl rfl rfl (.refl _) (.fieldAddr fo_31_2_B rfl) ?_
     refine .mg rfl rfl rfl rfl rfl rfl (.refl _) (.load on_22_B rfl (by first | assumption | exact Mem.of_get at2 2 _ rfl)) ?_
     refine .mg rfl rfl rfl rfl rfl rfl (.refl _) (.move rfl) ?_
     refine .mg rfl rfl rfl rfl rfl rfl (.refl _) (.idxN sl_22_A (by assumption) rfl rfl (by omega)) ?_
     refine .mg rfl rfl rfl rfl rfl rfl (.refl _) (.loadI on_2_A (by assumption) rfl (by omega)) ?_
     refine .mg rfl rfl rfl rfl rfl rfl (.refl _) (.fieldAddr fo_31_1_B rfl) ?_
     refine .mg rfl rfl rfl rfl rfl rfl (.refl _) (.load on_22_B rfl (by first | assumption | exact Mem.of_get at2 1 _ rfl)) ?_
     refine .mg rfl rfl rfl rfl rfl rfl (.refl _) (.move rfl) ?_
     refine .mg rfl rfl rfl rfl rfl rfl (.refl _) (.idx1 sl_22_A (by assumption) rfl rfl (by omega) (by omega)) ?_
     refine .mg rfl rfl rfl rfl rfl rfl (.refl _) (.loadI on_2_A (by assumption) rfl (by omega)) ?_
     refine .mg rfl rfl rfl rfl rfl rfl (.refl _) (.cmp rfl rfl rfl) ?_
     refine .m rfl rfl rfl rfl (.refl _) (.pickT rfl rfl) ?_
     refine .m rfl rfl rfl rfl (.refl _) (.move rfl) ?_
     refine .split (fun h39 => ?_) (fun h39 => ?_)
     ·
      try simp only [sps] at h39
      refine .mg rfl rfl rfl rfl rfl rfl (.refl _) (.fieldAddr fo_31_4_B rfl) ?_
      refine .mg rfl rfl rfl rfl rfl rfl (.refl _) (.load on_23_B rfl (by first | assumption | exact Mem.of_get at2 4 _ rfl)) ?_
      refine .mg rfl rfl rfl rfl rfl rfl (.refl _) (.move rfl) ?_
      refine .mg rfl rfl rfl rfl rfl rfl (.refl _) (.idxN sl_23_B (Intss.sl (by assumption)) rfl rfl (by omega)) ?_
      refine .mg rfl rfl rfl rfl rfl rfl (.refl _) (.loadR on_22_B (by assumption) rfl (by omega)) ?_
      refine .mg rfl rfl rfl rfl rfl rfl (.refl _) (.move rfl) ?_
      refine .mg rfl rfl rfl rfl rfl rfl (.refl _) (.idx1 sl_22_A (by assumption) rfl rfl (by omega) (by omega)) ?_
      refine .mg rfl rfl rfl rfl rfl rfl (.refl _) (.loadI on_2_A (by assumption) rfl (by omega)) ?_
      refine .mg rfl rfl rfl rfl rfl rfl (.refl _) (.fieldAddr fo_31_3_B rfl) ?_
      refine .mg rfl rfl rfl rfl rfl rfl (.refl _) (.load on_22_B rfl (by first | assumption | exact Mem.of_get at2 3 _ rfl)) ?_
      refine .mg rfl rfl rfl rfl rfl rfl (.refl _) (.fieldAddr fo_31_2_B rfl) ?_
      refine .mg rfl rfl rfl rfl rfl rfl (.refl _) (.load on_22_B rfl (by first | assumption | exact Mem.of_get at2 2 _ rfl)) ?_
      refine .mg rfl rfl rfl rfl rfl rfl (.refl _) (.move rfl) ?_
      refine .mg rfl rfl rfl rfl rfl rfl (.refl _) (.idx1 sl_22_A (by assumption) rfl rfl (by omega) (by omega)) ?_
      refine .mg rfl rfl rfl rfl rfl rfl (.refl _) (.loadI on_2_A (by assumption) rfl (by omega)) ?_
      refine .mg rfl rfl rfl rfl rfl rfl (.refl _) (.idx1 sl_22_A (by assumption) rfl rfl (by omega) (by omega)) ?_
      refine .mg rfl rfl rfl rfl rfl rfl (.refl _) (.loadI on_2_A (by assumption) rfl (by omega)) ?_
      refine .mg rfl rfl rfl rfl rfl rfl (.refl _) (.cmp rfl rfl rfl) ?_
      refine .m rfl rfl rfl rfl (.refl _) (.pickT rfl rfl) ?_
      refine .done ?_
      refine hK8 _ _ ?_
      refine .cond rfl (fun h58 => ?_) (fun h58 => ?_)
      ·
       try simp only [sps] at h58
       refine .region ?_
       refine .m rfl rfl rfl (.move rfl) ?_
       refine .m rfl rfl rfl (.move rfl) ?_
       refine .r rfl rfl rfl (.litR rfl sl_22_A ze_2_E rfl rfl (by omega) (by omega) rfl rfl) ?_
       rintro _ H61 ⟨g61, rfl, le61, ge61, at61⟩
       have nx_H61 := le61.1
       replace hle := hle.trans le61
       replace lst1 := lst1.le le61
       replace at2 := le61.2 _ _ at2
       replace at_L5 := le61.2 _ _ at_L5
       have lt_at61 := GHeap.lt_of_get at61
       replace hin := base_hin.mono hle
       clear hb2 c02 c12 c22 c32 c42 i12 i22 i32 i42 hm2 hi2
       have hb2 : Cat.At _ g2 0 c p := ⟨Mem.of_get at2, hin⟩
       obtain ⟨c02, c12, c22, c32, c42, i12, i22, i32, i42⟩ := hb2.get
       have hm2 : MemN _ _ _ _ _ := ⟨rfl, hb2.1⟩
       have hi2 := hb2.2
       refine .r rfl rfl rfl (.appendI rfl sl_22_A ze_2_E rfl by_2_E sl_22_A rfl rfl (by assumption) (by assumption) (by first | omega | (simp <;> omega)) (by omega) (by omega)) ?_
       rintro _ H62 ⟨g62, rfl, st62, ge62, at62⟩
       have nx_H62 := st62.nx
       replace hle := hle.st st62 (fun k hk => ⟨by omega, trivial⟩)
       replace lst1 := lst1.st st62 (fun k hk ho => by simp only [out, and_true] at ho ⊢ <;> omega)
       replace at2 := st62.same _ _ ⟨by omega, trivial⟩ at2
       replace at61 := st62.same _ _ ⟨by omega, trivial⟩ at61
       have lt_at62 := GHeap.lt_of_get at62
       replace hin := base_hin.mono hle
       clear hb2 c02 c12 c22 c32 c42 i12 i22 i32 i42 hm2 hi2
       have hb2 : Cat.At _ g2 0 c p := ⟨Mem.of_get at2, hin⟩
       obtain ⟨c02, c12, c22, c32, c42, i12, i22, i32, i42⟩ := hb2.get
       have hm2 : MemN _ _ _ _ _ := ⟨rfl, hb2.1⟩
       have hi2 := hb2.2
       refine .m rfl rfl rfl (.assign rfl) ?_
       refine .nil ?_
       refine hK7 _ _ ?_
       refine .region ?_
       refine .m rfl rfl rfl (.move rfl) ?_
       refine .m rfl rfl rfl (.add rfl rfl rfl (by omega) (by omega)) ?_
       refine .m rfl rfl rfl (.assign rfl) ?_
       refine .nil ?_
       refine hKL1 ((k + 1, _, _)) _ _ ?_ ?_ ⟨rfl, rfl, rfl, rfl, trivial⟩
       ·
        refine ⟨lst1, by first | assumption | (rw [filtN_T (by simp only [sps]; simp only [Cat.S, Cat.T, Cat.th, Cat.I, Int.toNat_natCast]; omega)]; assumption) | (rw [filtN_F (by simp only [sps]; simp only [Cat.S, Cat.T, Cat.th, Cat.I, Int.toNat_natCast]; omega)]; assumption), by omega, by first | omega | (simp only [List.length_append, List.length_cons, List.length_nil] <;> omega) | (rw [filtN_T (by simp only [sps]; simp only [Cat.S, Cat.T, Cat.th, Cat.I, Int.toNat_natCast]; omega)] <;> (first | omega | (simp only [List.length_append, List.length_cons, List.length_nil] <;> omega))) | (rw [filtN_F (by simp only [sps]; simp only [Cat.S, Cat.T, Cat.th, Cat.I, Int.toNat_natCast]; omega)] <;> (first | omega | (simp only [List.length_append, List.length_cons, List.length_nil] <;> omega))), ?_⟩
        omega
       ·
        (dsimp only; omega)
      ·
       try simp only [sps] at h58
       refine .skip ?_
       refine hK7 _ _ ?_
       refine .region ?_
       refine .m rfl rfl rfl (.move rfl) ?_
       refine .m rfl rfl rfl (.add rfl rfl rfl (by omega) (by omega)) ?_
       refine .m rfl rfl rfl (.assign rfl) ?_
       refine .nil ?_
       refine hKL1 ((k + 1, _, _)) _ _ ?_ ?_ ⟨rfl, rfl, rfl, rfl, trivial⟩
       ·
        refine ⟨lst1, by first | assumption | (rw [filtN_T (by simp only [sps]; simp only [Cat.S, Cat.T, Cat.th, Cat.I, Int.toNat_natCast]; omega)]; assumption) | (rw [filtN_F (by simp only [sps]; simp only [Cat.S, Cat.T, Cat.th, Cat.I, Int.toNat_natCast]; omega)]; assumption), by omega, by first | omega | (simp only [List.length_append, List.length_cons, List.length_nil] <;> omega) | (rw [filtN_T (by simp only [sps]; simp only [Cat.S, Cat.T, Cat.th, Cat.I, Int.toNat_natCast]; omega)] <;> (first | omega | (simp only [List.length_append, List.length_cons, List.length_nil] <;> omega))) | (rw [filtN_F (by simp only [sps]; simp only [Cat.S, Cat.T, Cat.th, Cat.I, Int.toNat_natCast]; omega)] <;> (first | omega | (simp only [List.length_append, List.length_cons, List.length_nil] <;> omega))), ?_⟩
        omega
       ·
        (dsimp only; omega)
     ·
      try simp only [sps] at h39
      refine .sg rfl rfl rfl rfl rfl rfl ?_
      refine .sg rfl rfl rfl rfl rfl rfl ?_
      refine .sg rfl rfl rfl rfl rfl rfl ?_
      refine .sg rfl rfl rfl rfl rfl rfl ?_
      refine .sg rfl rfl rfl rfl rfl rfl ?_
      refine .sg rfl rfl rfl rfl rfl rfl ?_
      refine .sg rfl rfl rfl rfl rfl rfl ?_
      refine .sg rfl rfl rfl rfl rfl rfl ?_
      refine .sg rfl rfl rfl rfl rfl rfl ?_
      refine .sg rfl rfl rfl rfl rfl rfl ?_
      refine .sg rfl rfl rfl rfl rfl rfl ?_
      refine .sg rfl rfl rfl rfl rfl rfl ?_
      refine .sg rfl rfl rfl rfl rfl rfl ?_
      refine .sg rfl rfl rfl rfl rfl rfl ?_
      refine .sg rfl rfl rfl rfl rfl rfl ?_
      refine .sg rfl rfl rfl rfl rfl rfl ?_
      refine .sg rfl rfl rfl rfl rfl rfl ?_
      refine .sg rfl rfl rfl rfl rfl rfl ?_
      refine .m rfl rfl rfl rfl (.refl _) (.pickF rfl rfl) ?_
      refine .done ?_
      refine hK8 _ _ ?_
      refine .condF rfl ?_
      refine .skip ?_
      refine hK7 _ _ ?_
      refine .region ?_
      refine .m rfl rfl rfl (.move rfl) ?_
      refine .m rfl rfl rfl (.add rfl rfl rfl (by omega) (by omega)) ?_
      refine .m rfl rfl rfl (.assign rfl) ?_
      refine .nil ?_
      refine hKL1 ((k + 1, _, _)) _ _ ?_ ?_ ⟨rfl, rfl, rfl, rfl, trivial⟩
      ·
       refine ⟨lst1, by first | assumption | (rw [filtN_T (by simp only [sps]; simp only [Cat.S, Cat.T, Cat.th, Cat.I, Int.toNat_natCast]; omega)]; assumption) | (rw [filtN_F (by simp only [sps]; simp only [Cat.S, Cat.T, Cat.th, Cat.I, Int.toNat_natCast]; omega)]; assumption), by omega, by first | omega | (simp only [List.length_append, List.length_cons, List.length_nil] <;> omega) | (rw [filtN_T (by simp only [sps]; simp only [Cat.S, Cat.T, Cat.th, Cat.I, Int.toNat_natCast]; omega)] <;> (first | omega | (simp only [List.length_append, List.length_cons, List.length_nil] <;> omega))) | (rw [filtN_F (by simp only [sps]; simp only [Cat.S, Cat.T, Cat.th, Cat.I, Int.toNat_natCast]; omega)] <;> (first | omega | (simp only [List.length_append, List.length_cons, List.length_nil] <;> omega))), ?_⟩
       omega
      ·
       (dsimp only; omega)
    ·
     try simp only [sps] at h26
     refine .sg rfl rfl rfl rfl rfl rfl ?_
     refine .sg rfl rfl rfl rfl rfl rfl ?_
     refine .sg rfl rfl rfl rfl rfl rfl ?_
     refine .sg rfl rfl rfl rfl rfl rfl ?_
     refine .sg rfl rfl rfl rfl rfl rfl ?_
     refine .sg rfl rfl rfl rfl rfl rfl ?_
     refine .sg rfl rfl rfl rfl rfl rfl ?_
     refine .sg rfl rfl rfl rfl rfl rfl ?_
     refine .sg rfl rfl rfl rfl rfl rfl ?_
     refine .sg rfl rfl rfl rfl rfl rfl ?_
     refine .sg rfl rfl rfl rfl rfl rfl ?_
     refine .m rfl rfl rfl rfl (.refl _) (.pickF rfl rfl) ?_
     refine .m rfl rfl rfl rfl (.refl _) (.move rfl) ?_
     refine .sg rfl rfl rfl rfl rfl rfl ?_
     refine .sg rfl rfl rfl rfl rfl rfl ?_
     refine .sg rfl rfl rfl rfl rfl rfl ?_
     refine .sg rfl rfl rfl rfl rfl rfl ?_
     refine .sg rfl rfl rfl rfl rfl rfl ?_
     refine .sg rfl rfl rfl rfl rfl rfl ?_
     refine .sg rfl rfl rfl rfl rfl rfl ?_
     refine .sg rfl rfl rfl rfl rfl rfl ?_
     refine .sg rfl rfl rfl rfl rfl rfl ?_
     refine .sg rfl rfl rfl rfl rfl rfl ?_
     refine .sg rfl rfl rfl rfl rfl rfl ?_
     refine .sg rfl rfl rfl rfl rfl rfl ?_
     refine .sg rfl rfl rfl rfl rfl rfl ?_
     refine .sg rfl rfl rfl rfl rfl rfl ?_
     refine .sg rfl rfl rfl rfl rfl rfl ?_
     refine .sg rfl rfl rfl rfl rfl rfl ?_
     refine .sg rfl rfl rfl rfl rfl rfl ?_
     refine .sg rfl rfl rfl rfl rfl rfl ?_
     refine .m rfl rfl rfl rfl (.refl _) (.pickF rfl rfl) ?_
     refine .done ?_
     refine hK8 _ _ ?_
     refine .condF rfl ?_
     refine .skip ?_
     refine hK7 _ _ ?_
     refine .region ?_
     refine .m rfl rfl rfl (.move rfl) ?_
     refine .m rfl rfl rfl (.add rfl rfl rfl (by omega) (by omega)) ?_
     refine .m rfl rfl rfl (.assign rfl) ?_
     refine .nil ?_
     refine hKL1 ((k + 1, _, _)) _ _ ?_ ?_ ⟨rfl, rfl, rfl, rfl, trivial⟩
     ·
      refine ⟨lst1, by first | assumption | (rw [filtN_T (by simp only [sps]; simp only [Cat.S, Cat.T, Cat.th, Cat.I, Int.toNat_natCast]; omega)]; assumption) | (rw [filtN_F (by simp only [sps]; simp only [Cat.S, Cat.T, Cat.th, Cat.I, Int.toNat_natCast]; omega)]; assumption), by omega, by first | omega | (simp only [List.length_append, List.length_cons, List.length_nil] <;> omega) | (rw [filtN_T (by simp only [sps]; simp only [Cat.S, Cat.T, Cat.th, Cat.I, Int.toNat_natCast]; omega)] <;> (first | omega | (simp only [List.length_append, List.length_cons, List.length_nil] <;> omega))) | (rw [filtN_F (by simp only [sps]; simp only [Cat.S, Cat.T, Cat.th, Cat.I, Int.toNat_natCast]; omega)] <;> (first | omega | (simp only [List.length_append, List.length_cons, List.length_nil] <;> omega))), ?_⟩
      omega
     ·
      (dsimp only; omega)
   ·
    try simp only [sps] at h12
    refine .exit ?_
    refine hK3 _ _ ?_
    refine .seq (fun K9 hK9 => ?_)
    refine .region ?_
    refine .m rfl rfl rfl (.move rfl) ?_
    refine .m rfl rfl rfl (.assign rfl) ?_
    refine .nil ?_
    refine hK9 _ _ ?_
    refine .ret ?_
    -- leaf e1
    refine hret _ _ ?_
    refine ⟨_, rfl, ?_⟩
    obtain rfl : k = c.src.length := by omega
    exact ⟨hle, _, by rw [ln_L5]; rfl, at_L5, ge_L5⟩
theorem l05Retractions_c {c : Cat} {p : CatP} {f : Int} {H : GHeap} (hin : c.In H p := by assumption) (hS : c.Shape := by assumption) (h0 : 0 ≤ f := by omega) (h1 : f < c.src.length := by omega) :
    GCalls Try.prog 112 [.agg (c.cells p).toArray, .int .i64 f] H (NewInts 2 H (c.retr f)) := by
  refine GCalls.body (N := 64) (rs := [.tmp 4]) Try.func112 rfl rfl rfl rfl (fun Qx hret hend => ?_)
  refine .forget (fr' := [(0, some _), (1, some _)]) ⟨rfl, rfl, trivial⟩ ?_
  have hle := GHeap.Le.refl H
  have base_hin := hin
  have q1 := hS.tl
  have q2 := hS.n40
  have q3 := hS.il
  have q4 := hS.src f.toNat (by omega)
  have q5 := hS.tgt f.toNat (by omega)
  have q6 := hS.cl
  have q9 := hS.row f.toNat (by omega)
  refine .seq (fun K1 hK1 => ?_)
  refine .region ?_
  refine .r rfl rfl rfl (.boxR rfl sz_31_D rfl) ?_
  rintro _ H2 ⟨g2, rfl, le2, ge2, at2⟩
  have nx_H2 := le2.1
  replace hle := hle.trans le2
  have lt_at2 := GHeap.lt_of_get at2
  replace hin := base_hin.mono hle
  have hb2 : Cat.At _ g2 0 c p := ⟨Mem.of_get at2, hin⟩
  obtain ⟨c02, c12, c22, c32, c42, i12, i22, i32, i42⟩ := hb2.get
  have hm2 : MemN _ _ _ _ _ := ⟨rfl, hb2.1⟩
  have hi2 := hb2.2
  refine .m rfl rfl rfl (.assign rfl) ?_
  refine .nil ?_
  refine hK1 _ _ ?_
  refine .seq (fun K2 hK2 => ?_)
  refine .region ?_
  refine .r rfl rfl rfl (.litR rfl sl_22_A ze_2_E rfl rfl (by omega) (by omega) rfl rfl) ?_
  rintro _ H7 ⟨g7, rfl, le7, ge7, at7⟩
  have nx_H7 := le7.1
  replace hle := hle.trans le7
  replace at2 := le7.2 _ _ at2
  have lt_at7 := GHeap.lt_of_get at7
  replace hin := base_hin.mono hle
  clear hb2 c02 c12 c22 c32 c42 i12 i22 i32 i42 hm2 hi2
  have hb2 : Cat.At _ g2 0 c p := ⟨Mem.of_get at2, hin⟩
  obtain ⟨c02, c12, c22, c32, c42, i12, i22, i32, i42⟩ := hb2.get
  have hm2 : MemN _ _ _ _ _ := ⟨rfl, hb2.1⟩
  have hi2 := hb2.2
  replace at7 : GHeap.get H7 g7 = some (.row (ints []) 2 true) := at7
  refine .m rfl rfl rfl (.assign rfl) ?_
  refine .nil ?_
  refine hK2 _ _ ?_
  refine .seq (fun K3 hK3 => ?_)
  refine .seq (fun K4 hK4 => ?_)
  refine .region ?_
  refine .m rfl rfl rfl (.assign rfl) ?_
  refine .nil ?_
  refine hK4 _ _ ?_
  refine .block ?_
  refine .loopR (σ := Nat × Nat × Nat) [(1, some _), (2, some _)] (fun (k, gL5, nL5) => [(6, some (.int .i64 (k : Int))), (5, some (.slice (some ⟨gL5, 0, none⟩) nL5 nL5))]) (fun (k, gL5, nL5) H' => St [g7] H7 H' ∧ H'.get gL5 = some (.row (ints (filtN k fun g => (decide (c.src.getD g 0 = c.T f) && decide (c.tgt.getD g 0 = c.S f)) && decide (c.th f g = c.I (c.S f)))) 2 true) ∧ (gL5 = g7 ∨ H7.next ≤ gL5) ∧ nL5 = (filtN k fun g => (decide (c.src.getD g 0 = c.T f) && decide (c.tgt.getD g 0 = c.S f)) && decide (c.th f g = c.I (c.S f))).length ∧ k ≤ c.src.length) (fun (k, gL5, nL5) => c.src.length - k) ((0, _, _)) ⟨rfl, rfl, trivial⟩ ⟨rfl, rfl, trivial⟩ ?_ ?_
  ·
   refine ⟨.refl _ _, by first | assumption | exact at7 | simpa using at7, .inl rfl, by first | rfl | assumption | simp | omega, ?_⟩
   omega
  ·
   rintro ⟨k, gL5, nL5⟩ HL1 ⟨lst1, at_L5, pl_L5, ln_L5, hI⟩ KL1 hKL1
   refine .forget (fr' := [(6, some (.int .i64 (k : Int))), (5, some (.slice (some ⟨gL5, 0, none⟩) nL5 nL5)), (1, some _), (2, some _)]) ⟨rfl, rfl, rfl, rfl, trivial⟩ ?_
   have ge_L5 : H.next ≤ gL5 := by omega
   have nx_HL1 := lst1.nx
   replace hle := hle.st lst1 (fun k hk => ⟨by omega, trivial⟩)
   replace at2 := lst1.same _ _ ⟨by omega, trivial⟩ at2
   have lt_at_L5 := GHeap.lt_of_get at_L5
   replace hin := base_hin.mono hle
   clear hb2 c02 c12 c22 c32 c42 i12 i22 i32 i42 hm2 hi2
   have hb2 : Cat.At _ g2 0 c p := ⟨Mem.of_get at2, hin⟩
   obtain ⟨c02, c12, c22, c32, c42, i12, i22, i32, i42⟩ := hb2.get
   have hm2 : MemN _ _ _ _ _ := ⟨rfl, hb2.1⟩
   have hi2 := hb2.2
   have hfl := filtN_le k fun g => (decide (c.src.getD g 0 = c.T f) && decide (c.tgt.getD g 0 = c.S f)) && decide (c.th f g = c.I (c.S f))
   refine .seq (fun K5 hK5 => ?_)
   refine .seq (fun K6 hK6 => ?_)
   refine .region ?_
   refine .m rfl rfl rfl (.move rfl) ?_
   refine .m rfl rfl rfl (.fieldAddr fo_31_1_B rfl) ?_
   refine .m rfl rfl rfl (.load on_22_B rfl (by first | assumption | exact Mem.of_get at2 1 _ rfl)) ?_
   refine .m rfl rfl rfl (.len sl_22_A rfl) ?_
   refine .m rfl rfl rfl (.cmp rfl rfl rfl) ?_
   refine .nil ?_
   refine hK6 _ _ ?_
   refine .cond rfl (fun h12 => ?_) (fun h12 => ?_)
   ·
    simp only [sps] at h12
    have q10 := i42.2 f.toNat (by omega)
    refine .skip ?_
    refine hK5 _ _ ?_
    refine .seq (fun K7 hK7 => ?_)
    refine .block ?_
    refine .seq (fun K8 hK8 => ?_)
    refine .regionD mixed_orders_B (.q 0 (.q 1 (.q 2 (.q 3 (.q 4 (.q 5 (.q 6 (.q 7 (.q 8 (.q 9 (.q 10 (.q 11 (.q 12 (.q 13 (.q 14 (.q 15 (.q 16 (.q 17 (.q 18 (.q 19 (.q 20 (.q 21 (.q 22 (.q 23 (.q 24 (.q 25 (.q 26 (.q 27 (.q 28 (.q 29 (.q 30 (.q 31 (.q 32 (.q 33 (.q 34 (.q 35 (.q 36 (.q 37 (.q 38 (.q 39 (.q 40 (.q 41 (.q 42 (.q 43 (.done))))))))))))))))))))))))))))))))))))))))))))) (by kernel_rfl) ?_
    refine .m rfl rfl rfl rfl (.refl _) (.fieldAddr fo_31_1_B rfl) ?_
    refine .m rfl rfl rfl rfl (.refl _) (.load on_22_B rfl (by first | assumption | exact Mem.of_get at2 1 _ rfl)) ?_
    refine .m rfl rfl rfl rfl (.refl _) (.move rfl) ?_
    refine .m rfl rfl rfl rfl (.refl _) (.idxN sl_22_A (by assumption) rfl rfl (by omega)) ?_
    refine .m rfl rfl rfl rfl (.refl _) (.loadI on_2_A (by assumption) rfl (by omega)) ?_
    refine .m rfl rfl rfl rfl (.refl _) (.fieldAddr fo_31_2_B rfl) ?_
    refine .m rfl rfl rfl rfl (.refl _) (.load on_22_B rfl (by first | assumption | exact Mem.of_get at2 2 _ rfl)) ?_
    refine .m rfl rfl rfl rfl (.refl _) (.move rfl) ?_
    refine .m rfl rfl rfl rfl (.refl _) (.idx1 sl_22_A (by assumption) rfl rfl (by omega) (by omega)) ?_
    refine .m rfl rfl rfl rfl (.refl _) (.loadI on_2_A (by assumption) rfl (by omega)) ?_
    refine .m rfl rfl rfl rfl (.refl _) (.cmp rfl rfl rfl) ?_
    refine .m rfl rfl rfl rfl (.refl _) (.move rfl) ?_
    refine .split (fun h26 => ?_) (fun h26 => ?_)
    ·
     try simp only [sps] at h26
     refine .mg rfl rfl rfl rfl rfl rfl (.refl _) (.fieldAddr fo_31_2_B rfl) ?_
     refine .mg rfl rfl rfl rfl rfl rfl (.refl _) (.load on_22_B rfl (by first | assumption | exact Mem.of_get at2 2 _ rfl)) ?_
     refine .mg rfl rfl rfl rfl rfl rfl (.refl _) (.move rfl) ?_
     refine .mg rfl rfl rfl rfl rfl rfl (.refl _) (.idxN sl_22_A (by assumption) rfl rfl (by omega)) ?_
     refine .mg rfl rfl rfl rfl rfl rfl (.refl _) (.loadI on_2_A (by assumption) rfl (by omega)) ?_
     refine .mg rfl rfl rfl rfl rfl rfl (.refl _) (.fieldAddr fo_31_1_B rfl) ?_
     refine .mg rfl rfl rfl rfl rfl rfl (.refl _) (.load on_22_B rfl (by first | assumption | exact Mem.of_get at2 1 _ rfl)) ?_
     refine .mg rfl rfl rfl rfl rfl rfl (.refl _) (.move rfl) ?_
     refine .mg rfl rfl rfl rfl rfl rfl (.refl _) (.idx1 sl_22_A (by assumption) rfl rfl (by omega) (by omega)) ?_
     refine .mg rfl rfl rfl rfl rfl rfl (.refl _) (.loadI on_2_A (by assumption) rfl (by omega)) ?_
     refine .mg rfl rfl rfl rfl rfl rfl (.refl _) (.cmp rfl rfl rfl) ?_
     refine .m rfl rfl rfl rfl (.refl _) (.pickT rfl rfl) ?_
     refine .m rfl rfl rfl rfl (.refl _) (.move rfl) ?_
     refine .split (fun h39 => ?_) (fun h39 => ?_)
     ·
      try simp only [sps] at h39
      refine .mg rfl rfl rfl rfl rfl rfl (.refl _) (.fieldAddr fo_31_4_B rfl) ?_
      refine .mg rfl rfl rfl rfl rfl rfl (.refl _) (.load on_23_B rfl (by first | assumption | exact Mem.of_get at2 4 _ rfl)) ?_
      refine .mg rfl rfl rfl rfl rfl rfl (.refl _) (.move rfl) ?_
      refine .mg rfl rfl rfl rfl rfl rfl (.refl _) (.idx1 sl_23_B (Intss.sl (by assumption)) rfl rfl (by omega) (by omega)) ?_
      refine .mg rfl rfl rfl rfl rfl rfl (.refl _) (.loadR on_22_B (by assumption) rfl (by omega)) ?_
      refine .mg rfl rfl rfl rfl rfl rfl (.refl _) (.move rfl) ?_
      refine .mg rfl rfl rfl rfl rfl rfl (.refl _) (.idxN sl_22_A (by assumption) rfl rfl (by omega)) ?_
      refine .mg rfl rfl rfl rfl rfl rfl (.refl _) (.loadI on_2_A (by assumption) rfl (by omega)) ?_
      refine .mg rfl rfl rfl rfl rfl rfl (.refl _) (.fieldAddr fo_31_3_B rfl) ?_
      refine .mg rfl rfl rfl rfl rfl rfl (.refl _) (.load on_22_B rfl (by first | assumption | exact Mem.of_get at2 3 _ rfl)) ?_
      refine .mg rfl rfl rfl rfl rfl rfl (.refl _) (.fieldAddr fo_31_1_B rfl) ?_
      refine .mg rfl rfl rfl rfl rfl rfl (.refl _) (.load on_22_B rfl (by first | assumption | exact Mem.of_get at2 1 _ rfl)) ?_
      refine .mg rfl rfl rfl rfl rfl rfl (.refl _) (.move rfl) ?_
      refine .mg rfl rfl rfl rfl rfl rfl (.refl _) (.idx1 sl_22_A (by assumption) rfl rfl (by omega) (by omega)) ?_
      refine .mg rfl rfl rfl rfl rfl rfl (.refl _) (.loadI on_2_A (by assumption) rfl (by omega)) ?_
      refine .mg rfl rfl rfl rfl rfl rfl (.refl _) (.idx1 sl_22_A (by assumption) rfl rfl (by omega) (by omega)) ?_
      refine .mg rfl rfl rfl rfl rfl rfl (.refl _) (.loadI on_2_A (by assumption) rfl (by omega)) ?_
      refine .mg rfl rfl rfl rfl rfl rfl (.refl _) (.cmp rfl rfl rfl) ?_
      refine .m rfl rfl rfl rfl (.refl _) (.pickT rfl rfl) ?_
      refine .done ?_
      refine hK8 _ _ ?_
      refine .cond rfl (fun h58 => ?_) (fun h58 => ?_)
      ·
       try simp only [sps] at h58
       refine .region ?_
       refine .m rfl rfl rfl (.move rfl) ?_
       refine .m rfl rfl rfl (.move rfl) ?_
       refine .r rfl rfl rfl (.litR rfl sl_22_A ze_2_E rfl rfl (by omega) (by omega) rfl rfl) ?_
       rintro _ H61 ⟨g61, rfl, le61, ge61, at61⟩
       have nx_H61 := le61.1
       replace hle := hle.trans le61
       replace lst1 := lst1.le le61
       replace at2 := le61.2 _ _ at2
       replace at_L5 := le61.2 _ _ at_L5
       have lt_at61 := GHeap.lt_of_get at61
       replace hin := base_hin.mono hle
       clear hb2 c02 c12 c22 c32 c42 i12 i22 i32 i42 hm2 hi2
       have hb2 : Cat.At _ g2 0 c p := ⟨Mem.of_get at2, hin⟩
       obtain ⟨c02, c12, c22, c32, c42, i12, i22, i32, i42⟩ := hb2.get
       have hm2 : MemN _ _ _ _ _ := ⟨rfl, hb2.1⟩
       have hi2 := hb2.2
       refine .r rfl rfl rfl (.appendI rfl sl_22_A ze_2_E rfl by_2_E sl_22_A rfl rfl (by assumption) (by assumption) (by first | omega | (simp <;> omega)) (by omega) (by omega)) ?_
       rintro _ H62 ⟨g62, rfl, st62, ge62, at62⟩
       have nx_H62 := st62.nx
       replace hle := hle.st st62 (fun k hk => ⟨by omega, trivial⟩)
       replace lst1 := lst1.st st62 (fun k hk ho => by simp only [out, and_true] at ho ⊢ <;> omega)
       replace at2 := st62.same _ _ ⟨by omega, trivial⟩ at2
       replace at61 := st62.same _ _ ⟨by omega, trivial⟩ at61
       have lt_at62 := GHeap.lt_of_get at62
       replace hin := base_hin.mono hle
       clear hb2 c02 c12 c22 c32 c42 i12 i22 i32 i42 hm2 hi2
       have hb2 : Cat.At _ g2 0 c p := ⟨Mem.of_get at2, hin⟩
       obtain ⟨c02, c12, c22, c32, c42, i12, i22, i32, i42⟩ := hb2.get
       have hm2 : MemN _ _ _ _ _ := ⟨rfl, hb2.1⟩
       have hi2 := hb2.2
       refine .m rfl rfl rfl (.assign rfl) ?_
       refine .nil ?_
       refine hK7 _ _ ?_
       refine .region ?_
       refine .m rfl rfl rfl (.move rfl) ?_
       refine .m rfl rfl rfl (.add rfl rfl rfl (by omega) (by omega)) ?_
       refine .m rfl rfl rfl (.assign rfl) ?_
       refine .nil ?_
       refine hKL1 ((k + 1, _, _)) _ _ ?_ ?_ ⟨rfl, rfl, rfl, rfl, trivial⟩
       ·
        refine ⟨lst1, by first | assumption | (rw [filtN_T (by simp only [sps]; simp only [Cat.S, Cat.T, Cat.th, Cat.I, Int.toNat_natCast]; omega)]; assumption) | (rw [filtN_F (by simp only [sps]; simp only [Cat.S, Cat.T, Cat.th, Cat.I, Int.toNat_natCast]; omega)]; assumption), by omega, by first | omega | (simp only [List.length_append, List.length_cons, List.length_nil] <;> omega) | (rw [filtN_T (by simp only [sps]; simp only [Cat.S, Cat.T, Cat.th, Cat.I, Int.toNat_natCast]; omega)] <;> (first | omega | (simp only [List.length_append, List.length_cons, List.length_nil] <;> omega))) | (rw [filtN_F (by simp only [sps]; simp only [Cat.S, Cat.T, Cat.th, Cat.I, Int.toNat_natCast]; omega)] <;> (first | omega | (simp only [List.length_append, List.length_cons, List.length_nil] <;> omega))), ?_⟩
        omega
       ·
        (dsimp only; omega)
      ·
       try simp only [sps] at h58
       refine .skip ?_
       refine hK7 _ _ ?_
       refine .region ?_
       refine .m rfl rfl rfl (.move rfl) ?_
       refine .m rfl rfl rfl (.add rfl rfl rfl (by omega) (by omega)) ?_
       refine .m rfl rfl rfl (.assign rfl) ?_
       refine .nil ?_
       refine hKL1 ((k + 1, _, _)) _ _ ?_ ?_ ⟨rfl, rfl, rfl, rfl, trivial⟩
       ·
        refine ⟨lst1, by first | assumption | (rw [filtN_T (by simp only [sps]; simp only [Cat.S, Cat.T, Cat.th, Cat.I, Int.toNat_natCast]; omega)]; assumption) | (rw [filtN_F (by simp only [sps]; simp only [Cat.S, Cat.T, Cat.th, Cat.I, Int.toNat_natCast]; omega)]; assumption), by omega, by first | omega | (simp only [List.length_append, List.length_cons, List.length_nil] <;> omega) | (rw [filtN_T (by simp only [sps]; simp only [Cat.S, Cat.T, Cat.th, Cat.I, Int.toNat_natCast]; omega)] <;> (first | omega | (simp only [List.length_append, List.length_cons, List.length_nil] <;> omega))) | (rw [filtN_F (by simp only [sps]; simp only [Cat.S, Cat.T, Cat.th, Cat.I, Int.toNat_natCast]; omega)] <;> (first | omega | (simp only [List.length_append, List.length_cons, List.length_nil] <;> omega))), ?_⟩
        omega
       ·
        (dsimp only; omega)
     ·
      try simp only [sps] at h39
      refine .sg rfl rfl rfl rfl rfl rfl ?_
      refine .sg rfl rfl rfl rfl rfl rfl ?_
      refine .sg rfl rfl rfl rfl rfl rfl ?_
      refine .sg rfl rfl rfl rfl rfl rfl ?_
      refine .sg rfl rfl rfl rfl rfl rfl ?_
      refine .sg rfl rfl rfl rfl rfl rfl ?_
      refine .sg rfl rfl rfl rfl rfl rfl ?_
      refine .sg rfl rfl rfl rfl rfl rfl ?_
      refine .sg rfl rfl rfl rfl rfl rfl ?_
      refine .sg rfl rfl rfl rfl rfl rfl ?_
      refine .sg rfl rfl rfl rfl rfl rfl ?_
      refine .sg rfl rfl rfl rfl rfl rfl ?_
      refine .sg rfl rfl rfl rfl rfl rfl ?_
      refine .sg rfl rfl rfl rfl rfl rfl ?_
      refine .sg rfl rfl rfl rfl rfl rfl ?_
      refine .sg rfl rfl rfl rfl rfl rfl ?_
      refine .sg rfl rfl rfl rfl rfl rfl ?_
      refine .sg rfl rfl rfl rfl rfl rfl ?_
      refine .m rfl rfl rfl rfl (.refl _) (.pickF rfl rfl) ?_
      refine .done ?_
      refine hK8 _ _ ?_
      refine .condF rfl ?_
      refine .skip ?_
      refine hK7 _ _ ?_
      refine .region ?_
      refine .m rfl rfl rfl (.move rfl) ?_
      refine .m rfl rfl rfl (.add rfl rfl rfl (by omega) (by omega)) ?_
      refine .m rfl rfl rfl (.assign rfl) ?_
      refine .nil ?_
      refine hKL1 ((k + 1, _, _)) _ _ ?_ ?_ ⟨rfl, rfl, rfl, rfl, trivial⟩
      ·
       refine ⟨lst1, by first | assumption | (rw [filtN_T (by simp only [sps]; simp only [Cat.S, Cat.T, Cat.th, Cat.I, Int.toNat_natCast]; omega)]; assumption) | (rw [filtN_F (by simp only [sps]; simp only [Cat.S, Cat.T, Cat.th, Cat.I, Int.toNat_natCast]; omega)]; assumption), by omega, by first | omega | (simp only [List.length_append, List.length_cons, List.length_nil] <;> omega) | (rw [filtN_T (by simp only [sps]; simp only [Cat.S, Cat.T, Cat.th, Cat.I, Int.toNat_natCast]; omega)] <;> (first | omega | (simp only [List.length_append, List.length_cons, List.length_nil] <;> omega))) | (rw [filtN_F (by simp only [sps]; simp only [Cat.S, Cat.T, Cat.th, Cat.I, Int.toNat_natCast]; omega)] <;> (first | omega | (simp only [List.length_append, List.length_cons, List.length_nil] <;> omega))), ?_⟩
       omega
      ·
       (dsimp only; omega)
    ·
     try simp only [sps] at h26
     refine .sg rfl rfl rfl rfl rfl rfl ?_
     refine .sg rfl rfl rfl rfl rfl rfl ?_
     refine .sg rfl rfl rfl rfl rfl rfl ?_
     refine .sg rfl rfl rfl rfl rfl rfl ?_
     refine .sg rfl rfl rfl rfl rfl rfl ?_
     refine .sg rfl rfl rfl rfl rfl rfl ?_
     refine .sg rfl rfl rfl rfl rfl rfl ?_
     refine .sg rfl rfl rfl rfl rfl rfl ?_
     refine .sg rfl rfl rfl rfl rfl rfl ?_
     refine .sg rfl rfl rfl rfl rfl rfl ?_
     refine .sg rfl rfl rfl rfl rfl rfl ?_
     refine .m rfl rfl rfl rfl (.refl _) (.pickF rfl rfl) ?_
     refine .m rfl rfl rfl rfl (.refl _) (.move rfl) ?_
     refine .sg rfl rfl rfl rfl rfl rfl ?_
     refine .sg rfl rfl rfl rfl rfl rfl ?_
     refine .sg rfl rfl rfl rfl rfl rfl ?_
     refine .sg rfl rfl rfl rfl rfl rfl ?_
     refine .sg rfl rfl rfl rfl rfl rfl ?_
     refine .sg rfl rfl rfl rfl rfl rfl ?_
     refine .sg rfl rfl rfl rfl rfl rfl ?_
     refine .sg rfl rfl rfl rfl rfl rfl ?_
     refine .sg rfl rfl rfl rfl rfl rfl ?_
     refine .sg rfl rfl rfl rfl rfl rfl ?_
     refine .sg rfl rfl rfl rfl rfl rfl ?_
     refine .sg rfl rfl rfl rfl rfl rfl ?_
     refine .sg rfl rfl rfl rfl rfl rfl ?_
     refine .sg rfl rfl rfl rfl rfl rfl ?_
     refine .sg rfl rfl rfl rfl rfl rfl ?_
     refine .sg rfl rfl rfl rfl rfl rfl ?_
     refine .sg rfl rfl rfl rfl rfl rfl ?_
     refine .sg rfl rfl rfl rfl rfl rfl ?_
     refine .m rfl rfl rfl rfl (.refl _) (.pickF rfl rfl) ?_
     refine .done ?_
     refine hK8 _ _ ?_
     refine .condF rfl ?_
     refine .skip ?_
     refine hK7 _ _ ?_
     refine .region ?_
     refine .m rfl rfl rfl (.move rfl) ?_
     refine .m rfl rfl rfl (.add rfl rfl rfl (by omega) (by omega)) ?_
     refine .m rfl rfl rfl (.assign rfl) ?_
     refine .nil ?_
     refine hKL1 ((k + 1, _, _)) _ _ ?_ ?_ ⟨rfl, rfl, rfl, rfl, trivial⟩
     ·
      refine ⟨lst1, by first | assumption | (rw [filtN_T (by simp only [sps]; simp only [Cat.S, Cat.T, Cat.th, Cat.I, Int.toNat_natCast]; omega)]; assumption) | (rw [filtN_F (by simp only [sps]; simp only [Cat.S, Cat.T, Cat.th, Cat.I, Int.toNat_natCast]; omega)]; assumption), by omega, by first | omega | (simp only [List.length_append, List.length_cons, List.length_nil] <;> omega) | (rw [filtN_T (by simp only [sps]; simp only [Cat.S, Cat.T, Cat.th, Cat.I, Int.toNat_natCast]; omega)] <;> (first | omega | (simp only [List.length_append, List.length_cons, List.length_nil] <;> omega))) | (rw [filtN_F (by simp only [sps]; simp only [Cat.S, Cat.T, Cat.th, Cat.I, Int.toNat_natCast]; omega)] <;> (first | omega | (simp only [List.length_append, List.length_cons, List.length_nil] <;> omega))), ?_⟩
      omega
     ·
      (dsimp only; omega)
   ·
    try simp only [sps] at h12
    refine .exit ?_
    refine hK3 _ _ ?_
    refine .seq (fun K9 hK9 => ?_)
    refine .region ?_
    refine .m rfl rfl rfl (.move rfl) ?_
    refine .m rfl rfl rfl (.assign rfl) ?_
    refine .nil ?_
    refine hK9 _ _ ?_
    refine .ret ?_
    -- leaf e1
    refine hret _ _ ?_
    refine ⟨_, rfl, ?_⟩
    obtain rfl : k = c.src.length := by omega
    exact ⟨hle, _, by rw [ln_L5]; rfl, at_L5, ge_L5⟩
theorem l05Inverse_c {c : Cat} {p : CatP} {f : Int} {H : GHeap} (hin : c.In H p := by assumption) (hS : c.Shape := by assumption) (h0 : 0 ≤ f := by omega) (h1 : f < c.src.length := by omega) :
    GCalls Try.prog 101 [.agg (c.cells p).toArray, .int .i64 f] H (Ret (.int .i64 (c.inv f)) H) := by
  refine GCalls.ret rfl ?_
  refine GCalls.body (N := 30) (rs := [.tmp 4]) Try.func101 rfl rfl rfl rfl (fun Qx hret hend => ?_)
  refine .forget (fr' := [(0, some _), (1, some _)]) ⟨rfl, rfl, trivial⟩ ?_
  have hle := GHeap.Le.refl H
  have base_hin := hin
  have q2 := hS.n40
  have q3 : (c.retr f).length ≤ _ := filtN_le _ _
  have q4 : (c.sect f).length ≤ _ := filtN_le _ _
  refine .seq (fun K1 hK1 => ?_)
  refine .region ?_
  refine .r rfl rfl rfl (.boxR rfl sz_31_D rfl) ?_
  rintro _ H2 ⟨g2, rfl, le2, ge2, at2⟩
  have nx_H2 := le2.1
  replace hle := hle.trans le2
  have lt_at2 := GHeap.lt_of_get at2
  replace hin := base_hin.mono hle
  have hb2 : Cat.At _ g2 0 c p := ⟨Mem.of_get at2, hin⟩
  obtain ⟨c02, c12, c22, c32, c42, i12, i22, i32, i42⟩ := hb2.get
  have hm2 : MemN _ _ _ _ _ := ⟨rfl, hb2.1⟩
  have hi2 := hb2.2
  refine .m rfl rfl rfl (.assign rfl) ?_
  refine .nil ?_
  refine hK1 _ _ ?_
  refine .seq (fun K2 hK2 => ?_)
  refine .regionD mixed_orders_B (.q 0 (.q 1 (.q 3 (.q 4 (.c 2 1 (.c 5 0 (.q 6 (.q 7 (.done))))))))) (by kernel_rfl) ?_
  refine .m rfl rfl rfl rfl (.refl _) (.loadM ag_31_D rfl ⟨rfl, Mem.of_get at2⟩) ?_
  refine .m rfl rfl rfl rfl (.refl _) (.move rfl) ?_
  refine .m rfl rfl rfl rfl (.refl _) (.loadM ag_31_D rfl ⟨rfl, Mem.of_get at2⟩) ?_
  refine .m rfl rfl rfl rfl (.refl _) (.move rfl) ?_
  refine .call1 rfl rfl rfl rfl rfl @Try.call112 rfl (l05Retractions_c) ?_
  rintro _ H10 ⟨le10, g10, rfl, at10, ge10⟩
  have hbl := le10
  refine ⟨hbl, ?_⟩
  have nx_H10 := le10.1
  replace hle := hle.trans le10
  replace at2 := le10.2 _ _ at2
  have lt_at10 := GHeap.lt_of_get at10
  replace hin := base_hin.mono hle
  clear hb2 c02 c12 c22 c32 c42 i12 i22 i32 i42 hm2 hi2
  have hb2 : Cat.At _ g2 0 c p := ⟨Mem.of_get at2, hin⟩
  obtain ⟨c02, c12, c22, c32, c42, i12, i22, i32, i42⟩ := hb2.get
  have hm2 : MemN _ _ _ _ _ := ⟨rfl, hb2.1⟩
  have hi2 := hb2.2
  have i10 := Ints.of_get at10
  refine .call0 rfl rfl rfl rfl rfl @Try.call113 rfl (l05Sections_c) ?_
  rintro _ H13 ⟨le13, g13, rfl, at13, ge13⟩
  have nx_H13 := le13.1
  replace hle := hle.trans le13
  replace at2 := le13.2 _ _ at2
  replace at10 := le13.2 _ _ at10
  have lt_at13 := GHeap.lt_of_get at13
  replace hin := base_hin.mono hle
  clear hb2 c02 c12 c22 c32 c42 i12 i22 i32 i42 hm2 hi2
  have hb2 : Cat.At _ g2 0 c p := ⟨Mem.of_get at2, hin⟩
  obtain ⟨c02, c12, c22, c32, c42, i12, i22, i32, i42⟩ := hb2.get
  have hm2 : MemN _ _ _ _ _ := ⟨rfl, hb2.1⟩
  have hi2 := hb2.2
  clear i10
  have i10 := Ints.of_get at10
  have i13 := Ints.of_get at13
  refine .m rfl rfl rfl rfl (.refl _) (.assign rfl) ?_
  refine .m rfl rfl rfl rfl (.refl _) (.assign rfl) ?_
  refine .done ?_
  refine hK2 _ _ ?_
  refine .seq (fun K3 hK3 => ?_)
  refine .seq (fun K4 hK4 => ?_)
  refine .region ?_
  refine .m rfl rfl rfl (.assign rfl) ?_
  refine .nil ?_
  refine hK4 _ _ ?_
  refine .block ?_
  refine .loopR (σ := Nat) [(5, some _), (6, some _)] (fun k => [(7, some (.int .i64 (k : Int)))]) (fun k H' => H13 = H' ∧ (k : Int) ≤ (c.retr f).length ∧ ∀ i, i < k → (c.sect f).contains ((c.retr f).getD i 0) = false) (fun k => ((c.retr f).length - k : Int).toNat) (0) ⟨rfl, rfl, trivial⟩ ⟨rfl, trivial⟩ ?_ ?_
  ·
   refine ⟨rfl, ?_⟩
   exact ⟨by omega, fun _ _ => by omega⟩
  ·
   rintro k _ ⟨rfl, hI⟩ KL1 hKL1
   refine .forget (fr' := [(7, some (.int .i64 (k : Int))), (5, some _), (6, some _)]) ⟨rfl, rfl, rfl, trivial⟩ ?_
   obtain ⟨hk1, ha1⟩ := hI
   refine .seq (fun K5 hK5 => ?_)
   refine .seq (fun K6 hK6 => ?_)
   refine .region ?_
   refine .m rfl rfl rfl (.move rfl) ?_
   refine .m rfl rfl rfl (.move rfl) ?_
   refine .m rfl rfl rfl (.len sl_22_A rfl) ?_
   refine .m rfl rfl rfl (.cmp rfl rfl rfl) ?_
   refine .nil ?_
   refine hK6 _ _ ?_
   refine .cond rfl (fun h17 => ?_) (fun h17 => ?_)
   ·
    try simp only [sps] at h17
    refine .skip ?_
    refine hK5 _ _ ?_
    refine .seq (fun K7 hK7 => ?_)
    refine .block ?_
    refine .seq (fun K8 hK8 => ?_)
    refine .region ?_
    refine .m rfl rfl rfl (.move rfl) ?_
    refine .m rfl rfl rfl (.move rfl) ?_
    refine .m rfl rfl rfl (.move rfl) ?_
    refine .m rfl rfl rfl (.idxN sl_22_A (by first | assumption | exact SlA.of_row at10 (by first | rfl | (simp; done) | (simp <;> omega))) rfl rfl (by omega)) ?_
    refine .m rfl rfl rfl (.loadI on_2_A (by first | assumption | exact Ints.of_get at10) rfl (by omega)) ?_
    refine .callQ rfl rfl rfl rfl @Try.call114 rfl (l01Has_c) ?_
    refine .nil ?_
    refine hK8 _ _ ?_
    refine .cond rfl (fun h25 => ?_) (fun h25 => ?_)
    ·
     try simp only [sps] at h25
     refine .seq (fun K9 hK9 => ?_)
     refine .region ?_
     refine .m rfl rfl rfl (.move rfl) ?_
     refine .m rfl rfl rfl (.move rfl) ?_
     refine .m rfl rfl rfl (.idxN sl_22_A (by first | assumption | exact SlA.of_row at10 (by first | rfl | (simp; done) | (simp <;> omega))) rfl rfl (by omega)) ?_
     refine .m rfl rfl rfl (.loadI on_2_A (by first | assumption | exact Ints.of_get at10) rfl (by omega)) ?_
     refine .m rfl rfl rfl (.assign rfl) ?_
     refine .nil ?_
     refine hK9 _ _ ?_
     refine .ret ?_
     -- leaf e1
     refine hret _ _ ?_
     refine ⟨_, rfl, ?_⟩
     exact ⟨congrArg _ (by rw [← c.inv_retr]; exact firstIn_some (i := k) (by omega) h25 ha1), hle⟩
    ·
     try simp only [sps] at h25
     refine .skip ?_
     refine hK7 _ _ ?_
     refine .region ?_
     refine .m rfl rfl rfl (.move rfl) ?_
     refine .m rfl rfl rfl (.add rfl rfl rfl (by omega) (by omega)) ?_
     refine .m rfl rfl rfl (.assign rfl) ?_
     refine .nil ?_
     refine hKL1 (k + 1) _ _ ?_ ?_ ⟨rfl, rfl, rfl, trivial⟩
     ·
      refine ⟨rfl, ?_⟩
      refine ⟨by omega, fun i hx => ?_⟩
      by_cases hltq : i < k
      · exact ha1 i hltq
      · obtain rfl : i = k := by omega
        first | assumption | omega | simp_all
     ·
      omega
   ·
    try simp only [sps] at h17
    refine .exit ?_
    refine hK3 _ _ ?_
    refine .seq (fun K10 hK10 => ?_)
    refine .region ?_
    refine .m rfl rfl rfl (.assign rfl) ?_
    refine .nil ?_
    refine hK10 _ _ ?_
    refine .ret ?_
    -- leaf e2
    refine hret _ _ ?_
    refine ⟨_, rfl, ?_⟩
    exact ⟨congrArg _ (by rw [← c.inv_retr]; exact firstIn_none fun i hi => ha1 i (by omega)), hle⟩
end Go.Proofs.Ytnohkokoimmclaa
/- Maps behind maps; full, faithful and essentially surjective functors. No condition. -/
namespace Go.GL
open Go.RowKit

theorem CDo.makeIN {P : Program} {H : GHeap} {fr : Slots} {o : Oper} {t e : TypeId} {x y : Operand} {k k' : IntKind} {l c bytes : Nat} (ho : o.op = .makeSlice t x y) (ht : sliceT P t = some (e, 1)) (hz : zeroT P e = some ([.int .i64 0], 1)) (hb : (P.info? e).map (·.bytes) = some bytes)
    (hx : ev fr x = some (.int k (l : Int))) (hy : ev fr y = some (.int k' (c : Int))) (hlc : l ≤ c) (hsm : bytes * c ≤ 281474976710656) (hsc : c ≤ 9223372036854775807) :
    CDo P o fr H (fun r H' => ∃ g, r = some (.slice (some ⟨g, 0, none⟩) l l) ∧ H.Le H' ∧ H.next ≤ g ∧ H'.get g = some (.row (ints (List.replicate l 0)) e true)) := by
  have := CDo.makeI (P := P) (H := H) (fr := fr) (o := o) ho ht hz hb hx hy (by omega) (by omega) (by omega) (by omega)
  simpa using this

/-- f then g. -/
def thenL (f g : List Int) : List Int := f.map fun y => g.getD y.toNat 0
@[simp] theorem length_thenL (f g : List Int) : (thenL f g).length = f.length := by simp [thenL]
theorem thenL_get {f g : List Int} {i : Nat} (h : i < f.length) : (thenL f g).getD i 0 = g.getD (f.getD i 0).toNat 0 := by
  simp [thenL, List.getD_eq_getElem?_getD, h]
theorem thenL_eq {f g ys : List Int} (hl : ys.length = f.length) (h : ∀ i, i < f.length → ys.getD i 0 = g.getD (f.getD i 0).toNat 0) : ys = thenL f g := by
  refine eq_of_getD (by rw [hl, length_thenL]) fun i hi => ?_
  rw [length_thenL] at hi
  rw [h i hi, thenL_get hi]
theorem mem_thenL {f g : List Int} {b : Int} : b ∈ thenL f g ↔ ∃ y ∈ f, g.getD y.toNat 0 = b := by simp [thenL]
theorem thenL_take_succ {f g : List Int} {k : Nat} (h : k < f.length) : thenL (f.take (k + 1)) g = thenL (f.take k) g ++ [g.getD (f.getD k 0).toNat 0] := by
  unfold thenL
  rw [List.take_add_one, List.map_append, List.getElem?_eq_getElem h]
  simp [List.getD_eq_getElem?_getD, h]

/-- There is an isomorphism from x to y. -/
def Cat.Alike (c : Cat) (x y : Int) : Prop := ∃ g ∈ c.hom x y, 0 ≤ c.inv g
noncomputable def Cat.iso (c : Cat) (x y : Int) : Int := firstIn (c.hom x y) fun g => decide (0 ≤ c.inv g)
theorem Cat.iso_ge {c : Cat} {x y : Int} : 0 ≤ c.iso x y ↔ c.Alike x y := by
  unfold Cat.iso Cat.Alike
  rw [firstIn_ge (fun g hg => by obtain ⟨f, _, _, _, rfl⟩ := Cat.mem_hom.1 hg; omega)]
  simp
def Fun.Full (f : Fun) : Prop := ∀ x : Nat, (x : Int) < f.s.obj → ∀ y : Nat, (y : Int) < f.s.obj → ∀ i, i < (f.t.hom (f.ob.getD x 0) (f.ob.getD y 0)).length → (f.t.hom (f.ob.getD x 0) (f.ob.getD y 0)).getD i 0 ∈ thenL (f.s.hom x y) f.ar
def Fun.Faithful (f : Fun) : Prop := ∀ a : Nat, a < f.ar.length → ∀ b : Nat, b < a → ¬ (f.s.src.getD a 0 = f.s.src.getD b 0 ∧ f.s.tgt.getD a 0 = f.s.tgt.getD b 0 ∧ f.ar.getD a 0 = f.ar.getD b 0)
def Fun.Onto (f : Fun) : Prop := ∀ y : Nat, (y : Int) < f.t.obj → ∃ x, x < f.ob.length ∧ f.t.Alike (f.ob.getD x 0) y
def Fun.Equiv (f : Fun) : Prop := f.Full ∧ f.Faithful ∧ f.Onto
end Go.GL
/- Equivalences. No condition but those of each statement. -/
namespace Go.Proofs.Ytnohkokoimmclaa
open Go Go.GL Go.RowKit Go.Proofs
theorem l02Hom_c {c : Cat} {p : CatP} {x y : Int} {H : GHeap} (hin : c.In H p := by assumption) (hS : c.Shape := by assumption) :
    GCalls Try.prog 100 [.agg (c.cells p).toArray, .int .i64 x, .int .i64 y] H (NewInts 2 H (c.hom x y)) := by
  refine GCalls.body (N := 38) (rs := [.tmp 6]) Try.func100 rfl rfl rfl rfl (fun Qx hret hend => ?_)
  refine .forget (fr' := [(0, some _), (1, some _), (2, some _)]) ⟨rfl, rfl, rfl, trivial⟩ ?_
  have hle := GHeap.Le.refl H
  have base_hin := hin
  have q1 := hS.tl
  have q2 := hS.n40
  refine .seq (fun K1 hK1 => ?_)
  refine .region ?_
  refine .r rfl rfl rfl (.boxR rfl sz_31_D rfl) ?_
  rintro _ H3 ⟨g3, rfl, le3, ge3, at3⟩
  have nx_H3 := le3.1
  replace hle := hle.trans le3
  have lt_at3 := GHeap.lt_of_get at3
  replace hin := base_hin.mono hle
  have hb3 : Cat.At _ g3 0 c p := ⟨Mem.of_get at3, hin⟩
  obtain ⟨c03, c13, c23, c33, c43, i13, i23, i33, i43⟩ := hb3.get
  have hm3 : MemN _ _ _ _ _ := ⟨rfl, hb3.1⟩
  have hi3 := hb3.2
  refine .m rfl rfl rfl (.assign rfl) ?_
  refine .nil ?_
  refine hK1 _ _ ?_
  refine .seq (fun K2 hK2 => ?_)
  refine .region ?_
  refine .r rfl rfl rfl (.litR rfl sl_22_A ze_2_E rfl rfl (by omega) (by omega) rfl rfl) ?_
  rintro _ H9 ⟨g9, rfl, le9, ge9, at9⟩
  have nx_H9 := le9.1
  replace hle := hle.trans le9
  replace at3 := le9.2 _ _ at3
  have lt_at9 := GHeap.lt_of_get at9
  replace hin := base_hin.mono hle
  clear hb3 c03 c13 c23 c33 c43 i13 i23 i33 i43 hm3 hi3
  have hb3 : Cat.At _ g3 0 c p := ⟨Mem.of_get at3, hin⟩
  obtain ⟨c03, c13, c23, c33, c43, i13, i23, i33, i43⟩ := hb3.get
  have hm3 : MemN _ _ _ _ _ := ⟨rfl, hb3.1⟩
  have hi3 := hb3.2
  replace at9 : GHeap.get H9 g9 = some (.row (ints []) 2 true) := at9
  refine .m rfl rfl rfl (.assign rfl) ?_
  refine .nil ?_
  refine hK2 _ _ ?_
  refine .seq (fun K3 hK3 => ?_)
  refine .seq (fun K4 hK4 => ?_)
  refine .region ?_
  refine .m rfl rfl rfl (.assign rfl) ?_
  refine .nil ?_
  refine hK4 _ _ ?_
  refine .block ?_
  refine .loopR (σ := Nat × Nat × Nat) [(1, some _), (2, some _), (3, some _)] (fun (k, gL7, nL7) => [(8, some (.int .i64 (k : Int))), (7, some (.slice (some ⟨gL7, 0, none⟩) nL7 nL7))]) (fun (k, gL7, nL7) H' => St [g9] H9 H' ∧ H'.get gL7 = some (.row (ints (filtN k fun f => decide (c.src.getD f 0 = x) && decide (c.tgt.getD f 0 = y))) 2 true) ∧ (gL7 = g9 ∨ H9.next ≤ gL7) ∧ nL7 = (filtN k fun f => decide (c.src.getD f 0 = x) && decide (c.tgt.getD f 0 = y)).length ∧ k ≤ c.src.length) (fun (k, gL7, nL7) => c.src.length - k) ((0, _, _)) ⟨rfl, rfl, rfl, trivial⟩ ⟨rfl, rfl, trivial⟩ ?_ ?_
  ·
   refine ⟨.refl _ _, by first | assumption | exact at9 | simpa using at9, .inl rfl, by first | rfl | assumption | simp | omega, ?_⟩
   omega
  ·
   rintro ⟨k, gL7, nL7⟩ HL1 ⟨lst1, at_L7, pl_L7, ln_L7, hI⟩ KL1 hKL1
   refine .forget (fr' := [(8, some (.int .i64 (k : Int))), (7, some (.slice (some ⟨gL7, 0, none⟩) nL7 nL7)), (1, some _), (2, some _), (3, some _)]) ⟨rfl, rfl, rfl, rfl, rfl, trivial⟩ ?_
   have ge_L7 : H.next ≤ gL7 := by omega
   have nx_HL1 := lst1.nx
   replace hle := hle.st lst1 (fun k hk => ⟨by omega, trivial⟩)
   replace at3 := lst1.same _ _ ⟨by omega, trivial⟩ at3
   have lt_at_L7 := GHeap.lt_of_get at_L7
   replace hin := base_hin.mono hle
   clear hb3 c03 c13 c23 c33 c43 i13 i23 i33 i43 hm3 hi3
   have hb3 : Cat.At _ g3 0 c p := ⟨Mem.of_get at3, hin⟩
   obtain ⟨c03, c13, c23, c33, c43, i13, i23, i33, i43⟩ := hb3.get
   have hm3 : MemN _ _ _ _ _ := ⟨rfl, hb3.1⟩
   have hi3 := hb3.2
   have hfl := filtN_le k fun f => decide (c.src.getD f 0 = x) && decide (c.tgt.getD f 0 = y)
   refine .seq (fun K5 hK5 => ?_)
   refine .seq (fun K6 hK6 => ?_)
   refine .region ?_
   refine .m rfl rfl rfl (.move rfl) ?_
   refine .m rfl rfl rfl (.fieldAddr fo_31_1_B rfl) ?_
   refine .m rfl rfl rfl (.load on_22_B rfl (by first | assumption | exact Mem.of_get at3 1 _ rfl)) ?_
   refine .m rfl rfl rfl (.len sl_22_A rfl) ?_
   refine .m rfl rfl rfl (.cmp rfl rfl rfl) ?_
   refine .nil ?_
   refine hK6 _ _ ?_
   refine .cond rfl (fun h14 => ?_) (fun h14 => ?_)
   ·
    try simp only [sps] at h14
    refine .skip ?_
    refine hK5 _ _ ?_
    refine .seq (fun K7 hK7 => ?_)
    refine .block ?_
    refine .seq (fun K8 hK8 => ?_)
    refine .region ?_
    refine .m rfl rfl rfl (.fieldAddr fo_31_1_B rfl) ?_
    refine .m rfl rfl rfl (.load on_22_B rfl (by first | assumption | exact Mem.of_get at3 1 _ rfl)) ?_
    refine .m rfl rfl rfl (.move rfl) ?_
    refine .m rfl rfl rfl (.idxN sl_22_A (by assumption) rfl rfl (by omega)) ?_
    refine .m rfl rfl rfl (.loadI on_2_A (by assumption) rfl (by omega)) ?_
    refine .m rfl rfl rfl (.move rfl) ?_
    refine .m rfl rfl rfl (.cmp rfl rfl rfl) ?_
    refine .m rfl rfl rfl (.move rfl) ?_
    refine .split (fun h24 => ?_) (fun h24 => ?_)
    ·
     try simp only [sps] at h24
     refine .mg rfl rfl rfl rfl rfl (.fieldAddr fo_31_2_B rfl) ?_
     refine .mg rfl rfl rfl rfl rfl (.load on_22_B rfl (by first | assumption | exact Mem.of_get at3 2 _ rfl)) ?_
     refine .mg rfl rfl rfl rfl rfl (.move rfl) ?_
     refine .mg rfl rfl rfl rfl rfl (.idxN sl_22_A (by assumption) rfl rfl (by omega)) ?_
     refine .mg rfl rfl rfl rfl rfl (.loadI on_2_A (by assumption) rfl (by omega)) ?_
     refine .mg rfl rfl rfl rfl rfl (.move rfl) ?_
     refine .mg rfl rfl rfl rfl rfl (.cmp rfl rfl rfl) ?_
     refine .m rfl rfl rfl (.pickT rfl rfl) ?_
     refine .nil ?_
     refine hK8 _ _ ?_
     refine .cond rfl (fun h32 => ?_) (fun h32 => ?_)
     ·
      try simp only [sps] at h32
      refine .region ?_
      refine .m rfl rfl rfl (.move rfl) ?_
      refine .m rfl rfl rfl (.move rfl) ?_
      refine .r rfl rfl rfl (.litR rfl sl_22_A ze_2_E rfl rfl (by omega) (by omega) rfl rfl) ?_
      rintro _ H35 ⟨g35, rfl, le35, ge35, at35⟩
      have nx_H35 := le35.1
      replace hle := hle.trans le35
      replace lst1 := lst1.le le35
      replace at3 := le35.2 _ _ at3
      replace at_L7 := le35.2 _ _ at_L7
      have lt_at35 := GHeap.lt_of_get at35
      replace hin := base_hin.mono hle
      clear hb3 c03 c13 c23 c33 c43 i13 i23 i33 i43 hm3 hi3
      have hb3 : Cat.At _ g3 0 c p := ⟨Mem.of_get at3, hin⟩
      obtain ⟨c03, c13, c23, c33, c43, i13, i23, i33, i43⟩ := hb3.get
      have hm3 : MemN _ _ _ _ _ := ⟨rfl, hb3.1⟩
      have hi3 := hb3.2
      refine .r rfl rfl rfl (.appendI rfl sl_22_A ze_2_E rfl by_2_E sl_22_A rfl rfl (by assumption) (by assumption) (by first | omega | (simp <;> omega)) (by omega) (by omega)) ?_
      rintro _ H36 ⟨g36, rfl, st36, ge36, at36⟩
      have nx_H36 := st36.nx
      replace hle := hle.st st36 (fun k hk => ⟨by omega, trivial⟩)
      replace lst1 := lst1.st st36 (fun k hk ho => by simp only [out, and_true] at ho ⊢ <;> omega)
      replace at3 := st36.same _ _ ⟨by omega, trivial⟩ at3
      replace at35 := st36.same _ _ ⟨by omega, trivial⟩ at35
      have lt_at36 := GHeap.lt_of_get at36
      replace hin := base_hin.mono hle
      clear hb3 c03 c13 c23 c33 c43 i13 i23 i33 i43 hm3 hi3
      have hb3 : Cat.At _ g3 0 c p := ⟨Mem.of_get at3, hin⟩
      obtain ⟨c03, c13, c23, c33, c43, i13, i23, i33, i43⟩ := hb3.get
      have hm3 : MemN _ _ _ _ _ := ⟨rfl, hb3.1⟩
      have hi3 := hb3.2
      refine .m rfl rfl rfl (.assign rfl) ?_
      refine .nil ?_
      refine hK7 _ _ ?_
      refine .region ?_
      refine .m rfl rfl rfl (.move rfl) ?_
      refine .m rfl rfl rfl (.add rfl rfl rfl (by omega) (by omega)) ?_
      refine .m rfl rfl rfl (.assign rfl) ?_
      refine .nil ?_
      refine hKL1 ((k + 1, _, _)) _ _ ?_ ?_ ⟨rfl, rfl, rfl, rfl, rfl, trivial⟩
      ·
       refine ⟨lst1, by first | assumption | (rw [filtN_T (by simp only [sps]; omega)]; assumption) | (rw [filtN_F (by simp only [sps]; omega)]; assumption), by omega, by first | omega | (simp only [List.length_append, List.length_cons, List.length_nil] <;> omega) | (rw [filtN_T (by simp only [sps]; omega)] <;> (first | omega | (simp only [List.length_append, List.length_cons, List.length_nil] <;> omega))) | (rw [filtN_F (by simp only [sps]; omega)] <;> (first | omega | (simp only [List.length_append, List.length_cons, List.length_nil] <;> omega))), ?_⟩
       omega
      ·
       (dsimp only; omega)
     ·
      try simp only [sps] at h32
      refine .skip ?_
      refine hK7 _ _ ?_
      refine .region ?_
      refine .m rfl rfl rfl (.move rfl) ?_
      refine .m rfl rfl rfl (.add rfl rfl rfl (by omega) (by omega)) ?_
      refine .m rfl rfl rfl (.assign rfl) ?_
      refine .nil ?_
      refine hKL1 ((k + 1, _, _)) _ _ ?_ ?_ ⟨rfl, rfl, rfl, rfl, rfl, trivial⟩
      ·
       refine ⟨lst1, by first | assumption | (rw [filtN_T (by simp only [sps]; omega)]; assumption) | (rw [filtN_F (by simp only [sps]; omega)]; assumption), by omega, by first | omega | (simp only [List.length_append, List.length_cons, List.length_nil] <;> omega) | (rw [filtN_T (by simp only [sps]; omega)] <;> (first | omega | (simp only [List.length_append, List.length_cons, List.length_nil] <;> omega))) | (rw [filtN_F (by simp only [sps]; omega)] <;> (first | omega | (simp only [List.length_append, List.length_cons, List.length_nil] <;> omega))), ?_⟩
       omega
      ·
       (dsimp only; omega)
    ·
     try simp only [sps] at h24
     refine .sg rfl rfl rfl rfl rfl ?_
     refine .sg rfl rfl rfl rfl rfl ?_
     refine .sg rfl rfl rfl rfl rfl ?_
     refine .sg rfl rfl rfl rfl rfl ?_
     refine .sg rfl rfl rfl rfl rfl ?_
     refine .sg rfl rfl rfl rfl rfl ?_
     refine .sg rfl rfl rfl rfl rfl ?_
     refine .m rfl rfl rfl (.pickF rfl rfl) ?_
     refine .nil ?_
     refine hK8 _ _ ?_
     refine .condF rfl ?_
     refine .skip ?_
     refine hK7 _ _ ?_
     refine .region ?_
     refine .m rfl rfl rfl (.move rfl) ?_
     refine .m rfl rfl rfl (.add rfl rfl rfl (by omega) (by omega)) ?_
     refine .m rfl rfl rfl (.assign rfl) ?_
     refine .nil ?_
     refine hKL1 ((k + 1, _, _)) _ _ ?_ ?_ ⟨rfl, rfl, rfl, rfl, rfl, trivial⟩
     ·
      refine ⟨lst1, by first | assumption | (rw [filtN_T (by simp only [sps]; omega)]; assumption) | (rw [filtN_F (by simp only [sps]; omega)]; assumption), by omega, by first | omega | (simp only [List.length_append, List.length_cons, List.length_nil] <;> omega) | (rw [filtN_T (by simp only [sps]; omega)] <;> (first | omega | (simp only [List.length_append, List.length_cons, List.length_nil] <;> omega))) | (rw [filtN_F (by simp only [sps]; omega)] <;> (first | omega | (simp only [List.length_append, List.length_cons, List.length_nil] <;> omega))), ?_⟩
      omega
     ·
      (dsimp only; omega)
   ·
    try simp only [sps] at h14
    refine .exit ?_
    refine hK3 _ _ ?_
    refine .seq (fun K9 hK9 => ?_)
    refine .region ?_
    refine .m rfl rfl rfl (.move rfl) ?_
    refine .m rfl rfl rfl (.assign rfl) ?_
    refine .nil ?_
    refine hK9 _ _ ?_
    refine .ret ?_
    -- leaf e1
    refine hret _ _ ?_
    refine ⟨_, rfl, ?_⟩
    obtain rfl : k = c.src.length := by omega
    exact ⟨hle, _, by rw [ln_L7]; rfl, at_L7, ge_L7⟩
end Go.Proofs.Ytnohkokoimmclaa
/- Lists of lists of lists. No condition. -/
namespace Go.GL
open Go.RowKit Go.WideShapes Go.ChangeShapes Go.Deep

def Intsss (H : GHeap) (a : Option Addr) (x : List (List (List Int))) (r : Nat → Option Addr) (s : Nat → Nat → Option Addr) : Prop :=
  SlA H a x.length (fun i => .slice (r i) (x.getD i []).length (x.getD i []).length) ∧ ∀ i, i < x.length → Intss H (r i) (x.getD i []) (s i)
theorem Intsss.mono {H H' : GHeap} {a : Option Addr} {x : List (List (List Int))} {r : Nat → Option Addr} {s : Nat → Nat → Option Addr} (h : Intsss H a x r s) (hle : H.Le H') : Intsss H' a x r s := ⟨SlA.mono h.1 hle, fun i hi => (h.2 i hi).mono hle⟩
theorem Intsss.sl {H : GHeap} {a : Option Addr} {x : List (List (List Int))} {r : Nat → Option Addr} {s : Nat → Nat → Option Addr} (h : Intsss H a x r s) : SlA H a x.length (fun i => .slice (r i) (x.getD i []).length (x.getD i []).length) := h.1
theorem MStep.loadRR {P : Program} {fr : Slots} {H : GHeap} {a : Option Addr} {t : TypeId} {y : Operand} {k : Nat} {x : List (List (List Int))} {r : Nat → Option Addr} {s : Nat → Nat → Option Addr} (ht : oneT P t = true) (h : Intsss H a x r s) (hx : ev fr y = some (elemPtr a k)) (hk : k < x.length) :
    MStep P fr H (.load t y) (.slice (r k) (x.getD k []).length (x.getD k []).length) := .loadE (f := fun i => .slice (r i) (x.getD i []).length (x.getD i []).length) ht h.1 hx hk
def IntsssAt (b : Nat) (H : GHeap) (a : Option Addr) (x : List (List (List Int))) (r : Nat → Option Addr) (s : Nat → Nat → Option Addr) : Prop :=
  ∃ g e cs, a = some ⟨g, 0, none⟩ ∧ b ≤ g ∧ H.get g = some (.row cs e true) ∧ cs.length = x.length ∧ (∀ i, i < x.length → cs[i]? = some (.slice (r i) (x.getD i []).length (x.getD i []).length)) ∧ ∀ i, i < x.length → IntssAt b H (r i) (x.getD i []) (s i)
theorem IntsssAt.keep {b b' : Nat} {H H' : GHeap} {a : Option Addr} {x : List (List (List Int))} {r : Nat → Option Addr} {s : Nat → Nat → Option Addr} (h : IntsssAt b H a x r s) (hk : Keep b' H H') (hb : b' ≤ b) : IntsssAt b' H' a x r s :=
  let ⟨g, e, cs, h1, h2, h3, h4, h5, h6⟩ := h; ⟨g, e, cs, h1, by omega, hk g _ (by omega) h3, h4, h5, fun i hi => (h6 i hi).keep hk hb⟩
theorem IntsssAt.intsss {b : Nat} {H : GHeap} {a : Option Addr} {x : List (List (List Int))} {r : Nat → Option Addr} {s : Nat → Nat → Option Addr} (h : IntsssAt b H a x r s) : Intsss H a x r s := by
  obtain ⟨g, e, cs, rfl, _, h3, h4, h5, h6⟩ := h
  exact ⟨.inr ⟨g, 0, rfl, fun i hi => by rw [GHeap.cell_of h3, Nat.zero_add]; exact h5 i hi⟩, fun i hi => (h6 i hi).intss⟩
def NewIntsss (H : GHeap) (x : List (List (List Int))) (v : Value) (H' : GHeap) : Prop := H.Le H' ∧ ∃ a r s, v = .slice a x.length x.length ∧ IntsssAt H.next H' a x r s

def intsssT (P : Program) (t : TypeId) : Bool := match P.underlying t with | some (.slice e) => intssT P e && (P.cellsOf e == 1) | _ => false
theorem intsssT_run {P : Program} {t : TypeId} (h : intsssT P t = true) : ∃ e, P.underlying t = some (.slice e) ∧ intssT P e = true ∧ P.cellsOf e = 1 := by
  unfold intsssT at h
  split at h
  · simp only [Bool.and_eq_true, beq_iff_eq] at h
    exact ⟨_, by assumption, h.1, h.2⟩
  · cases h
def Wd2 (xss : List (List Int)) : Prop := xss.length ≤ 9223372036854775807 ∧ ∀ i, I64s (xss.getD i [])
def Wd3 (x : List (List (List Int))) : Prop := x.length ≤ 9223372036854775807 ∧ ∀ i, Wd2 (x.getD i [])
def Sm3 (x : List (List (List Int))) : Prop := x.length ≤ 1048576 ∧ ∀ i, (x.getD i []).length ≤ 1048576 ∧ ∀ j, ((x.getD i []).getD j []).length ≤ 1048576
def RIntsss (ρ : Place) (H : GHeap) (cs : List Value) : Prop := ∃ a x r s c, cs = [c] ∧ VRel ρ (.slice a x.length x.length) c ∧ Intsss H a x r s ∧ Wd3 x
theorem RIntsss.mono {ρ ρ' : Place} {H H' : GHeap} {cs : List Value} (h : RIntsss ρ H cs) (he : Ext ρ ρ') (hl : H.Le H') : RIntsss ρ' H' cs :=
  let ⟨a, x, r, s, c, h1, h2, h3, h4⟩ := h; ⟨a, x, r, s, c, h1, h2.mono he, h3.mono hl, h4⟩
theorem Wd2.nil : Wd2 [] := ⟨by simp, fun i => by simp [I64s, I64]⟩
theorem import_intsss {P : Program} {t : TypeId} (ht : intsssT P t = true) : Imports P t RIntsss := by
  intro T enc B w0 ρ H w held fuel cs x hs hB h
  obtain ⟨e, h1, h2, h3⟩ := intsssT_run ht
  rcases open_slice1 h1 h3 h with ⟨rfl, _⟩ | ⟨a, len, cap, m, n, V, D, Pl, rfl, _, hl, hm, hmm, _, hx⟩
  · exact ⟨ρ, H, hs, .refl ρ, .refl H, none, [], fun _ => none, fun _ _ => none, _, rfl, .nilSlice, ⟨.inl rfl, fun i hi => by simp at hi⟩, by simp, fun i => by simpa using Wd2.nil⟩
  · simp only [if_true] at hmm
    subst hmm
    have rows : ∀ k, k ≤ len → ∃ ρ' H', Sim P B w0 ρ' H' w ∧ Ext ρ ρ' ∧ H.Le H' ∧ ∃ (X : Nat → List (List Int)) (rr : Nat → Option Addr) (ss : Nat → Nat → Option Addr), ∀ i, i < k → VRel ρ' (.slice (rr i) (X i).length (X i).length) (V i) ∧ Intss H' (rr i) (X i) (ss i) ∧ Wd2 (X i) := by
      intro k
      induction k with
      | zero => exact fun _ => ⟨ρ, H, hs, .refl ρ, .refl H, fun _ => [], fun _ => none, fun _ _ => none, fun i hi => by omega⟩
      | succ k ih =>
        intro hk
        obtain ⟨ρ1, H1, s1, e1, l1, X, rr, ss, hrr⟩ := ih (by omega)
        obtain ⟨ρ2, H2, s2, e2, l2, a', xs, r, c, hc, hv, hi', hw1, hw2⟩ := import_intss h2 s1 hB (hx k (by omega)).2
        have hc' : V k = c := by simpa using hc
        subst hc'
        refine ⟨ρ2, H2, s2, e1.trans e2, l1.trans l2, fun i => if i = k then xs else X i, fun i => if i = k then a' else rr i, fun i => if i = k then r else ss i, fun i hi => ?_⟩
        by_cases ek : i = k
        · subst ek; simp only [if_true]; exact ⟨hv, hi', hw1, hw2⟩
        · simp only [ek, if_false]
          obtain ⟨v1, i1, w1⟩ := hrr i (by omega)
          exact ⟨v1.mono e2, i1.mono l2, w1⟩
    obtain ⟨ρ1, H1, s1, e1, l1, X, rr, ss, hrr⟩ := rows len (Nat.le_refl _)
    obtain ⟨a', ρ2, H2, k1, k2, k3, k4, k5⟩ := s1.list hB (f := fun i => .slice (rr i) (X i).length (X i).length) hl hm (fun i hi => (hx i hi).1) (fun i hi => (hrr i hi).1)
    have hlen : ((List.range len).map X).length = len := by simp
    have hg : ∀ i, i < len → ((List.range len).map X).getD i [] = X i := fun i hi => by simp [List.getD_eq_getElem?_getD, hi]
    refine ⟨ρ2, H2, k1, e1.trans k2, l1.trans k3, a', (List.range len).map X, rr, ss, _, rfl, by rw [hlen]; exact k4, ⟨?_, fun i hi => ?_⟩, by rw [hlen]; unfold maxLen at hm; omega, fun i => ?_⟩
    · rw [hlen]
      refine k5.imp id fun ⟨g, off, hga, hc⟩ => ⟨g, off, hga, fun i hi => ?_⟩
      show _ = some (Value.slice (rr i) (((List.range len).map X).getD i []).length (((List.range len).map X).getD i []).length)
      rw [hg i hi]
      exact hc i hi
    · rw [hlen] at hi
      rw [hg i hi]
      exact (hrr i hi).2.1.mono k3
    · by_cases hi : i < len
      · rw [hg i hi]; exact (hrr i hi).2.2
      · rw [List.getD_eq_getElem?_getD, List.getElem?_eq_none (by rw [hlen]; omega)]
        exact Wd2.nil
end Go.GL
/- Structs of lists, as they lie in a ghost heap. No condition. -/
namespace Go.GL
open Go.RowKit
structure SFun where
  sh : Cat
  sz : List Int
  ac : List (List Int)
structure SFunP where
  sh : CatP
  a1 : Option Addr
  a2 : Option Addr
  r2 : Nat → Option Addr
def SFun.cells (c : SFun) (p : SFunP) : List Value := c.sh.cells p.sh ++ ([.slice p.a1 c.sz.length c.sz.length] ++ ([.slice p.a2 c.ac.length c.ac.length]))
def SFun.In (H : GHeap) (c : SFun) (p : SFunP) : Prop := c.sh.In H p.sh ∧ Ints H p.a1 c.sz ∧ Intss H p.a2 c.ac p.r2
theorem SFun.In.mono {H H' : GHeap} {c : SFun} {p : SFunP} (h : c.In H p) (hle : H.Le H') : c.In H' p := ⟨Cat.In.mono (h.1) hle, Ints.mono (h.2.1) hle, Intss.mono (h.2.2) hle⟩
def SFun.At (H : GHeap) (g o : Nat) (c : SFun) (p : SFunP) : Prop := Mem H g o (c.cells p) ∧ c.In H p
theorem SFun.At.mono {H H' : GHeap} {g o : Nat} {c : SFun} {p : SFunP} (h : SFun.At H g o c p) (hle : H.Le H') : SFun.At H' g o c p := ⟨h.1.mono hle, SFun.In.mono h.2 hle⟩
theorem SFun.At.get {H : GHeap} {g o : Nat} {c : SFun} {p : SFunP} (h : SFun.At H g o c p) : Cat.At H g (o + 0) c.sh p.sh ∧ H.cell g (o + 5) = some (.slice p.a1 c.sz.length c.sz.length) ∧ H.cell g (o + 6) = some (.slice p.a2 c.ac.length c.ac.length) ∧ Ints H p.a1 c.sz ∧ Intss H p.a2 c.ac p.r2 :=
  ⟨⟨h.1.left, h.2.1⟩, (h.1.right (n := 5) rfl).left 0 _ rfl, ((h.1.right (n := 5) rfl).right (n := 1) rfl) 0 _ rfl, h.2.2.1, h.2.2.2⟩
def SFun.Small (c : SFun) : Prop := c.sh.Small ∧ c.sz.length ≤ 1048576 ∧ (c.ac.length ≤ 1048576 ∧ ∀ i, (c.ac.getD i []).length ≤ 1048576)
def SFun.Wide (c : SFun) : Prop := c.sh.Wide ∧ I64s c.sz ∧ (c.ac.length ≤ 9223372036854775807 ∧ ∀ i, I64s (c.ac.getD i []))
def SFunAt (b : Nat) (H : GHeap) (c : SFun) (p : SFunP) : Prop := CatAt b H c.sh p.sh ∧ IntsAt b H p.a1 c.sz ∧ IntssAt b H p.a2 c.ac p.r2
theorem SFunAt.keep {b b' : Nat} {H H' : GHeap} {c : SFun} {p : SFunP} (h : SFunAt b H c p) (hk : Keep b' H H') (hb : b' ≤ b) : SFunAt b' H' c p := ⟨CatAt.keep (h.1) hk hb, IntsAt.keep (h.2.1) hk hb, IntssAt.keep (h.2.2) hk hb⟩
theorem SFunAt.inn {b : Nat} {H : GHeap} {c : SFun} {p : SFunP} (h : SFunAt b H c p) : c.In H p := ⟨CatAt.inn (h.1), IntsAt.ints (h.2.1), IntssAt.intss (h.2.2)⟩
def NewSFun (H : GHeap) (c : SFun) (v : Value) (H' : GHeap) : Prop := H.Le H' ∧ ∃ p, v = .agg (c.cells p).toArray ∧ SFunAt H.next H' c p
def sfunT (P : Program) (t : TypeId) : Bool := structIs P t 7 3 fun fs => fieldIs P fs 0 0 5 catT && fieldIs P fs 1 5 1 intsT && fieldIs P fs 2 6 1 intssT
def RSFun (ρ : Place) (H : GHeap) (cs : List Value) : Prop := ∃ (c : SFun) (p : SFunP), LRel ρ (c.cells p) cs ∧ c.In H p ∧ c.Wide
theorem import_sfun {P : Program} {t : TypeId} (ht : sfunT P t = true) : Imports P t RSFun := by
  intro T enc B w0 ρ H w held fuel cs x hs hB h
  obtain ⟨fs, g1, g2, g3, g4⟩ := structIs_run ht
  simp only [Bool.and_eq_true] at g4
  obtain ⟨⟨q0, q1⟩, q2⟩ := g4
  obtain ⟨xs, n, _, _, hl, hx, hf⟩ := DataW.trod_struct g1 h
  obtain ⟨ρ0, H0, s0, e0, l0, y0, p0, v0, i0, w0⟩ := import_field (fun _ h => import_cat h) q0 hx hf hs hB
  obtain ⟨ρ1, H1, s1, e1, l1, a1, x1, c1, z1, v1, i1, w1⟩ := import_field (fun _ h => import_ints h) q1 hx hf s0 hB
  obtain ⟨ρ2, H2, s2, e2, l2, a2, x2, r2, c2, z2, v2, i2, w2⟩ := import_field (fun _ h => import_intss h) q2 hx hf s1 hB
  refine ⟨ρ2, H2, s2, e0.trans (e1.trans (e2)), l0.trans (l1.trans (l2)), ⟨y0, x1, x2⟩, ⟨p0, a1, a2, r2⟩, ?_, ⟨Cat.In.mono i0 (l1.trans (l2)), i1.mono (l2), i2⟩, ⟨w0, w1, w2⟩⟩
  have hlen : cs.length = 7 := by rw [hl, g2]
  have e : cs = (cs.drop 0).take 5 ++ ((cs.drop 5).take 1 ++ ((cs.drop 6).take 1)) := by
    match cs, hlen with
    | [_, _, _, _, _, _, _], _ => rfl
  rw [e, z1, z2]
  exact (LRel.append (v0.mono (e1.trans (e2))) (LRel.append (.cons (v1.mono (e2)) (.nil _)) (.cons (v2) (.nil _))))
structure SMap where
  s : SFun
  t : SFun
  pa : List (List Int)
structure SMapP where
  s : SFunP
  t : SFunP
  a2 : Option Addr
  r2 : Nat → Option Addr
def SMap.cells (c : SMap) (p : SMapP) : List Value := c.s.cells p.s ++ (c.t.cells p.t ++ ([.slice p.a2 c.pa.length c.pa.length]))
def SMap.In (H : GHeap) (c : SMap) (p : SMapP) : Prop := c.s.In H p.s ∧ c.t.In H p.t ∧ Intss H p.a2 c.pa p.r2
theorem SMap.In.mono {H H' : GHeap} {c : SMap} {p : SMapP} (h : c.In H p) (hle : H.Le H') : c.In H' p := ⟨SFun.In.mono (h.1) hle, SFun.In.mono (h.2.1) hle, Intss.mono (h.2.2) hle⟩
def SMap.At (H : GHeap) (g o : Nat) (c : SMap) (p : SMapP) : Prop := Mem H g o (c.cells p) ∧ c.In H p
theorem SMap.At.mono {H H' : GHeap} {g o : Nat} {c : SMap} {p : SMapP} (h : SMap.At H g o c p) (hle : H.Le H') : SMap.At H' g o c p := ⟨h.1.mono hle, SMap.In.mono h.2 hle⟩
theorem SMap.At.get {H : GHeap} {g o : Nat} {c : SMap} {p : SMapP} (h : SMap.At H g o c p) : SFun.At H g (o + 0) c.s p.s ∧ SFun.At H g (o + 7) c.t p.t ∧ H.cell g (o + 14) = some (.slice p.a2 c.pa.length c.pa.length) ∧ Intss H p.a2 c.pa p.r2 :=
  ⟨⟨h.1.left, h.2.1⟩, ⟨(h.1.right (n := 7) rfl).left, h.2.2.1⟩, ((h.1.right (n := 7) rfl).right (n := 7) rfl) 0 _ rfl, h.2.2.2⟩
def SMap.Small (c : SMap) : Prop := c.s.Small ∧ c.t.Small ∧ (c.pa.length ≤ 1048576 ∧ ∀ i, (c.pa.getD i []).length ≤ 1048576)
def SMap.Wide (c : SMap) : Prop := c.s.Wide ∧ c.t.Wide ∧ (c.pa.length ≤ 9223372036854775807 ∧ ∀ i, I64s (c.pa.getD i []))
def SMapAt (b : Nat) (H : GHeap) (c : SMap) (p : SMapP) : Prop := SFunAt b H c.s p.s ∧ SFunAt b H c.t p.t ∧ IntssAt b H p.a2 c.pa p.r2
theorem SMapAt.keep {b b' : Nat} {H H' : GHeap} {c : SMap} {p : SMapP} (h : SMapAt b H c p) (hk : Keep b' H H') (hb : b' ≤ b) : SMapAt b' H' c p := ⟨SFunAt.keep (h.1) hk hb, SFunAt.keep (h.2.1) hk hb, IntssAt.keep (h.2.2) hk hb⟩
theorem SMapAt.inn {b : Nat} {H : GHeap} {c : SMap} {p : SMapP} (h : SMapAt b H c p) : c.In H p := ⟨SFunAt.inn (h.1), SFunAt.inn (h.2.1), IntssAt.intss (h.2.2)⟩
def NewSMap (H : GHeap) (c : SMap) (v : Value) (H' : GHeap) : Prop := H.Le H' ∧ ∃ p, v = .agg (c.cells p).toArray ∧ SMapAt H.next H' c p
def smapT (P : Program) (t : TypeId) : Bool := structIs P t 15 3 fun fs => fieldIs P fs 0 0 7 sfunT && fieldIs P fs 1 7 7 sfunT && fieldIs P fs 2 14 1 intssT
def RSMap (ρ : Place) (H : GHeap) (cs : List Value) : Prop := ∃ (c : SMap) (p : SMapP), LRel ρ (c.cells p) cs ∧ c.In H p ∧ c.Wide
theorem import_smap {P : Program} {t : TypeId} (ht : smapT P t = true) : Imports P t RSMap := by
  intro T enc B w0 ρ H w held fuel cs x hs hB h
  obtain ⟨fs, g1, g2, g3, g4⟩ := structIs_run ht
  simp only [Bool.and_eq_true] at g4
  obtain ⟨⟨q0, q1⟩, q2⟩ := g4
  obtain ⟨xs, n, _, _, hl, hx, hf⟩ := DataW.trod_struct g1 h
  obtain ⟨ρ0, H0, s0, e0, l0, y0, p0, v0, i0, w0⟩ := import_field (fun _ h => import_sfun h) q0 hx hf hs hB
  obtain ⟨ρ1, H1, s1, e1, l1, y1, p1, v1, i1, w1⟩ := import_field (fun _ h => import_sfun h) q1 hx hf s0 hB
  obtain ⟨ρ2, H2, s2, e2, l2, a2, x2, r2, c2, z2, v2, i2, w2⟩ := import_field (fun _ h => import_intss h) q2 hx hf s1 hB
  refine ⟨ρ2, H2, s2, e0.trans (e1.trans (e2)), l0.trans (l1.trans (l2)), ⟨y0, y1, x2⟩, ⟨p0, p1, a2, r2⟩, ?_, ⟨SFun.In.mono i0 (l1.trans (l2)), SFun.In.mono i1 (l2), i2⟩, ⟨w0, w1, w2⟩⟩
  have hlen : cs.length = 15 := by rw [hl, g2]
  have e : cs = (cs.drop 0).take 7 ++ ((cs.drop 7).take 7 ++ ((cs.drop 14).take 1)) := by
    match cs, hlen with
    | [_, _, _, _, _, _, _, _, _, _, _, _, _, _, _], _ => rfl
  rw [e, z2]
  exact (LRel.append (v0.mono (e1.trans (e2))) (LRel.append (v1.mono (e2)) (.cons (v2) (.nil _))))
structure Con where
  ap : Int
  lg : List Int
structure ConP where
  a1 : Option Addr
def Con.cells (c : Con) (p : ConP) : List Value := [.int .i64 c.ap] ++ ([.slice p.a1 c.lg.length c.lg.length])
def Con.In (H : GHeap) (c : Con) (p : ConP) : Prop := Ints H p.a1 c.lg
theorem Con.In.mono {H H' : GHeap} {c : Con} {p : ConP} (h : c.In H p) (hle : H.Le H') : c.In H' p := Ints.mono (h) hle
def Con.At (H : GHeap) (g o : Nat) (c : Con) (p : ConP) : Prop := Mem H g o (c.cells p) ∧ c.In H p
theorem Con.At.mono {H H' : GHeap} {g o : Nat} {c : Con} {p : ConP} (h : Con.At H g o c p) (hle : H.Le H') : Con.At H' g o c p := ⟨h.1.mono hle, Con.In.mono h.2 hle⟩
theorem Con.At.get {H : GHeap} {g o : Nat} {c : Con} {p : ConP} (h : Con.At H g o c p) : H.cell g (o + 0) = some (.int .i64 c.ap) ∧ H.cell g (o + 1) = some (.slice p.a1 c.lg.length c.lg.length) ∧ Ints H p.a1 c.lg :=
  ⟨h.1.left 0 _ rfl, (h.1.right (n := 1) rfl) 0 _ rfl, h.2⟩
def Con.Small (c : Con) : Prop := (-9223372036854775808 ≤ c.ap ∧ c.ap ≤ 9223372036854775807) ∧ c.lg.length ≤ 1048576
def Con.Wide (c : Con) : Prop := I64 c.ap ∧ I64s c.lg
def ConAt (b : Nat) (H : GHeap) (c : Con) (p : ConP) : Prop := IntsAt b H p.a1 c.lg
theorem ConAt.keep {b b' : Nat} {H H' : GHeap} {c : Con} {p : ConP} (h : ConAt b H c p) (hk : Keep b' H H') (hb : b' ≤ b) : ConAt b' H' c p := IntsAt.keep (h) hk hb
theorem ConAt.inn {b : Nat} {H : GHeap} {c : Con} {p : ConP} (h : ConAt b H c p) : c.In H p := IntsAt.ints (h)
def NewCon (H : GHeap) (c : Con) (v : Value) (H' : GHeap) : Prop := H.Le H' ∧ ∃ p, v = .agg (c.cells p).toArray ∧ ConAt H.next H' c p
def conT (P : Program) (t : TypeId) : Bool := structIs P t 2 2 fun fs => fieldIs P fs 0 0 1 i64T && fieldIs P fs 1 1 1 intsT
def RCon (ρ : Place) (H : GHeap) (cs : List Value) : Prop := ∃ (c : Con) (p : ConP), LRel ρ (c.cells p) cs ∧ c.In H p ∧ c.Wide
theorem import_con {P : Program} {t : TypeId} (ht : conT P t = true) : Imports P t RCon := by
  intro T enc B w0 ρ H w held fuel cs x hs hB h
  obtain ⟨fs, g1, g2, g3, g4⟩ := structIs_run ht
  simp only [Bool.and_eq_true] at g4
  obtain ⟨q0, q1⟩ := g4
  obtain ⟨xs, n, _, _, hl, hx, hf⟩ := DataW.trod_struct g1 h
  obtain ⟨ρ0, H0, s0, e0, l0, n0, z0, w0⟩ := import_field (fun _ h => import_int h) q0 hx hf hs hB
  obtain ⟨ρ1, H1, s1, e1, l1, a1, x1, c1, z1, v1, i1, w1⟩ := import_field (fun _ h => import_ints h) q1 hx hf s0 hB
  refine ⟨ρ1, H1, s1, e0.trans (e1), l0.trans (l1), ⟨n0, x1⟩, ⟨a1⟩, ?_, i1, ⟨w0, w1⟩⟩
  have hlen : cs.length = 2 := by rw [hl, g2]
  have e : cs = (cs.drop 0).take 1 ++ ((cs.drop 1).take 1) := by
    match cs, hlen with
    | [_, _], _ => rfl
  rw [e, z0, z1]
  exact (LRel.append (.cons (.int _ _) (.nil _)) (.cons (v1) (.nil _)))
structure Prt where
  me : List (List Int)
structure PrtP where
  a0 : Option Addr
  r0 : Nat → Option Addr
def Prt.cells (c : Prt) (p : PrtP) : List Value := [.slice p.a0 c.me.length c.me.length]
def Prt.In (H : GHeap) (c : Prt) (p : PrtP) : Prop := Intss H p.a0 c.me p.r0
theorem Prt.In.mono {H H' : GHeap} {c : Prt} {p : PrtP} (h : c.In H p) (hle : H.Le H') : c.In H' p := Intss.mono (h) hle
def Prt.At (H : GHeap) (g o : Nat) (c : Prt) (p : PrtP) : Prop := Mem H g o (c.cells p) ∧ c.In H p
theorem Prt.At.mono {H H' : GHeap} {g o : Nat} {c : Prt} {p : PrtP} (h : Prt.At H g o c p) (hle : H.Le H') : Prt.At H' g o c p := ⟨h.1.mono hle, Prt.In.mono h.2 hle⟩
theorem Prt.At.get {H : GHeap} {g o : Nat} {c : Prt} {p : PrtP} (h : Prt.At H g o c p) : H.cell g (o + 0) = some (.slice p.a0 c.me.length c.me.length) ∧ Intss H p.a0 c.me p.r0 :=
  ⟨h.1 0 _ rfl, h.2⟩
def Prt.Small (c : Prt) : Prop := (c.me.length ≤ 1048576 ∧ ∀ i, (c.me.getD i []).length ≤ 1048576)
def Prt.Wide (c : Prt) : Prop := (c.me.length ≤ 9223372036854775807 ∧ ∀ i, I64s (c.me.getD i []))
def PrtAt (b : Nat) (H : GHeap) (c : Prt) (p : PrtP) : Prop := IntssAt b H p.a0 c.me p.r0
theorem PrtAt.keep {b b' : Nat} {H H' : GHeap} {c : Prt} {p : PrtP} (h : PrtAt b H c p) (hk : Keep b' H H') (hb : b' ≤ b) : PrtAt b' H' c p := IntssAt.keep (h) hk hb
theorem PrtAt.inn {b : Nat} {H : GHeap} {c : Prt} {p : PrtP} (h : PrtAt b H c p) : c.In H p := IntssAt.intss (h)
def NewPrt (H : GHeap) (c : Prt) (v : Value) (H' : GHeap) : Prop := H.Le H' ∧ ∃ p, v = .agg (c.cells p).toArray ∧ PrtAt H.next H' c p
def prtT (P : Program) (t : TypeId) : Bool := structIs P t 1 1 fun fs => fieldIs P fs 0 0 1 intssT
def RPrt (ρ : Place) (H : GHeap) (cs : List Value) : Prop := ∃ (c : Prt) (p : PrtP), LRel ρ (c.cells p) cs ∧ c.In H p ∧ c.Wide
theorem import_prt {P : Program} {t : TypeId} (ht : prtT P t = true) : Imports P t RPrt := by
  intro T enc B w0 ρ H w held fuel cs x hs hB h
  obtain ⟨fs, g1, g2, g3, g4⟩ := structIs_run ht
  have q0 := g4
  obtain ⟨xs, n, _, _, hl, hx, hf⟩ := DataW.trod_struct g1 h
  obtain ⟨ρ0, H0, s0, e0, l0, a0, x0, r0, c0, z0, v0, i0, w0⟩ := import_field (fun _ h => import_intss h) q0 hx hf hs hB
  refine ⟨ρ0, H0, s0, e0, l0, ⟨x0⟩, ⟨a0, r0⟩, ?_, i0, w0⟩
  have hlen : cs.length = 1 := by rw [hl, g2]
  have e : cs = (cs.drop 0).take 1 := by
    match cs, hlen with
    | [_], _ => rfl
  rw [e, z0]
  exact (.cons (v0) (.nil _))
structure Prof where
  s : Cat
  t : Cat
  sz : List (List Int)
  be : List (List (List Int))
  bh : List (List (List Int))
structure ProfP where
  s : CatP
  t : CatP
  a2 : Option Addr
  r2 : Nat → Option Addr
  a3 : Option Addr
  r3 : Nat → Option Addr
  s3 : Nat → Nat → Option Addr
  a4 : Option Addr
  r4 : Nat → Option Addr
  s4 : Nat → Nat → Option Addr
def Prof.cells (c : Prof) (p : ProfP) : List Value := c.s.cells p.s ++ (c.t.cells p.t ++ ([.slice p.a2 c.sz.length c.sz.length] ++ ([.slice p.a3 c.be.length c.be.length] ++ ([.slice p.a4 c.bh.length c.bh.length]))))
def Prof.In (H : GHeap) (c : Prof) (p : ProfP) : Prop := c.s.In H p.s ∧ c.t.In H p.t ∧ Intss H p.a2 c.sz p.r2 ∧ Intsss H p.a3 c.be p.r3 p.s3 ∧ Intsss H p.a4 c.bh p.r4 p.s4
theorem Prof.In.mono {H H' : GHeap} {c : Prof} {p : ProfP} (h : c.In H p) (hle : H.Le H') : c.In H' p := ⟨Cat.In.mono (h.1) hle, Cat.In.mono (h.2.1) hle, Intss.mono (h.2.2.1) hle, Intsss.mono (h.2.2.2.1) hle, Intsss.mono (h.2.2.2.2) hle⟩
def Prof.At (H : GHeap) (g o : Nat) (c : Prof) (p : ProfP) : Prop := Mem H g o (c.cells p) ∧ c.In H p
theorem Prof.At.mono {H H' : GHeap} {g o : Nat} {c : Prof} {p : ProfP} (h : Prof.At H g o c p) (hle : H.Le H') : Prof.At H' g o c p := ⟨h.1.mono hle, Prof.In.mono h.2 hle⟩
theorem Prof.At.get {H : GHeap} {g o : Nat} {c : Prof} {p : ProfP} (h : Prof.At H g o c p) : Cat.At H g (o + 0) c.s p.s ∧ Cat.At H g (o + 5) c.t p.t ∧ H.cell g (o + 10) = some (.slice p.a2 c.sz.length c.sz.length) ∧ H.cell g (o + 11) = some (.slice p.a3 c.be.length c.be.length) ∧ H.cell g (o + 12) = some (.slice p.a4 c.bh.length c.bh.length) ∧ Intss H p.a2 c.sz p.r2 ∧ Intsss H p.a3 c.be p.r3 p.s3 ∧ Intsss H p.a4 c.bh p.r4 p.s4 :=
  ⟨⟨h.1.left, h.2.1⟩, ⟨(h.1.right (n := 5) rfl).left, h.2.2.1⟩, ((h.1.right (n := 5) rfl).right (n := 5) rfl).left 0 _ rfl, (((h.1.right (n := 5) rfl).right (n := 5) rfl).right (n := 1) rfl).left 0 _ rfl, ((((h.1.right (n := 5) rfl).right (n := 5) rfl).right (n := 1) rfl).right (n := 1) rfl) 0 _ rfl, h.2.2.2.1, h.2.2.2.2.1, h.2.2.2.2.2⟩
def Prof.Small (c : Prof) : Prop := c.s.Small ∧ c.t.Small ∧ (c.sz.length ≤ 1048576 ∧ ∀ i, (c.sz.getD i []).length ≤ 1048576) ∧ Sm3 c.be ∧ Sm3 c.bh
def Prof.Wide (c : Prof) : Prop := c.s.Wide ∧ c.t.Wide ∧ (c.sz.length ≤ 9223372036854775807 ∧ ∀ i, I64s (c.sz.getD i [])) ∧ Wd3 c.be ∧ Wd3 c.bh
def ProfAt (b : Nat) (H : GHeap) (c : Prof) (p : ProfP) : Prop := CatAt b H c.s p.s ∧ CatAt b H c.t p.t ∧ IntssAt b H p.a2 c.sz p.r2 ∧ IntsssAt b H p.a3 c.be p.r3 p.s3 ∧ IntsssAt b H p.a4 c.bh p.r4 p.s4
theorem ProfAt.keep {b b' : Nat} {H H' : GHeap} {c : Prof} {p : ProfP} (h : ProfAt b H c p) (hk : Keep b' H H') (hb : b' ≤ b) : ProfAt b' H' c p := ⟨CatAt.keep (h.1) hk hb, CatAt.keep (h.2.1) hk hb, IntssAt.keep (h.2.2.1) hk hb, IntsssAt.keep (h.2.2.2.1) hk hb, IntsssAt.keep (h.2.2.2.2) hk hb⟩
theorem ProfAt.inn {b : Nat} {H : GHeap} {c : Prof} {p : ProfP} (h : ProfAt b H c p) : c.In H p := ⟨CatAt.inn (h.1), CatAt.inn (h.2.1), IntssAt.intss (h.2.2.1), IntsssAt.intsss (h.2.2.2.1), IntsssAt.intsss (h.2.2.2.2)⟩
def NewProf (H : GHeap) (c : Prof) (v : Value) (H' : GHeap) : Prop := H.Le H' ∧ ∃ p, v = .agg (c.cells p).toArray ∧ ProfAt H.next H' c p
def profT (P : Program) (t : TypeId) : Bool := structIs P t 13 5 fun fs => fieldIs P fs 0 0 5 catT && fieldIs P fs 1 5 5 catT && fieldIs P fs 2 10 1 intssT && fieldIs P fs 3 11 1 intsssT && fieldIs P fs 4 12 1 intsssT
def RProf (ρ : Place) (H : GHeap) (cs : List Value) : Prop := ∃ (c : Prof) (p : ProfP), LRel ρ (c.cells p) cs ∧ c.In H p ∧ c.Wide
theorem import_prof {P : Program} {t : TypeId} (ht : profT P t = true) : Imports P t RProf := by
  intro T enc B w0 ρ H w held fuel cs x hs hB h
  obtain ⟨fs, g1, g2, g3, g4⟩ := structIs_run ht
  simp only [Bool.and_eq_true] at g4
  obtain ⟨⟨⟨⟨q0, q1⟩, q2⟩, q3⟩, q4⟩ := g4
  obtain ⟨xs, n, _, _, hl, hx, hf⟩ := DataW.trod_struct g1 h
  obtain ⟨ρ0, H0, s0, e0, l0, y0, p0, v0, i0, w0⟩ := import_field (fun _ h => import_cat h) q0 hx hf hs hB
  obtain ⟨ρ1, H1, s1, e1, l1, y1, p1, v1, i1, w1⟩ := import_field (fun _ h => import_cat h) q1 hx hf s0 hB
  obtain ⟨ρ2, H2, s2, e2, l2, a2, x2, r2, c2, z2, v2, i2, w2⟩ := import_field (fun _ h => import_intss h) q2 hx hf s1 hB
  obtain ⟨ρ3, H3, s3, e3, l3, a3, x3, r3, t3, c3, z3, v3, i3, w3⟩ := import_field (fun _ h => import_intsss h) q3 hx hf s2 hB
  obtain ⟨ρ4, H4, s4, e4, l4, a4, x4, r4, t4, c4, z4, v4, i4, w4⟩ := import_field (fun _ h => import_intsss h) q4 hx hf s3 hB
  refine ⟨ρ4, H4, s4, e0.trans (e1.trans (e2.trans (e3.trans (e4)))), l0.trans (l1.trans (l2.trans (l3.trans (l4)))), ⟨y0, y1, x2, x3, x4⟩, ⟨p0, p1, a2, r2, a3, r3, t3, a4, r4, t4⟩, ?_, ⟨Cat.In.mono i0 (l1.trans (l2.trans (l3.trans (l4)))), Cat.In.mono i1 (l2.trans (l3.trans (l4))), i2.mono (l3.trans (l4)), i3.mono (l4), i4⟩, ⟨w0, w1, w2, w3, w4⟩⟩
  have hlen : cs.length = 13 := by rw [hl, g2]
  have e : cs = (cs.drop 0).take 5 ++ ((cs.drop 5).take 5 ++ ((cs.drop 10).take 1 ++ ((cs.drop 11).take 1 ++ ((cs.drop 12).take 1)))) := by
    match cs, hlen with
    | [_, _, _, _, _, _, _, _, _, _, _, _, _], _ => rfl
  rw [e, z2, z3, z4]
  exact (LRel.append (v0.mono (e1.trans (e2.trans (e3.trans (e4))))) (LRel.append (v1.mono (e2.trans (e3.trans (e4)))) (LRel.append (.cons (v2.mono (e3.trans (e4))) (.nil _)) (LRel.append (.cons (v3.mono (e4)) (.nil _)) (.cons (v4) (.nil _))))))
end Go.GL
/- Set functors and their maps: what their laws are. No condition. -/
namespace Go.GL

/-- The first pair with a property, or (-1, 0). -/
def first2 (n : Nat) (len : Nat → Nat) (p : Nat → Nat → Bool) : Int × Int :=
  match firstN n fun a => (firstN (len a) (p a)).isSome with
  | some a => ((a : Int), (((firstN (len a) (p a)).getD 0 : Nat) : Int))
  | none => (-1, 0)
theorem first2_some {n a e : Nat} {len : Nat → Nat} {p : Nat → Nat → Bool} (ha : a < n) (he : e < len a) (h : p a e = true) (h1 : ∀ i, i < e → p a i = false) (h2 : ∀ b, b < a → ∀ i, i < len b → p b i = false) : first2 n len p = ((a : Int), (e : Int)) := by
  have e1 : firstN (len a) (p a) = some e := firstN_some he h h1
  have e2 : (firstN n fun a => (firstN (len a) (p a)).isSome) = some a := firstN_some ha (by rw [e1]; rfl) fun b hb => by rw [firstN_none (h2 b hb)]; rfl
  unfold first2
  rw [e2]
  simp only [e1, Option.getD_some]
theorem first2_none {n : Nat} {len : Nat → Nat} {p : Nat → Nat → Bool} (h2 : ∀ b, b < n → ∀ i, i < len b → p b i = false) : first2 n len p = (-1, 0) := by
  have e2 : (firstN n fun a => (firstN (len a) (p a)).isSome) = none := firstN_none fun b hb => by rw [firstN_none (h2 b hb)]; rfl
  unfold first2
  rw [e2]
theorem first2_neg {n : Nat} {len : Nat → Nat} {p : Nat → Nat → Bool} : (first2 n len p).1 < 0 ↔ ∀ b, b < n → ∀ i, i < len b → p b i = false := by
  refine ⟨fun h b hb i hi => ?_, fun h => by rw [first2_none h]; decide⟩
  unfold first2 at h
  split at h
  · simp only at h; omega
  · rename_i e
    unfold firstN at e
    rw [List.find?_range_eq_none] at e
    have := e b hb
    cases hp : p b i with
    | false => rfl
    | true =>
      exfalso
      cases e1 : firstN (len b) (p b) with
      | some x => unfold firstN at e1; rw [e1] at this; cases this
      | none =>
        unfold firstN at e1
        rw [List.find?_range_eq_none] at e1
        have := e1 i hi
        rw [hp] at this
        cases this

/-- The action of arrow a is a map between its sets. -/
def SFun.AcOk (f : SFun) (a : Nat) : Prop :=
  ((f.ac.getD a []).length : Int) = f.sz.getD (f.sh.src.getD a 0).toNat 0 ∧ allIn (f.ac.getD a []) (f.sz.getD (f.sh.tgt.getD a 0).toNat 0) = true
structure SFun.Shape (f : SFun) : Prop where
  c : f.sh.Is
  zl : (f.sz.length : Int) = f.sh.obj
  sz : ∀ i, i < f.sz.length → 0 ≤ f.sz.getD i 0 ∧ f.sz.getD i 0 ≤ 16
  al : f.ac.length = f.sh.src.length
  ac : ∀ a, a < f.ac.length → f.AcOk a
theorem SFun.Shape.act {f : SFun} (h : f.Shape) {a : Nat} (ha : a < f.ac.length) {e : Nat} (he : e < (f.ac.getD a []).length) : 0 ≤ (f.ac.getD a []).getD e 0 ∧ (f.ac.getD a []).getD e 0 < f.sz.getD (f.sh.tgt.getD a 0).toNat 0 := allIn_iff.1 (h.ac a ha).2 e he
/-- Where arrow a goes, and how large its sets are. -/
theorem SFun.Shape.ends {f : SFun} (h : f.Shape) {a : Nat} (ha : a < f.sh.src.length) : 0 ≤ f.sh.src.getD a 0 ∧ f.sh.src.getD a 0 < f.sz.length ∧ 0 ≤ f.sh.tgt.getD a 0 ∧ f.sh.tgt.getD a 0 < f.sz.length ∧ ((f.ac.getD a []).length : Int) = f.sz.getD (f.sh.src.getD a 0).toNat 0 := by
  have hS := h.c.1
  have q1 := hS.src a ha
  have q2 := hS.tgt a (by have := hS.tl; omega)
  have q3 := h.zl
  have q4 := (h.ac a (by have := h.al; omega)).1
  omega
structure SFun.Laws (f : SFun) : Prop where
  ids : ∀ x : Nat, x < f.sh.idn.length → ∀ e : Nat, e < (f.ac.getD (f.sh.idn.getD x 0).toNat []).length → (f.ac.getD (f.sh.idn.getD x 0).toNat []).getD e 0 = e
  th : ∀ a : Nat, a < f.sh.src.length → ∀ b : Nat, b < f.sh.src.length → f.sh.tgt.getD a 0 = f.sh.src.getD b 0 → ∀ e : Nat, e < (f.ac.getD a []).length →
    (f.ac.getD ((f.sh.comp.getD a []).getD b 0).toNat []).getD e 0 = (f.ac.getD b []).getD ((f.ac.getD a []).getD e 0).toNat 0
def SFun.Is (f : SFun) : Prop := f.Shape ∧ f.Laws

def SMap.PaOk (m : SMap) (x : Nat) : Prop := ((m.pa.getD x []).length : Int) = m.s.sz.getD x 0 ∧ allIn (m.pa.getD x []) (m.t.sz.getD x 0) = true
structure SMap.Fits (m : SMap) : Prop where
  pl : m.pa.length = m.s.sz.length
  pa : ∀ x, x < m.pa.length → m.PaOk x
structure SMap.Shape (m : SMap) : Prop where
  s : m.s.Is
  t : m.t.Is
  sh : m.s.sh = m.t.sh
  fits : m.Fits
/-- The square of arrow a and element e does not commute. -/
def SMap.bad (m : SMap) (a e : Nat) : Bool := decide (¬ (m.pa.getD (m.s.sh.tgt.getD a 0).toNat []).getD ((m.s.ac.getD a []).getD e 0).toNat 0 = (m.t.ac.getD a []).getD ((m.pa.getD (m.s.sh.src.getD a 0).toNat []).getD e 0).toNat 0)
def SMap.first (m : SMap) : Int × Int := first2 m.s.ac.length (fun a => (m.s.ac.getD a []).length) m.bad
def SMap.Is (m : SMap) : Prop := m.Shape ∧ ∀ a, a < m.s.ac.length → ∀ e, e < (m.s.ac.getD a []).length → m.bad a e = false
end Go.GL
/- Set functors, in the program. No condition but those of each statement. -/
namespace Go.Proofs.Ytnohkokoimmclaa
open Go Go.GL Go.RowKit Go.Proofs
end Go.Proofs.Ytnohkokoimmclaa
/- The smallest of the laws' helpers, told for the larger ones. No condition but those of each statement. -/
namespace Go.Proofs.Ytnohkokoimmclaa
open Go Go.GL Go.RowKit Go.Proofs
theorem szInt64S_s {a : Option Addr} {xs : List Int} {left : Int} {H : GHeap} (hx : xs.length ≤ 9223372036854775807 := by omega) (h0 : 0 ≤ left := by omega) (h1 : left ≤ 1048576 := by omega) :
    GCalls Try.prog 32 [.slice a xs.length xs.length, .int .i64 left] H (SzR left (xs.length ≤ 1048576) H) :=
  (szInt64S_c hx h0 h1).mono fun _ _ ⟨e, l, h2, h3, h4, h5⟩ => ⟨e, l, h2, h3, h4, fun h => by have := h5 h; omega⟩
theorem szInt64SS_s {a : Option Addr} {xss : List (List Int)} {r : Nat → Option Addr} {left : Int} {H : GHeap} (h : Intss H a xss r := by assumption) (hx : xss.length ≤ 9223372036854775807 := by omega) (hy : ∀ i, I64s (xss.getD i []) := by assumption) (h0 : 0 ≤ left := by omega) (h1 : left ≤ 1048576 := by omega) :
    GCalls Try.prog 50 [.slice a xss.length xss.length, .int .i64 left] H (SzR left (xss.length ≤ 1048576 ∧ ∀ i, (xss.getD i []).length ≤ 1048576) H) :=
  (szInt64SS_c h hx hy h0 h1).mono fun _ _ ⟨e, l, h2, h3, h4, h5⟩ => ⟨e, l, h2, h3, h4, fun h => ⟨by have := (h5 h).1; omega, fun i => by have := (h5 h).2 i; omega⟩⟩
end Go.Proofs.Ytnohkokoimmclaa
/- The laws' helpers for lists of lists of lists. No condition but those of each statement. -/
namespace Go.Proofs.Ytnohkokoimmclaa
open Go Go.GL Go.RowKit Go.Proofs
end Go.Proofs.Ytnohkokoimmclaa
/- The laws' helpers for Profunctor. No condition but those of each statement. -/
namespace Go.Proofs.Ytnohkokoimmclaa
open Go Go.GL Go.RowKit Go.Proofs
end Go.Proofs.Ytnohkokoimmclaa
/- Profunctors: what their laws are. No condition. -/
namespace Go.GL

/-- The numbers below n. -/
def numsL (n : Nat) : List Int := (List.range n).map fun (i : Nat) => (i : Int)
@[simp] theorem length_numsL (n : Nat) : (numsL n).length = n := by simp [numsL]
theorem numsL_get {n i : Nat} (h : i < n) : (numsL n).getD i 0 = i := by simp [numsL, List.getD_eq_getElem?_getD, h]
theorem numsL_eq {n : Nat} {ys : List Int} (hl : ys.length = n) (h : ∀ i, i < n → ys.getD i 0 = (i : Int)) : ys = numsL n := by
  refine eq_of_getD (by rw [hl, length_numsL]) fun i hi => ?_
  rw [length_numsL] at hi
  rw [h i hi, numsL_get hi]
/-- A map that moves nothing. -/
def NoMove (xs : List Int) : Prop := ∀ i : Nat, i < xs.length → xs.getD i 0 = i
theorem calm_iff {xs : List Int} {n : Nat} (h : xs.length = n) : xs = numsL n ↔ NoMove xs := by
  subst h
  exact ⟨fun e i hi => by rw [e]; exact numsL_get hi, fun hc => numsL_eq rfl hc⟩
theorem calm_iff' {xs : List Int} {n : Int} (h : (xs.length : Int) = n) : xs = numsL n.toNat ↔ NoMove xs := calm_iff (by omega)

structure Prof.Sized (m : Prof) : Prop where
  sl : (m.sz.length : Int) = m.s.obj
  bl : m.be.length = m.s.src.length
  hl : m.bh.length = m.t.src.length
  row : ∀ x, x < m.sz.length → ((m.sz.getD x []).length : Int) = m.t.obj
  rng : ∀ x, x < m.sz.length → ∀ y, y < (m.sz.getD x []).length → 0 ≤ (m.sz.getD x []).getD y 0 ∧ (m.sz.getD x []).getD y 0 ≤ 64
def Prof.BeOk (m : Prof) (a y : Nat) : Prop :=
  (((m.be.getD a []).getD y []).length : Int) = (m.sz.getD (m.s.tgt.getD a 0).toNat []).getD y 0 ∧ allIn ((m.be.getD a []).getD y []) ((m.sz.getD (m.s.src.getD a 0).toNat []).getD y 0) = true
def Prof.BhOk (m : Prof) (b x : Nat) : Prop :=
  (((m.bh.getD b []).getD x []).length : Int) = (m.sz.getD x []).getD (m.t.src.getD b 0).toNat 0 ∧ allIn ((m.bh.getD b []).getD x []) ((m.sz.getD x []).getD (m.t.tgt.getD b 0).toNat 0) = true
structure Prof.Maps (m : Prof) : Prop where
  be : ∀ a, a < m.be.length → ((m.be.getD a []).length : Int) = m.t.obj ∧ ∀ y, y < (m.be.getD a []).length → m.BeOk a y
  bh : ∀ b, b < m.bh.length → ((m.bh.getD b []).length : Int) = m.s.obj ∧ ∀ x, x < (m.bh.getD b []).length → m.BhOk b x
structure Prof.Shape (m : Prof) : Prop where
  s : m.s.Is
  t : m.t.Is
  z : m.Sized
  ok : m.Maps
/-- Arrow a of the first category: its ends, and how many maps it has. -/
theorem Prof.Sized.b {m : Prof} (z : m.Sized) (s : m.s.Is) {a : Nat} (ha : a < m.be.length) : a < m.s.src.length ∧ a < m.s.tgt.length ∧ 0 ≤ m.s.src.getD a 0 ∧ m.s.src.getD a 0 < m.sz.length ∧ 0 ≤ m.s.tgt.getD a 0 ∧ m.s.tgt.getD a 0 < m.sz.length ∧
    ((m.sz.getD (m.s.src.getD a 0).toNat []).length : Int) = m.t.obj ∧ ((m.sz.getD (m.s.tgt.getD a 0).toNat []).length : Int) = m.t.obj := by
  have h0 := z.bl
  have h1 := s.1.tl
  have h2 := s.1.src a (by omega)
  have h3 := s.1.tgt a (by omega)
  have h4 := z.sl
  exact ⟨by omega, by omega, by omega, by omega, by omega, by omega, z.row _ (by omega), z.row _ (by omega)⟩
theorem Prof.Sized.h {m : Prof} (z : m.Sized) (t : m.t.Is) {b : Nat} (hb : b < m.bh.length) : b < m.t.src.length ∧ b < m.t.tgt.length ∧ 0 ≤ m.t.src.getD b 0 ∧ m.t.src.getD b 0 < m.t.obj ∧ 0 ≤ m.t.tgt.getD b 0 ∧ m.t.tgt.getD b 0 < m.t.obj := by
  have h0 := z.hl
  have h1 := t.1.tl
  have h2 := t.1.src b (by omega)
  have h3 := t.1.tgt b (by omega)
  exact ⟨by omega, by omega, by omega, by omega, by omega, by omega⟩
/-- The map of arrow a at object y. -/
theorem Prof.Shape.by {m : Prof} (h : m.Shape) {a y : Nat} (ha : a < m.be.length) (hy : (y : Int) < m.t.obj) : y < (m.be.getD a []).length ∧ y < (m.sz.getD (m.s.src.getD a 0).toNat []).length ∧ y < (m.sz.getD (m.s.tgt.getD a 0).toNat []).length ∧
    (((m.be.getD a []).getD y []).length : Int) = (m.sz.getD (m.s.tgt.getD a 0).toNat []).getD y 0 ∧ (∀ i, i < ((m.be.getD a []).getD y []).length → 0 ≤ ((m.be.getD a []).getD y []).getD i 0 ∧ ((m.be.getD a []).getD y []).getD i 0 < (m.sz.getD (m.s.src.getD a 0).toNat []).getD y 0) ∧
    (0 ≤ (m.sz.getD (m.s.src.getD a 0).toNat []).getD y 0 ∧ (m.sz.getD (m.s.src.getD a 0).toNat []).getD y 0 ≤ 64) ∧ 0 ≤ (m.sz.getD (m.s.tgt.getD a 0).toNat []).getD y 0 ∧ (m.sz.getD (m.s.tgt.getD a 0).toNat []).getD y 0 ≤ 64 := by
  have q := h.z.b h.s ha
  have r := h.ok.be a ha
  have r2 := r.2 y (by omega)
  exact ⟨by omega, by omega, by omega, r2.1, allIn_iff.1 r2.2, h.z.rng _ (by omega) _ (by omega), h.z.rng _ (by omega) _ (by omega)⟩
theorem Prof.Shape.hx {m : Prof} (h : m.Shape) {b x : Nat} (hb : b < m.bh.length) (hx : (x : Int) < m.s.obj) : x < (m.bh.getD b []).length ∧ x < m.sz.length ∧ (m.t.src.getD b 0).toNat < (m.sz.getD x []).length ∧ (m.t.tgt.getD b 0).toNat < (m.sz.getD x []).length ∧
    (((m.bh.getD b []).getD x []).length : Int) = (m.sz.getD x []).getD (m.t.src.getD b 0).toNat 0 ∧ (∀ i, i < ((m.bh.getD b []).getD x []).length → 0 ≤ ((m.bh.getD b []).getD x []).getD i 0 ∧ ((m.bh.getD b []).getD x []).getD i 0 < (m.sz.getD x []).getD (m.t.tgt.getD b 0).toNat 0) ∧
    (0 ≤ (m.sz.getD x []).getD (m.t.src.getD b 0).toNat 0 ∧ (m.sz.getD x []).getD (m.t.src.getD b 0).toNat 0 ≤ 64) ∧ 0 ≤ (m.sz.getD x []).getD (m.t.tgt.getD b 0).toNat 0 ∧ (m.sz.getD x []).getD (m.t.tgt.getD b 0).toNat 0 ≤ 64 := by
  have q := h.z.h h.t hb
  have z := h.z.sl
  have w := h.z.row x (by omega)
  have r := h.ok.bh b hb
  have r2 := r.2 x (by omega)
  exact ⟨by omega, by omega, by omega, by omega, r2.1, allIn_iff.1 r2.2, h.z.rng _ (by omega) _ (by omega), h.z.rng _ (by omega) _ (by omega)⟩
/-- Arrow a's composite with b. -/
theorem Cat.Shape.comp {c : Cat} (h : c.Shape) {a b : Nat} (ha : a < c.src.length) (hb : b < c.src.length) (hp : 0 ≤ (c.comp.getD a []).getD b 0) :
    c.tgt.getD a 0 = c.src.getD b 0 ∧ (c.comp.getD a []).getD b 0 < c.src.length ∧ c.src.getD ((c.comp.getD a []).getD b 0).toNat 0 = c.src.getD a 0 ∧ c.tgt.getD ((c.comp.getD a []).getD b 0).toNat 0 = c.tgt.getD b 0 := by
  have u := (h.th_ge (f := a) (g := b) ha hb).1 hp
  exact ⟨u, ((Cat.Cell.pos u).1 (h.cell a (by have := h.cl; omega) b hb)).2⟩

structure Prof.Acts (m : Prof) : Prop where
  idb : ∀ y : Nat, (y : Int) < m.t.obj → ∀ x : Nat, (x : Int) < m.s.obj → NoMove ((m.be.getD (m.s.idn.getD x 0).toNat []).getD y []) ∧ NoMove ((m.bh.getD (m.t.idn.getD y 0).toNat []).getD x [])
  thb : ∀ y : Nat, (y : Int) < m.t.obj → ∀ a : Nat, a < m.s.src.length → ∀ b : Nat, b < m.s.src.length → 0 ≤ (m.s.comp.getD a []).getD b 0 →
    (m.be.getD ((m.s.comp.getD a []).getD b 0).toNat []).getD y [] = thenL ((m.be.getD b []).getD y []) ((m.be.getD a []).getD y [])
  thh : ∀ x : Nat, (x : Int) < m.s.obj → ∀ a : Nat, a < m.t.src.length → ∀ b : Nat, b < m.t.src.length → 0 ≤ (m.t.comp.getD a []).getD b 0 →
    (m.bh.getD ((m.t.comp.getD a []).getD b 0).toNat []).getD x [] = thenL ((m.bh.getD a []).getD x []) ((m.bh.getD b []).getD x [])
/-- Both sides act past each other. -/
def Prof.MixAt (m : Prof) (a b : Nat) : Prop :=
  thenL ((m.be.getD a []).getD (m.t.src.getD b 0).toNat []) ((m.bh.getD b []).getD (m.s.src.getD a 0).toNat []) = thenL ((m.bh.getD b []).getD (m.s.tgt.getD a 0).toNat []) ((m.be.getD a []).getD (m.t.tgt.getD b 0).toNat [])
def Prof.Mix (m : Prof) : Prop := ∀ a, a < m.s.src.length → ∀ b, b < m.t.src.length → m.MixAt a b
def Prof.Is (m : Prof) : Prop := m.Shape ∧ m.Acts ∧ m.Mix

/-- f's sum below n. -/
def sumN (f : Nat → Int) : Nat → Int
  | 0 => 0
  | n + 1 => sumN f n + f n
theorem sumN_bd {f : Nat → Int} {c : Int} {N : Nat} (h : ∀ i, i < N → 0 ≤ f i ∧ f i ≤ c) : ∀ {n}, n ≤ N → 0 ≤ sumN f n ∧ sumN f n ≤ n * c
  | 0, _ => ⟨Int.le_refl _, by simp [sumN]⟩
  | n + 1, hn => by
    have h1 := sumN_bd h (n := n) (by omega)
    have h2 := h n (by omega)
    have h3 : ((n + 1 : Nat) : Int) * c = n * c + c := by rw [Int.natCast_add, Int.add_mul]; simp
    rw [h3]
    simp only [sumN]
    omega
theorem range_succ_map {α : Type} {f : Nat → α} {n : Nat} : (List.range (n + 1)).map f = (List.range n).map f ++ [f n] := by simp [List.range_succ]
def Prof.diag (m : Prof) (i : Nat) : Int := (m.sz.getD i []).getD i 0
/-- Where the places over each object begin. -/
def Prof.firsts (m : Prof) (n : Nat) : List Int := (List.range n).map (sumN m.diag)
@[simp] theorem Prof.length_firsts (m : Prof) (n : Nat) : (m.firsts n).length = n := by simp [Prof.firsts]
theorem Prof.firsts_get (m : Prof) {n i : Nat} (h : i < n) : (m.firsts n).getD i 0 = sumN m.diag i := by simp [Prof.firsts, List.getD_eq_getElem?_getD, h]
theorem Prof.firsts_succ (m : Prof) {n : Nat} : m.firsts (n + 1) = m.firsts n ++ [sumN m.diag n] := range_succ_map
/-- A profunctor of a category with itself. -/
noncomputable def Prof.code (m : Prof) : Int := bif B m.Is then (bif B (m.s = m.t) then 0 else 5) else 1
theorem Prof.code_nis {m : Prof} (h : ¬ m.Is) : m.code = 1 := by unfold Prof.code; rw [B_false h]; rfl
theorem Prof.code_ne {m : Prof} (h : m.Is) (h' : ¬ m.s = m.t) : m.code = 5 := by unfold Prof.code; rw [B_true h, B_false h']; rfl
theorem Prof.code_ok {m : Prof} (h : m.Is) (h' : m.s = m.t) : m.code = 0 := by unfold Prof.code; rw [B_true h, B_true h']; rfl
theorem Prof.of_code {m : Prof} (h : m.code = 0) : m.Is ∧ m.s = m.t := by
  by_cases h1 : m.Is
  · by_cases h2 : m.s = m.t
    · exact ⟨h1, h2⟩
    · rw [Prof.code_ne h1 h2] at h; cases h
  · rw [Prof.code_nis h1] at h; cases h
theorem Prof.code_bd (m : Prof) : 0 ≤ m.code ∧ m.code ≤ 5 := by
  by_cases h1 : m.Is
  · by_cases h2 : m.s = m.t
    · rw [Prof.code_ok h1 h2]; omega
    · rw [Prof.code_ne h1 h2]; omega
  · rw [Prof.code_nis h1]; omega
theorem Prof.Sized.diag {m : Prof} (z : m.Sized) (e : m.s = m.t) {i : Nat} (hi : i < m.sz.length) : i < (m.sz.getD i []).length ∧ 0 ≤ m.diag i ∧ m.diag i ≤ 64 := by
  have h1 := z.row i hi
  have h2 := z.sl
  rw [e] at h2
  have h3 := z.rng i hi i (by omega)
  exact ⟨by omega, h3⟩
theorem Prof.Sized.sum {m : Prof} (z : m.Sized) (e : m.s = m.t) {n : Nat} (hn : n ≤ m.sz.length) : 0 ≤ sumN m.diag n ∧ sumN m.diag n ≤ n * 64 := sumN_bd (N := m.sz.length) (fun _ hi => (z.diag e hi).2) hn
/-- The place of element e over object x. -/
noncomputable def Prof.place (m : Prof) (x e : Int) : Int × Int := bif B (m.code = 0) then (bif B (0 ≤ x ∧ x < m.s.obj ∧ 0 ≤ e ∧ e < m.diag x.toNat) then (sumN m.diag x.toNat + e, 0) else (0, 2)) else (0, m.code)
theorem Prof.place_bad {m : Prof} {x e : Int} (h : ¬ m.code = 0) : m.place x e = (0, m.code) := by unfold Prof.place; rw [B_false h]; rfl
theorem Prof.place_out {m : Prof} {x e : Int} (h : m.code = 0) (h' : ¬ (0 ≤ x ∧ x < m.s.obj ∧ 0 ≤ e ∧ e < m.diag x.toNat)) : m.place x e = (0, 2) := by unfold Prof.place; rw [B_true h, B_false h']; rfl
theorem Prof.place_in {m : Prof} {x e : Int} (h : m.code = 0) (h' : 0 ≤ x ∧ x < m.s.obj ∧ 0 ≤ e ∧ e < m.diag x.toNat) : m.place x e = (sumN m.diag x.toNat + e, 0) := by unfold Prof.place; rw [B_true h, B_true h']; rfl

/-- Two profunctors between the same categories. -/
noncomputable def Prof.code2 (m n : Prof) : Int := bif B (m.Is ∧ n.Is) then (bif B (m.s = n.s ∧ m.t = n.t) then 0 else 5) else 1
theorem Prof.code2_nis {m n : Prof} (h : ¬ (m.Is ∧ n.Is)) : m.code2 n = 1 := by unfold Prof.code2; rw [B_false h]; rfl
theorem Prof.code2_ne {m n : Prof} (h : m.Is ∧ n.Is) (h' : ¬ (m.s = n.s ∧ m.t = n.t)) : m.code2 n = 5 := by unfold Prof.code2; rw [B_true h, B_false h']; rfl
theorem Prof.code2_ok {m n : Prof} (h : m.Is ∧ n.Is) (h' : m.s = n.s ∧ m.t = n.t) : m.code2 n = 0 := by unfold Prof.code2; rw [B_true h, B_true h']; rfl
theorem Prof.of_code2 {m n : Prof} (h : m.code2 n = 0) : (m.Is ∧ n.Is) ∧ m.s = n.s ∧ m.t = n.t := by
  by_cases h1 : m.Is ∧ n.Is
  · by_cases h2 : m.s = n.s ∧ m.t = n.t
    · exact ⟨h1, h2⟩
    · rw [Prof.code2_ne h1 h2] at h; cases h
  · rw [Prof.code2_nis h1] at h; cases h
abbrev L3 := List (List (List Int))
def Prof.CoOk (m n : Prof) (c : L3) (x y : Nat) : Prop := (((c.getD x []).getD y []).length : Int) = (m.sz.getD x []).getD y 0 ∧ allIn ((c.getD x []).getD y []) ((n.sz.getD x []).getD y 0) = true
structure Prof.Rows (m n : Prof) (c : L3) : Prop where
  cl : (c.length : Int) = m.s.obj
  row : ∀ x, x < c.length → ((c.getD x []).length : Int) = m.t.obj ∧ ∀ y, y < (c.getD x []).length → m.CoOk n c x y
def Prof.NatB (m n : Prof) (c : L3) (a y : Nat) : Prop :=
  thenL ((m.be.getD a []).getD y []) ((c.getD (m.s.src.getD a 0).toNat []).getD y []) = thenL ((c.getD (m.s.tgt.getD a 0).toNat []).getD y []) ((n.be.getD a []).getD y [])
def Prof.NatH (m n : Prof) (c : L3) (b x : Nat) : Prop :=
  thenL ((m.bh.getD b []).getD x []) ((c.getD x []).getD (m.t.tgt.getD b 0).toNat []) = thenL ((c.getD x []).getD (m.t.src.getD b 0).toNat []) ((n.bh.getD b []).getD x [])
structure Prof.IsMap (m n : Prof) (c : L3) : Prop where
  rows : m.Rows n c
  nb : ∀ a, a < m.s.src.length → ∀ y : Nat, (y : Int) < m.t.obj → m.NatB n c a y
  nh : ∀ b, b < m.t.src.length → ∀ x : Nat, (x : Int) < m.s.obj → m.NatH n c b x
theorem Prof.Rows.co {m n : Prof} {c : L3} (h : m.Rows n c) {x y : Nat} (hx : (x : Int) < m.s.obj) (hy : (y : Int) < m.t.obj) : x < c.length ∧ y < (c.getD x []).length ∧ (((c.getD x []).getD y []).length : Int) = (m.sz.getD x []).getD y 0 ∧
    ∀ i, i < ((c.getD x []).getD y []).length → 0 ≤ ((c.getD x []).getD y []).getD i 0 ∧ ((c.getD x []).getD y []).getD i 0 < (n.sz.getD x []).getD y 0 := by
  have h1 := h.cl
  have h2 := h.row x (by omega)
  have h3 := h2.2 y (by omega)
  exact ⟨by omega, by omega, h3.1, allIn_iff.1 h3.2⟩
end Go.GL
/- Profunctors, in the program. No condition but those of each statement. -/
namespace Go.Proofs.Ytnohkokoimmclaa
open Go Go.GL Go.RowKit Go.Proofs
end Go.Proofs.Ytnohkokoimmclaa
/- Maps from numbers to numbers, and lists appended to lists, as steps over ghost heaps. No condition. -/
namespace Go.GL
open Go.RowKit
/-- A list appended whole. -/
theorem CDo.appendL {P : Program} {H : GHeap} {fr : Slots} {o : Oper} {t tx e e' : TypeId} {s x : Operand} {g n bytes : Nat} {a : Option Addr} {z : List Value} {ys xs : List Int} (ho : o.op = .call { callee := .builtin .append, args := #[s, x], argTypes := #[t, tx] }) (ht : sliceT P t = some (e, 1)) (hz : zeroT P e = some (z, 1)) (hzn : z.length = 1)
    (hb : (P.info? e).map (·.bytes) = some bytes) (htx : sliceT P tx = some (e', 1)) (hsv : ev fr s = some (.slice (some ⟨g, 0, none⟩) n n)) (hx : ev fr x = some (.slice a xs.length xs.length)) (hg : H.get g = some (.row (ints ys) e true)) (hxs : Ints H a xs) (hend : n = ys.length)
    (hN : n + xs.length ≤ 16777216) (hB : (n + xs.length) * bytes ≤ 140737488355328) :
    CDo P o fr H (fun r H' => ∃ g', r = some (.slice (some ⟨g', 0, none⟩) (n + xs.length) (n + xs.length)) ∧ St [g] H H' ∧ H.next ≤ g' ∧ H'.get g' = some (.row (ints (ys ++ xs)) e true)) := by
  have e1 : ints (ys ++ xs) = (ints ys).drop 0 ++ ints xs := by simp [ints]
  rw [e1]
  refine .appendR (off := 0) (cs := ints ys) (news := ints xs) ho ht hz hzn hb hsv hg (by simp; omega) ?_ hN hB
  rcases hxs with h0 | ⟨g', off, rfl, hc⟩
  · obtain rfl : xs = [] := List.eq_nil_of_length_eq_zero h0
    exact .empty htx hx
  · exact .slice htx hx (by simp) (fun i v hv => by
      have hi : i < xs.length := by have := (List.getElem?_eq_some_iff.1 hv).1; simpa using this
      rw [ints_get hi] at hv
      cases hv
      exact hc i hi) (fun v hv => by
      simp only [ints, List.mem_map] at hv
      obtain ⟨m, _, rfl⟩ := hv
      rfl)

section
variable {P : Program} {B : Nat} {w0 : World} {ρ : Place} {H : GHeap} {w : World} {fr : Slots} {o : Oper} {R : Option Value → GHeap → Prop}
theorem Sim.newMap (hs : Sim P B w0 ρ H w) : Sim P B w0 (place ρ H.next ⟨w.heap.size, 0, 0, 0⟩) (H.push (.map [])) (w.alloc (.map #[] 0)) ∧ Ext ρ (place ρ H.next ⟨w.heap.size, 0, 0, 0⟩) := by
  have hext : Ext ρ (place ρ H.next ⟨w.heap.size, 0, 0, 0⟩) := place_ext (hs.dom _ (Nat.le_refl _))
  refine ⟨⟨fun g hg => ?_, fun g o hg => ?_, fun g g' o o' s s' h1 h2 h3 h4 h5 h6 h7 => ?_, by have := hs.base; simp; omega, hs.below.alloc hs.base _⟩, hext⟩
  · rw [GHeap.next_push] at hg
    simp only [place]
    rw [if_neg (by omega)]
    exact hs.dom g (by omega)
  · rcases Nat.lt_or_ge g H.next with hlt | hge
    · rw [GHeap.get_push_lt hlt] at hg
      exact (hs.live g o hg).keep hext fun s hsp => by
        have hb : s.blk < w.heap.size := by
          cases o with
          | row => obtain ⟨s', C', fz, h1, h2, _⟩ := hs.live g _ hg; rw [hsp] at h1; cases h1; exact (Array.getElem?_eq_some_iff.1 h2).1
          | map => obtain ⟨s', C', fz, h1, h2, _⟩ := hs.live g _ hg; rw [hsp] at h1; cases h1; exact (Array.getElem?_eq_some_iff.1 h2).1
        exact heap_alloc_old w _ hb
    · have hg' : g = H.next := by
        have := GHeap.lt_of_get hg
        simp at this
        omega
      subst hg'
      rw [GHeap.get_push_new] at hg
      cases hg
      exact ⟨_, #[], 0, place_self, heap_alloc_new w _, hs.base, rfl, fun i k v hv => by simp at hv⟩
  · have old : ∀ {k : Nat} {x : GObj} {t : Spot}, (H.push (.map [])).get k = some x → x.isOwn = true → place ρ H.next ⟨w.heap.size, 0, 0, 0⟩ k = some t → k ≠ H.next → ρ k = some t ∧ H.get k = some x ∧ t.blk < w.heap.size := by
      intro k x t hx ho ht hne
      have hlt : k < H.next := by have := GHeap.lt_of_get hx; simp at this; omega
      rw [GHeap.get_push_lt hlt] at hx
      simp only [place, hne, if_false] at ht
      obtain ⟨s0, e0, _, e2⟩ := (hs.live k x hx).own ho
      rw [ht] at e0; cases e0
      exact ⟨ht, hx, e2⟩
    by_cases e1 : g = H.next
    · subst e1
      obtain ⟨_, _, hlt⟩ := old h2 h4 h7 (Ne.symm h5)
      rw [place_self] at h6
      cases h6
      simp only
      omega
    · obtain ⟨r1, r2, r3⟩ := old h1 h3 h6 e1
      by_cases e2 : g' = H.next
      · subst e2
        rw [place_self] at h7
        cases h7
        simp only
        omega
      · obtain ⟨t1, t2, t3⟩ := old h2 h4 h7 e2
        exact hs.apart g g' o o' s s' r2 t2 h3 h4 h5 r1 t1
/-- A map is written: the world has turned at its block alone. -/
theorem Sim.mapTurn (hs : Sim P B w0 ρ H w) {g : Nat} {es es' : List (Value × Value)} (hg : H.get g = some (.map es)) {s : Spot} (hsp : ρ g = some s) {w' : World} {E : Array MapEntry} {clock : Nat}
    (hw : w'.heap[s.blk]? = some (.map E clock)) (hl : es'.length = E.size) (hc : ∀ (i : Nat) (k v : Value), es'[i]? = some (k, v) → ∃ e : MapEntry, E[i]? = some e ∧ VRel ρ k e.key ∧ VRel ρ v e.val)
    (hother : ∀ k, k ≠ s.blk → w'.heap[k]? = w.heap[k]?) (hsize : w'.heap.size = w.heap.size) (hos : w'.os = w.os) (htape : w'.tape = w.tape) (hout : w'.output = w.output) :
    Sim P B w0 ρ (H.set g (some (.map es'))) w' := by
  have hlt := GHeap.lt_of_get hg
  obtain ⟨s0, E0, c0, k1, k2, hB, _⟩ := hs.live _ _ hg
  rw [hsp] at k1
  cases k1
  refine ⟨fun k hk => hs.dom k (by simpa using hk), fun k o hk => ?_, fun k k' o o' t t' h1 h2 h3 h4 h5 h6 h7 => ?_, by rw [hsize]; exact hs.base, ?_⟩
  · by_cases ek : k = g
    · subst ek
      rw [GHeap.get_set_eq hlt] at hk
      cases hk
      exact ⟨s, E, clock, hsp, hw, hB, hl, hc⟩
    · rw [GHeap.get_set_ne (Ne.symm ek)] at hk
      refine (hs.live k o hk).keep (.refl ρ) fun t ht => hother _ ?_
      cases ho : o.isOwn with
      | true => exact hs.apart k g o _ t s hk hg ho rfl ek ht hsp
      | false =>
        cases o with
        | row cells el own =>
          obtain ⟨s', _, _, e1, _, _, _, _, _, e7, _⟩ := hs.live _ _ hk
          rw [ht] at e1; cases e1
          have := e7 ho
          omega
        | map es => cases ho
  · have back : ∀ {k : Nat} {x : GObj}, (H.set g (some (.map es'))).get k = some x → x.isOwn = true → ∃ y, H.get k = some y ∧ y.isOwn = true := by
      intro k x hx ho
      by_cases ek : k = g
      · subst ek; exact ⟨_, hg, rfl⟩
      · rw [GHeap.get_set_ne (Ne.symm ek)] at hx; exact ⟨x, hx, ho⟩
    obtain ⟨y, y1, y2⟩ := back h1 h3
    obtain ⟨z, z1, z2⟩ := back h2 h4
    exact hs.apart k k' y z t t' y1 z1 y2 z2 h5 h6 h7
  · refine hs.below.trans ⟨hos, htape, hout, by omega, fun k hk => hother k (by omega)⟩
theorem CDo.makeMapR {t : TypeId} (ho : o.op = .makeMap t none) :
    CDo P o fr H (fun r H' => ∃ g, r = some (.map (some g)) ∧ H.Le H' ∧ H.next ≤ g ∧ H'.get g = some (.map [])) := .mk fun B w0 ρ a w hs hf next Q hn => by
  obtain ⟨hs', hext⟩ := hs.newMap
  refine upon_value (c := .map (some w.heap.size)) (w' := w.alloc (.map #[] 0)) ?_ (hn _ (some (.map (some H.next))) _ _ _ ⟨H.next, rfl, GHeap.le_push _ _, Nat.le_refl _, GHeap.get_push_new _ _⟩ hext hs' fun y hy => ?_)
  · unfold execOp
    simp only [ho]
    refine v_run' ?_
    simp [Instr.makeMap, newObj, Sem.run]
  · cases hy
    exact .map (s := ⟨w.heap.size, 0, 0, 0⟩) place_self
theorem CDo.lookupR {t e : TypeId} {m k : Operand} {g : Nat} {es : List (Int × Int)} {j : Int} (ho : o.op = .lookup t m k true) (ht : mapIT P t = some e) (hz : zvT P e = some (.int .i64 0)) (hm : ev fr m = some (.map (some g))) (hk : ev fr k = some (.int .i64 j)) (hg : H.get g = some (.map (imap es)))
    (h : R (some (.tuple #[.int .i64 ((lookE es j).getD 0), .bool (lookE es j).isSome])) H) : CDo P o fr H R := .mk fun B w0 ρ a w hs hf next Q hn => by
  rw [ho] at hf
  obtain ⟨s, hsp, em⟩ := (ev_rel hf (x := m) (by simp [Op.operands]) hm).map_inv
  have ek := (ev_rel hf (x := k) (by simp [Op.operands]) hk).int_inv
  obtain ⟨kt, q, hu, hkt⟩ := mapIT_run ht
  obtain ⟨E, clock, hE, hr⟩ := hs.mrel hg hsp
  refine upon_value (c := .tuple #[.int .i64 ((lookE es j).getD 0), .bool (lookE es j).isSome]) (w' := w) ?_ (hn ρ _ _ _ _ h (.refl ρ) hs fun y hy => ?_)
  · unfold execOp
    simp only [ho, em, ek]
    refine v_run' ?_
    have hz' : (zeroValue e).run P w = .ok (.int .i64 0) w := by
      unfold zvT at hz
      simp only [Option.bind_eq_some_iff] at hz
      obtain ⟨i, hi, hz0⟩ := hz
      simp [zeroValue, typeInfo, Sem.run_bind, program, Sem.run, hi, hz0]
    rcases findNow_rel (q := q) (k := j) (E := E.toList) (es := es) (by simpa using hr.1) (fun i e he => by simpa using hr.2 i e he) 0 with ⟨i, v, h1, h2⟩ | ⟨h1, h2⟩
    · simp [Instr.lookup, run_underlying hu, MapKept.run_getObj_map hE, checkKey_int hkt, findKey_now hkt h2, h1, Result.andThen]
    · simp [Instr.lookup, run_underlying hu, MapKept.run_getObj_map hE, checkKey_int hkt, findKey_now hkt h2, h1, hz', Result.andThen]
  · cases hy
    exact .flat rfl
/-- A key that is not there yet. -/
theorem CDo.mapPutR {t e : TypeId} {m k x : Operand} {g : Nat} {es : List (Int × Int)} {j v : Int} (ho : o.op = .mapUpdate t m k x) (ht : mapIT P t = some e) (hm : ev fr m = some (.map (some g))) (hk : ev fr k = some (.int .i64 j)) (hx : ev fr x = some (.int .i64 v)) (hg : H.get g = some (.map (imap es)))
    (hno : lookE es j = none) : CDo P o fr H (fun r H' => r = none ∧ St [g] H H' ∧ H'.get g = some (.map (imap (es ++ [(j, v)])))) := .mk fun B w0 ρ a w hs hf next Q hn => by
  rw [ho] at hf
  obtain ⟨s, hsp, em⟩ := (ev_rel hf (x := m) (by simp [Op.operands]) hm).map_inv
  have ek := (ev_rel hf (x := k) (by simp [Op.operands]) hk).int_inv
  have ex := (ev_rel hf (x := x) (by simp [Op.operands]) hx).int_inv
  obtain ⟨kt, q, hu, hkt⟩ := mapIT_run ht
  obtain ⟨E, clock, hE, hr⟩ := hs.mrel hg hsp
  have hlt := (Array.getElem?_eq_some_iff.1 hE).1
  have hs' := hs.mapTurn hg hsp (w' := { w with heap := w.heap.setIfInBounds s.blk (.map (E.push { key := .int .i64 j, val := .int .i64 v, born := clock }) (clock + 1)) }) (es' := imap (es ++ [(j, v)])) (E := E.push { key := .int .i64 j, val := .int .i64 v, born := clock }) (clock := clock + 1)
    (by simp [hlt]) (by simp [imap, hr.1]) (fun i k' v' hi => by
      simp only [imap, List.map_append, List.map_cons, List.map_nil] at hi
      by_cases hil : i < es.length
      · rw [List.getElem?_append_left (by simpa using hil)] at hi
        simp only [List.getElem?_map, Option.map_eq_some_iff] at hi
        obtain ⟨e1, he1, heq⟩ := hi
        cases heq
        obtain ⟨c, c1, c2, c3⟩ := hr.2 i e1 he1
        exact ⟨c, by rw [Array.getElem?_push]; rw [if_neg (by have := hr.1; omega)]; exact c1, by rw [c2]; exact .int _ _, by rw [c3]; exact .int _ _⟩
      · rw [List.getElem?_append_right (by simpa using Nat.le_of_not_lt hil)] at hi
        simp only [List.length_map] at hi
        have hi0 : i - es.length = 0 := by
          cases hd : i - es.length with
          | zero => rfl
          | succ d => rw [hd] at hi; simp at hi
        rw [hi0] at hi
        simp only [List.getElem?_cons_zero, Option.some.injEq, Prod.mk.injEq] at hi
        obtain ⟨rfl, rfl⟩ := hi
        exact ⟨_, by rw [Array.getElem?_push, if_pos (by have := hr.1; omega)], .int _ _, .int _ _⟩)
    (fun k' hk' => by simp [Array.getElem?_setIfInBounds_ne (Ne.symm hk')]) (by simp) rfl rfl rfl
  refine upon_skip (w' := { w with heap := w.heap.setIfInBounds s.blk (.map (E.push { key := .int .i64 j, val := .int .i64 v, born := clock }) (clock + 1)) }) ?_ (hn ρ none undef _ _ ⟨rfl, .of_set, GHeap.get_set_eq (GHeap.lt_of_get hg)⟩ (.refl ρ) hs' fun y hy => by cases hy)
  unfold execOp
  simp only [ho, em, ek, ex]
  refine u_run' ?_
  rcases findNow_rel (q := q) (k := j) (E := E.toList) (es := es) (by simpa using hr.1) (fun i e he => by simpa using hr.2 i e he) 0 with ⟨i, u, h1, h2⟩ | ⟨h1, h2⟩
  · rw [hno] at h1; cases h1
  · simp [Instr.mapUpdate, run_underlying hu, MapKept.run_getObj_map hE, MapKept.run_setObj_map _ hE, checkKey_int hkt, findKey_now hkt h2, Result.andThen]
theorem CDo.lenMap {t e : TypeId} {m : Operand} {g : Nat} {es : List (Int × Int)} (ho : o.op = .call { callee := .builtin .len, args := #[m], argTypes := #[t] }) (ht : mapIT P t = some e) (hm : ev fr m = some (.map (some g))) (hg : H.get g = some (.map (imap es)))
    (h : R (some (.int .i64 (es.length : Int))) H) : CDo P o fr H R := .mk fun B w0 ρ a w hs hf next Q hn => by
  rw [ho] at hf
  obtain ⟨s, hsp, em⟩ := (ev_rel hf (x := m) (by simp [Op.operands, Call.operands]) hm).map_inv
  obtain ⟨kt, q, hu, hkt⟩ := mapIT_run ht
  obtain ⟨E, clock, hE, hr⟩ := hs.mrel hg hsp
  have hrun : (Builtin.len_ #[t] o.type #[.map (some s.blk)]).run P w = .ok (.int .i64 (es.length : Int)) w := by
    simp [Builtin.len_, Sem.run_bind, run_underlying hu, MapKept.run_getObj_map hE, hr.1, goInt, Result.andThen]
  refine upon_value (c := .int .i64 (es.length : Int)) (w' := w) ?_ (hn ρ _ _ _ _ h (.refl ρ) hs fun y hy => ?_)
  · unfold execOp
    simp only [ho, resolve, invoke, builtin, Sem.run_bind, Sem.run_pure, Result.andThen_ok, List.map_toArray, List.map_cons, List.map_nil, em, hrun]
  · cases hy
    exact .int _ _
end
theorem imap_nil : imap [] = [] := rfl
theorem lookE_snoc {es : List (Int × Int)} {k v j : Int} : lookE (es ++ [(k, v)]) j = (lookE es j).or (if k = j then some v else none) := by
  unfold lookE
  rw [List.find?_append]
  cases es.find? (fun e => e.1 == j) with
  | some e => rfl
  | none =>
    by_cases h : k = j
    · simp [h]
    · simp [h]
end Go.GL
