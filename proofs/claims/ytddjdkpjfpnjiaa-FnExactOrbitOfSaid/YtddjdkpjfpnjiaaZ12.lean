/- OrbitOf: the reference's. No condition but those of each statement. -/
import Derived.Test.YtddjdkpjfpnjiaaZ11
set_option linter.unusedSectionVars false
namespace Go.GL
open Go Go.RowKit
variable [MainFlag]
def SFun.orM (f : SFun) (x e : Int) (k : Nat) (y d : Nat) : Bool := (List.range k).any fun a => decide (f.sh.src.getD a 0 = x) && (decide (f.sh.tgt.getD a 0 = (y : Int)) && decide ((f.ac.getD a []).getD e.toNat 0 = (d : Int)))
theorem orM_zero {f : SFun} {x e : Int} : f.orM x e 0 = fun _ _ => false := by funext y d; simp [SFun.orM]
theorem orM_succ {f : SFun} {x e : Int} {k y d : Nat} : f.orM x e (k + 1) y d = (f.orM x e k y d || (decide (f.sh.src.getD k 0 = x) && (decide (f.sh.tgt.getD k 0 = (y : Int)) && decide ((f.ac.getD k []).getD e.toNat 0 = (d : Int))))) := by simp [SFun.orM, List.range_succ]
theorem orM_skip {f : SFun} {x e : Int} {k : Nat} (h : ¬ f.sh.src.getD k 0 = x) : f.orM x e (k + 1) = f.orM x e k := by
  funext y d
  have : decide (f.sh.src.getD k 0 = x) = false := by simpa using h
  rw [orM_succ, this]
  simp
theorem orM_set {f : SFun} {x e : Int} {k n y i : Nat} (hs : f.sh.src.getD k 0 = x) (ht : f.sh.tgt.getD k 0 = (y : Int)) (hv : (f.ac.getD k []).getD e.toNat 0 = (i : Int)) : (tabB n (f.orM x e k y)).set i true = tabB n (f.orM x e (k + 1) y) := by
  rw [tabB_set]
  refine tabB_congr fun d _ => ?_
  rw [orM_succ, hs, ht, hv]
  by_cases h : d = i
  · subst h; simp
  · have h4 : (d == i) = false := by simpa using h
    have h5 : decide ((i : Int) = (d : Int)) = false := by simp; omega
    rw [h4, h5]; simp
theorem orM_other {f : SFun} {x e : Int} {k n y : Nat} {L : Nat → Nat} (ht : f.sh.tgt.getD k 0 = (y : Int)) : ∀ j, j < n → j ≠ y → ∀ d, d < L j → f.orM x e (k + 1) j d = f.orM x e k j d := fun j _ hne d _ => by
  have h5 : decide ((y : Int) = (j : Int)) = false := by simp; omega
  rw [orM_succ, ht, h5]
  simp
theorem orM_done {f : SFun} {x e : Int} {y d : Nat} (hl : f.ac.length = f.sh.src.length) : f.orM x e f.ac.length y d = (f.img x e (y : Int)).contains (d : Int) := by
  rw [Bool.eq_iff_iff]
  unfold SFun.orM SFun.img
  simp only [List.any_eq_true, List.mem_range, Bool.and_eq_true, decide_eq_true_eq, List.contains_iff_mem, List.mem_map, Cat.mem_hom]
  constructor
  · rintro ⟨a, a1, a2, a3, a4⟩
    exact ⟨(a : Int), ⟨a, by omega, a2, a3, rfl⟩, by rw [Int.toNat_natCast]; exact a4⟩
  · rintro ⟨_, ⟨a, a1, a2, a3, rfl⟩, a4⟩
    rw [Int.toNat_natCast] at a4
    exact ⟨a, by omega, a2, a3, a4⟩
end Go.GL
namespace Go.Proofs.Ytddjdkpjfpnjiaa
open Go Go.GL Go.RowKit Go.Proofs
variable [MainFlag]
theorem sl_58_Oj : sliceT Try.prog 58 = some (60, 1) := by kernel_rfl
theorem ze_60_Oj : zeroT Try.prog 60 = some ([.slice none 0 0], 1) := by kernel_rfl
theorem ze_4_Oj : zeroT Try.prog 4 = some ([.bool false], 1) := by kernel_rfl
theorem by_4_Oj : (Try.prog.info? 4).map (·.bytes) = some 1 := by kernel_rfl
theorem by_60_Oj : (Try.prog.info? 60).map (·.bytes) = some 24 := by kernel_rfl
theorem on_60_Oj : oneT Try.prog 60 = true := by kernel_rfl
theorem sz_4_Oj : (Try.prog.info? 4).map (·.size) = some 1 := by kernel_rfl
theorem l19Element_c {f : SFun} {p : SFunP} {x e : Int} {H : GHeap} (hin : f.In H p := by assumption) (hsm : f.Small := by assumption) (hS : f.Shape := by assumption) :
    GCalls Try.prog 30 [.agg (f.cells p).toArray, .int .i64 x, .int .i64 e] H (Ret (.bool (B (f.El x e))) H) := by
  refine GCalls.ret rfl ?_
  have _ := hS.c.1.obj
  have _ := hS.zl
  refine GCalls.body (N := 24) (rs := [.tmp 6]) Try.func30 rfl rfl rfl rfl (fun Qx b hend => ?_)
  refine .fg [0, 1, 2] rfl ?_
  have d := GHeap.Le.refl H
  have a := hin
  refine .seq (fun K1 n => .region ?_)
  refine .R rfl (.boxR rfl sz_33_Oi rfl) ?_
  rintro _ _ ⟨g3, rfl, m, _, l⟩
  have _ := m.1
  replace d := d.trans m
  have _ := GHeap.ltg l
  replace hin := a.mono d
  have j : SFun.At _ g3 0 f p := ⟨Mem.of_get l, hin⟩
  obtain ⟨g, _, _, _, _⟩ := j.get
  have _ : MemN _ _ _ _ _ := ⟨rfl, j.1⟩
  have _ := j.2
  have _ : MemN _ _ _ _ _ := ⟨rfl, g.1⟩
  have _ := g.2
  refine .mv rfl (.nil (n _ _ (.seq (fun K2 k => .region (.q rfl (.fieldAddr fo_33_0_P rfl) ?_)))))
  refine .q rfl (.loadM ag_31_D rfl (by assumption)) ?_
  refine .mv rfl ?_
  refine .callQ rfl rfl rfl rfl en39 rfl (l02Object_c) ?_
  refine .mv rfl ?_
  refine .split (fun h => ?_) (fun h => ?_)
  ·
   try simp only [sps] at h
   refine .qg rfl (.move rfl) (.qg rfl (.cmp rfl rfl rfl) (.q rfl (.pickT rfl rfl) (.mv rfl ?_)))
   refine .split (fun i => ?_) (fun i => ?_)
   ·
    try simp only [sps] at i
    refine .qg rfl (.move rfl) (.qg rfl (.fieldAddr fo_33_1_P rfl) ?_)
    refine .qg rfl (.load on_22_B rfl (by first | assumption | exact Mem.of_get l 5 _ rfl)) ?_
    refine .qg rfl (.move rfl) (.qg rfl (.i1 sl_22_A rfl rfl) (.qg rfl (.lI on_2_A rfl) (.qg rfl (.cmp rfl rfl rfl) (.q rfl (.pickT rfl rfl) (.mv rfl (.nil (k _ _ (.ret (b _ _ (⟨_, rfl, ?_⟩))))))))))
    exact ⟨congrArg _ (by rw [Bool.eq_iff_iff, B_iff, decide_eq_true_iff]; exact ⟨fun hh => hh.2.2, fun hh => ⟨h, i, hh⟩⟩), d⟩
   try simp only [sps] at i
   refine .z rfl (.z rfl (.z rfl (.z rfl (.z rfl (.z rfl (.z rfl (.q rfl (.pickF rfl rfl) (.mv rfl (.nil (k _ _ (.ret (b _ _ (⟨_, rfl, ?_⟩)))))))))))))
   exact ⟨congrArg _ (B_false fun hh => by have := hh.2; omega), d⟩
  try simp only [sps] at h
  refine .z rfl (.z rfl (.q rfl (.pickF rfl rfl) (.mv rfl (.z rfl (.z rfl (.z rfl (.z rfl (.z rfl (.z rfl (.z rfl (.q rfl (.pickF rfl rfl) (.mv rfl (.nil (k _ _ (.ret ?_)))))))))))))))
  refine b _ _ (⟨_, rfl, ?_⟩)
  exact ⟨congrArg _ (B_false fun hh => h hh.1), d⟩
set_option maxHeartbeats 4000000 in
theorem l19Orbit_c {f : SFun} {p : SFunP} {x e : Int} {H : GHeap} (hin : f.In H p := by assumption) (hsm : f.Small := by assumption) (hS : f.Shape := by assumption) (hE : f.El x e := by assumption) :
    GCalls Try.prog 31 [.agg (f.cells p).toArray, .int .i64 x, .int .i64 e] H (NewBMat 60 4 H (fun y => (f.sz.getD y 0).toNat) (fun y d => (f.img x e (y : Int)).contains (d : Int)) f.sz.length) := by
  have _ := hS.c.1.obj
  have _ := hS.zl
  have b3 := hS.al
  have _ := hS.c.1.n40
  have _ := hS.c.1.tl
  obtain ⟨⟨_, _⟩, _, _⟩ := id hE
  refine GCalls.body (N := 61) (rs := [.tmp 6]) Try.func31 rfl rfl rfl rfl (fun Qx d9 hend => ?_)
  refine .fg [0, 1, 2] rfl ?_
  have m := GHeap.Le.refl H
  have b := hin
  refine .seq (fun K1 f0 => .region ?_)
  refine .R rfl (.boxR rfl sz_33_Oi rfl) ?_
  rintro _ H3 ⟨g3, rfl, e6, _, o⟩
  have _ := e6.1
  replace m := m.trans e6
  have _ := GHeap.ltg o
  replace hin := b.mono m
  have n : SFun.At _ g3 0 f p := ⟨Mem.of_get o, hin⟩
  obtain ⟨g, a6, a3, a5, a2⟩ := n.get
  have a7 : MemN _ _ _ _ _ := ⟨rfl, n.1⟩
  have a8 := n.2
  have l : MemN _ _ _ _ _ := ⟨rfl, g.1⟩
  have h := g.2
  refine .mv rfl (.nil (f0 _ _ (.seq (fun K2 f1 => .region ?_))))
  refine .R rfl (.litA rfl sl_58_Oj ze_60_Oj rfl rfl rfl rfl) ?_
  rintro _ e5 ⟨e9, rfl, b0, _, b7⟩
  have _ := b0.1
  replace m := m.trans b0
  replace o := b0.2 _ _ o
  have _ := GHeap.ltg b7
  replace hin := b.mono m
  clear n g a6 a3 a5 a2 a7 a8 l h
  have n : SFun.At _ g3 0 f p := ⟨Mem.of_get o, hin⟩
  obtain ⟨g, a6, a3, a5, a2⟩ := n.get
  have a7 : MemN _ _ _ _ _ := ⟨rfl, n.1⟩
  have a8 := n.2
  have l : MemN _ _ _ _ _ := ⟨rfl, g.1⟩
  have h := g.2
  refine .mv rfl (.nil (f1 _ _ (.seq (fun K3 f3 => .seq (fun K4 f2 => .region (.mv rfl (.nil (f2 _ _ (.block ?_)))))))))
  refine .loopF (σ := Nat × (Nat → Nat) × Nat × Nat) [1, 2, 3] (fun (k, rr, a1, b8) => [(8, some (.int .i64 (k : Int))), (7, some (.slice (some ⟨a1, 0, none⟩) b8 b8))]) (fun (k, rr, a1, b8) H' => St [e9] e5 H' ∧ H'.get a1 = some (.row ((slsN rr (fun y => (f.sz.getD y 0).toNat) k)) 60 true) ∧ (a1 = e9 ∨ e5.next ≤ a1) ∧ b8 = (slsN rr (fun y => (f.sz.getD y 0).toNat) k).length ∧ k ≤ f.sz.length ∧ OwnB H3.next H' 4 rr (fun y => (f.sz.getD y 0).toNat) (fun _ _ => false) k) (fun (k, rr, a1, b8) => f.sz.length - k) ((0, fun _ => 0, _, _)) rfl (.p rfl) ?_ ?_
  ·
   refine ⟨.refl _ _, by first | assumption | exact b7 | simpa using b7, .inl rfl, by first | rfl | assumption | simp | omega, ?_⟩
   exact ⟨by omega, .zero _ _ _ _ _ _⟩
  rintro ⟨k, rr, a1, b8⟩ HL1 ⟨u, t, _, c2, hI⟩ _ c7
  dsimp only [cA, nA]
  have _ : H.next ≤ a1 := by omega
  have _ := u.nx
  replace m := m.st u (fun k hk => ⟨by omega, trivial⟩)
  replace o := u.s o
  have _ := GHeap.ltg t
  replace hin := b.mono m
  clear n g a6 a3 a5 a2 a7 a8 l h
  have n : SFun.At _ g3 0 f p := ⟨Mem.of_get o, hin⟩
  obtain ⟨g, a6, a3, a5, a2⟩ := n.get
  have a7 : MemN _ _ _ _ _ := ⟨rfl, n.1⟩
  have a8 := n.2
  have l : MemN _ _ _ _ _ := ⟨rfl, g.1⟩
  have h := g.2
  have rk := St.refl [a1] HL1
  obtain ⟨hk, hR⟩ := hI
  have c4 := t
  have _ : (slsN rr (fun y => (f.sz.getD y 0).toNat) k).length = k := length_slsN _ _ _
  refine .seq (fun K5 f7 => .seq (fun K6 f4 => .region (.mv rfl (.q rfl (.fieldAddr fo_33_0_P rfl) (.q rfl (.fieldAddr fo_31_0_B rfl) ?_)))))
  refine .q rfl (.load on_2_A rfl (by first | assumption | exact Mem.of_get o 0 _ rfl)) ?_
  refine .q rfl (.cmp rfl rfl rfl) (.nil (f4 _ _ ?_))
  refine .cond rfl ?_ ?_ <;> intro e3
  ·
   simp only [sps] at e3
   have _ := hS.sz k (by omega)
   refine .skip (f7 _ _ (.seq (fun K7 f6 => .block (.region (.mv rfl (.q rfl (.fieldAddr fo_33_1_P rfl) ?_))))))
   refine .q rfl (.load on_22_B rfl (by first | assumption | exact Mem.of_get o 5 _ rfl)) ?_
   refine .mv rfl (.q rfl (.iN sl_22_A rfl rfl) (.q rfl (.lI on_2_A rfl) ?_))
   refine .R rfl (.makeB rfl sl_60_Oi ze_4_Oj by_4_Oj rfl rfl (by omega) (by omega) (by omega) (by omega)) ?_
   rintro _ _ ⟨f9, rfl, a0, _, a4⟩
   have _ := a0.1
   replace m := m.trans a0
   replace u := u.le a0
   replace rk := rk.le a0
   replace o := a0.2 _ _ o
   replace t := a0.2 _ _ t
   have _ := GHeap.ltg a4
   replace hin := b.mono m
   clear n g a6 a3 a5 a2 a7 a8 l h
   have n : SFun.At _ g3 0 f p := ⟨Mem.of_get o, hin⟩
   obtain ⟨g, a6, a3, a5, a2⟩ := n.get
   have a7 : MemN _ _ _ _ _ := ⟨rfl, n.1⟩
   have a8 := n.2
   have l : MemN _ _ _ _ _ := ⟨rfl, g.1⟩
   have h := g.2
   refine .R rfl (.litA rfl sl_58_Oj ze_60_Oj rfl rfl rfl rfl) ?_
   rintro _ _ ⟨_, rfl, w, _, a9⟩
   have _ := w.1
   replace m := m.trans w
   replace u := u.le w
   replace rk := rk.le w
   replace o := w.2 _ _ o
   replace t := w.2 _ _ t
   replace a4 := w.2 _ _ a4
   have _ := GHeap.ltg a9
   replace hin := b.mono m
   clear n g a6 a3 a5 a2 a7 a8 l h
   have n : SFun.At _ g3 0 f p := ⟨Mem.of_get o, hin⟩
   obtain ⟨g, a6, a3, a5, a2⟩ := n.get
   have a7 : MemN _ _ _ _ _ := ⟨rfl, n.1⟩
   have a8 := n.2
   have l : MemN _ _ _ _ _ := ⟨rfl, g.1⟩
   have h := g.2
   refine .R rfl (.appendV rfl sl_58_Oj ze_60_Oj rfl by_60_Oj sl_58_Oj rfl rfl (by assumption) (by assumption) (by first | omega | (simp <;> omega)) rfl rfl (by omega) (by omega)) ?_
   rintro _ _ ⟨_, rfl, v, _, e2⟩
   have _ := v.nx
   replace m := m.st v (fun k hk => ⟨by omega, trivial⟩)
   replace u := u.sA v
   replace rk := rk.sA v
   replace o := v.s o
   replace a4 := v.s a4
   replace a9 := v.s a9
   have _ := GHeap.ltg e2
   replace hin := b.mono m
   clear n g a6 a3 a5 a2 a7 a8 l h
   have n : SFun.At _ g3 0 f p := ⟨Mem.of_get o, hin⟩
   obtain ⟨g, a6, a3, a5, a2⟩ := n.get
   have a7 : MemN _ _ _ _ _ := ⟨rfl, n.1⟩
   have a8 := n.2
   have l : MemN _ _ _ _ _ := ⟨rfl, g.1⟩
   have h := g.2
   refine .mv rfl (.nil (f6 _ _ (.region (.mv rfl (.q rfl (.aD rfl rfl rfl) (.mv rfl (.nil ?_)))))))
   refine c7 ((k + 1, updN rr k f9, _, _)) _ _ ?_ ?_ (.p rfl)
   ·
    refine ⟨u, by first | assumption | (rw [slsN_succ]; assumption), by omega, by first | omega | (simp only [List.length_append, List.length_cons, List.length_nil] <;> omega) | (rw [slsN_succ] <;> (first | omega | (simp only [List.length_append, List.length_cons, List.length_nil] <;> omega))), ?_⟩
    exact ⟨by omega, hR.succ (rk.lastsV1 c4 rfl) (by rw [← tabB_false]; assumption) (by omega) (by omega)⟩
   (dsimp only; omega)
  try simp only [sps] at e3
  refine .exit (f3 _ _ (.seq (fun K8 f5 => .seq (fun K9 f8 => .region (.mv rfl (.nil (f8 _ _ (.block ?_))))))))
  obtain rfl : k = f.sz.length := by omega
  have v0 : BMat H3.next HL1 a1 60 4 rr (fun y => (f.sz.getD y 0).toNat) (f.orM x e 0) f.sz.length := ⟨t, by omega, by rw [orM_zero]; exact hR⟩
  obtain rfl : b8 = f.sz.length := by rw [c2, length_slsN]
  refine .loopF (σ := Nat) [1, 2, 3, 7] (fun k => [(9, some (.int .i64 (k : Int)))]) (fun k H' => k ≤ f.ac.length ∧ H.Le H' ∧ H'.get g3 = some (.row (f.cells p) 33 true) ∧ BMat H3.next H' a1 60 4 rr (fun y => (f.sz.getD y 0).toNat) (f.orM x e k) f.sz.length) (fun k => f.ac.length - k) (0) rfl (.p rfl) ?_ ?_
  ·
   exact ⟨by omega, m, o, v0.keep (.of_le (.refl _)) (by omega)⟩
  rintro k _ hI _ c3
  dsimp only [cA, nA]
  obtain ⟨hk, m, o, m1⟩ := hI
  have hin := b.mono m
  have n : SFun.At _ g3 0 f p := ⟨Mem.of_get o, hin⟩
  obtain ⟨g, a6, a3, a5, a2⟩ := n.get
  obtain ⟨_, _, _, _, _, _, _, _, _⟩ := g.get
  have _ := m.1
  replace hin := b.mono m
  have i7 := m1.sl
  refine .seq (fun K10 c8 => .seq (fun K11 c5 => .region (.mv rfl (.q rfl (.fieldAddr fo_33_2_P rfl) (.q rfl (.lA on_23_B rfl) (.q rfl (.len sl_23_B rfl) (.q rfl (.cmp rfl rfl rfl) (.nil (c5 _ _ ?_)))))))))
  refine .cond rfl ?_ ?_ <;> intro e4
  ·
   simp only [sps] at e4
   have q := hS.ends (a := k) (by omega)
   have _ := a2.2 k (by omega)
   refine .skip (c8 _ _ (.seq (fun K12 c1 => .block (.seq (fun K13 c6 => .region (.q rfl (.fieldAddr fo_33_0_P rfl) (.q rfl (.fieldAddr fo_31_1_B rfl) (.q rfl (.lA on_22_B rfl) (.mv rfl (.q rfl (.iN sl_22_A rfl rfl) (.q rfl (.lI on_2_A rfl) (.mv rfl (.q rfl (.cmp rfl rfl rfl) (.nil (c6 _ _ ?_)))))))))))))))
   refine .cond rfl ?_ ?_ <;> intro b6
   ·
    simp only [sps] at b6
    have _ := hS.act (a := k) (by omega) (e := e.toNat) (by rw [b6] at q; omega)
    have _ : e.toNat < (f.ac.getD k []).length := by rw [b6] at q; omega
    have r1 := m1.row (i := (f.sh.tgt.getD k 0).toNat) (by omega)
    have _ := r1.tabS
    have _ := length_tabB (f.sz.getD (f.sh.tgt.getD k 0).toNat 0).toNat (f.orM x e k (f.sh.tgt.getD k 0).toNat)
    obtain ⟨_, _⟩ := m1.own.row (f.sh.tgt.getD k 0).toNat (by omega)
    refine .regionD mo_B (.qs [0, 1, 2, 3, 4, 5, 6, 7, 8, 9, 10, 11, 12, 13, 14, 15, 16, 17] (.c 18 0 (.done))) (by kernel_rfl) ?_
    refine .mv rfl rfl (.q rfl (.fieldAddr fo_33_0_P rfl) (.q rfl (.fieldAddr fo_31_2_B rfl) (.q rfl (.lA on_22_B rfl) (.mv rfl rfl (.q rfl (.iN sl_22_A rfl rfl) (.q rfl (.lI on_2_A rfl) (.q rfl (.i1 sl_58_Oj rfl rfl) ?_)))))))
    refine .q rfl (.loadE on_60_Oj (by assumption) rfl (by omega)) ?_
    refine .q rfl (.fieldAddr fo_33_2_P rfl) (.q rfl (.lA on_23_B rfl) (.mv rfl rfl ?_))
    refine .q rfl (.idxN sl_23_B (Intss.sl (by assumption)) rfl rfl (by omega)) ?_
    refine .q rfl (.loadR on_22_B (by assumption) rfl (by omega)) ?_
    refine .mv rfl rfl (.q rfl (.i1 sl_22_A rfl rfl) (.q rfl (.lI on_2_A rfl) (.q rfl (.i1 sl_60_Oi rfl rfl) ?_)))
    refine .r0 rfl rfl rfl (.storeB rfl sz_4_Oj rfl rfl (by assumption) (by first | omega | (simp <;> omega))) ?_
    rintro _ _ ⟨rfl, r, z⟩
    have _ := r.nx
    replace m := m.st r (fun k hk => ⟨by omega, trivial⟩)
    have _ := GHeap.ltg z
    replace hin := b.mono m
    clear i7
    have i7 := m1.sl
    have e8 := z
    rw [Nat.zero_add, orM_set (y := (f.sh.tgt.getD k 0).toNat) b6 (by omega) (by omega)] at e8
    have e7 := m1.put (i := (f.sh.tgt.getD k 0).toNat) (M' := f.orM x e (k + 1)) (by omega) r e8 (orM_other (by omega)) rfl
    have c0 := r.same g3 _ ⟨by omega, trivial⟩ o
    refine .done (c1 _ _ (.region (.mv rfl (.q rfl (.aD rfl rfl rfl) (.mv rfl (.nil ?_))))))
    refine c3 (k + 1) _ _ ?_ ?_ (.p rfl)
    ·
     first | exact ⟨by omega, m, c0, e7⟩ | exact ⟨by omega, m, o, by rw [orM_skip b6]; exact m1⟩
    omega
   simp only [sps] at b6
   refine .skip (c1 _ _ (.region (.mv rfl (.q rfl (.aD rfl rfl rfl) (.mv rfl (.nil ?_))))))
   refine c3 (k + 1) _ _ ?_ ?_ (.p rfl)
   ·
    first | exact ⟨by omega, m, c0, e7⟩ | exact ⟨by omega, m, o, by rw [orM_skip b6]; exact m1⟩
   omega
  try simp only [sps] at e4
  refine .exit (f5 _ _ (.seq (fun K14 c9 => .region (.mv rfl (.mv rfl (.nil (c9 _ _ (.ret (d9 _ _ (⟨_, rfl, ?_⟩))))))))))
  obtain rfl : k = f.ac.length := by omega
  exact ⟨m, a1, rr, rfl, (m1.keep (.of_le (.refl _)) (by omega)).congr fun j hj d _ => (orM_done b3).symm⟩
set_option maxHeartbeats 4000000 in
theorem specOrbitOf_c {f : SFun} {p : SFunP} {x e : Int} {H : GHeap} (hin : f.In H p := by assumption) (hsm : f.Small := by assumption) :
    GCalls Try.prog 6 [.agg (f.cells p).toArray, .int .i64 x, .int .i64 e] H (fun v H' => H.Le H' ∧ ∃ a r, v = .tuple #[.slice a (f.orR x e).length (f.orR x e).length, .int .i64 (f.elC x e)] ∧ IntssR H.next H' a (f.orR x e) r) := by
  refine GCalls.body (N := 58) (rs := [.tmp 6, .tmp 7]) Try.func6 rfl rfl rfl rfl (fun Qx c9 hend => ?_)
  refine .fg [0, 1, 2] rfl ?_
  have y := GHeap.Le.refl H
  have j := hin
  refine .seq (fun K1 g5 => .region ?_)
  refine .R rfl (.boxR rfl sz_33_Oi rfl) ?_
  rintro _ H3 ⟨g3, rfl, g0, _, z⟩
  have _ := g0.1
  replace y := y.trans g0
  have _ := GHeap.ltg z
  replace hin := j.mono y
  have o : SFun.At _ g3 0 f p := ⟨Mem.of_get z, hin⟩
  obtain ⟨g, a7, b3, a9, b0⟩ := o.get
  have a6 : MemN _ _ _ _ _ := ⟨rfl, o.1⟩
  have a8 := o.2
  have m : MemN _ _ _ _ _ := ⟨rfl, g.1⟩
  have n := g.2
  refine .mv rfl (.mv rfl (.nil (g5 _ _ (.seq (fun K2 g2 => .seq (fun K3 g6 => .region ?_))))))
  refine .q rfl (.loadM ag_33_VSFun rfl ⟨rfl, Mem.of_get z⟩) ?_
  refine .callQ rfl rfl rfl rfl en29 rfl (l19Is_c) ?_
  refine .q rfl (.not rfl) (.nil (g6 _ _ ?_))
  refine .cond rfl ?_ ?_ <;> intro d1
  ·
   simp only [sps] at d1
   refine .seq (fun K4 g9 => .region (.mv rfl (.mv rfl (.nil (g9 _ _ (.ret (c9 _ _ (⟨_, _, rfl, rfl, ?_⟩))))))))
   obtain ⟨e1, e2⟩ := el_1 (x := x) (e := e) d1
   rw [e1, e2]
   exact ⟨y, none, fun _ => none, rfl, .nil _ _ _⟩
  simp only [sps] at d1
  have hS := d1.1
  have _ := hS.c.1.obj
  have _ := hS.zl
  have _ := hS.c.1.n40
  refine .skip (g2 _ _ (.seq (fun K5 h1 => .seq (fun K6 g7 => .region ?_))))
  refine .q rfl (.loadM ag_33_VSFun rfl ⟨rfl, Mem.of_get z⟩) ?_
  refine .mv rfl (.mv rfl ?_)
  refine .callQ rfl rfl rfl rfl en30 rfl (l19Element_c) ?_
  refine .q rfl (.not rfl) (.nil (g7 _ _ ?_))
  refine .cond rfl ?_ ?_ <;> intro d5
  ·
   simp only [sps] at d5
   refine .seq (fun K7 h0 => .region (.mv rfl (.mv rfl (.nil (h0 _ _ (.ret (c9 _ _ (⟨_, _, rfl, rfl, ?_⟩))))))))
   obtain ⟨e1, e2⟩ := el_2 d1 d5
   rw [e1, e2]
   exact ⟨y, none, fun _ => none, rfl, .nil _ _ _⟩
  simp only [sps] at d5
  refine .skip (h1 _ _ (.seq (fun K8 g4 => .region ?_)))
  refine .q rfl (.loadM ag_33_VSFun rfl ⟨rfl, Mem.of_get z⟩) ?_
  refine .mv rfl (.mv rfl ?_)
  refine .call rfl rfl rfl rfl en31 rfl (l19Orbit_c) ?_
  rintro _ f9 ⟨c4, _, _, rfl, a2⟩
  have _ := c4.1
  replace y := y.trans c4
  replace z := c4.2 _ _ z
  have w := a2
  have b : Keep H3.next f9 f9 := fun _ _ _ h => h
  replace hin := j.mono y
  clear o g a7 b3 a9 b0 a6 a8 m n
  have o : SFun.At _ g3 0 f p := ⟨Mem.of_get z, hin⟩
  obtain ⟨g, a7, b3, a9, b0⟩ := o.get
  have a6 : MemN _ _ _ _ _ := ⟨rfl, o.1⟩
  have a8 := o.2
  have m : MemN _ _ _ _ _ := ⟨rfl, g.1⟩
  have n := g.2
  have b7 := a2.sl
  refine .mv rfl (.nil (g4 _ _ (.seq (fun K9 g8 => .region ?_))))
  refine .R rfl (.litA rfl sl_23_B ze_22_E rfl rfl rfl rfl) ?_
  rintro _ f8 ⟨f7, rfl, c3, _, c6⟩
  have _ := c3.1
  replace y := y.trans c3
  replace z := c3.2 _ _ z
  replace b := Keep.le b c3
  replace a2 := w.keep b (Nat.le_refl _)
  have _ := GHeap.ltg c6
  replace hin := j.mono y
  clear o g a7 b3 a9 b0 a6 a8 m n
  have o : SFun.At _ g3 0 f p := ⟨Mem.of_get z, hin⟩
  obtain ⟨g, a7, b3, a9, b0⟩ := o.get
  have a6 : MemN _ _ _ _ _ := ⟨rfl, o.1⟩
  have a8 := o.2
  have m : MemN _ _ _ _ _ := ⟨rfl, g.1⟩
  have n := g.2
  clear b7
  have b7 := a2.sl
  refine .mv rfl (.nil (g8 _ _ (.seq (fun K10 f5 => .seq (fun K11 e4 => .region (.mv rfl (.nil (e4 _ _ (.block ?_)))))))))
  refine .loopF (σ := Nat × (Nat → Option Addr) × Nat × Nat) [8] (fun (k, rr, c2, d0) => [(10, some (.int .i64 (k : Int))), (9, some (.slice (some ⟨c2, 0, none⟩) d0 d0))]) (fun (k, rr, c2, d0) H' => St [f7] f8 H' ∧ H'.get c2 = some (.row ((slsOf rr (f.orb x e) k)) 22 true) ∧ (c2 = f7 ∨ f8.next ≤ c2) ∧ d0 = (slsOf rr (f.orb x e) k).length ∧ k ≤ f.sz.length ∧ OwnRows H.next H' 2 rr (f.orb x e) k) (fun (k, rr, c2, d0) => f.sz.length - k) ((0, fun _ => none, _, _)) rfl (.p rfl) ?_ ?_
  ·
   refine ⟨.refl _ _, by first | assumption | exact c6 | simpa using c6, .inl rfl, by first | rfl | assumption | simp | omega, ?_⟩
   exact ⟨by omega, .zero _ _ _ _ _⟩
  rintro ⟨k, rr, c2, d0⟩ HL1 ⟨u, t, _, d2, hI⟩ _ f1
  dsimp only [cA, nA]
  have _ : H.next ≤ c2 := by omega
  have _ := u.nx
  replace y := y.st u (fun k hk => ⟨by omega, trivial⟩)
  replace z := u.s z
  replace b := Keep.st b u (fun k hb hk => ⟨by omega, trivial⟩)
  replace a2 := w.keep b (Nat.le_refl _)
  have _ := GHeap.ltg t
  replace hin := j.mono y
  clear o g a7 b3 a9 b0 a6 a8 m n
  have o : SFun.At _ g3 0 f p := ⟨Mem.of_get z, hin⟩
  obtain ⟨g, a7, b3, a9, b0⟩ := o.get
  have a6 : MemN _ _ _ _ _ := ⟨rfl, o.1⟩
  have a8 := o.2
  have m : MemN _ _ _ _ _ := ⟨rfl, g.1⟩
  have n := g.2
  clear b7
  have b7 := a2.sl
  have rk := St.refl [c2] HL1
  obtain ⟨hk, hR⟩ := hI
  have d8 := t
  have _ : (slsOf rr (f.orb x e) k).length = k := length_slsOf _ _ _
  refine .seq (fun K12 f4 => .seq (fun K13 d6 => .region (.mv rfl (.mv rfl (.q rfl (.len sl_58_Oj rfl) (.q rfl (.cmp rfl rfl rfl) (.nil (d6 _ _ ?_))))))))
  refine .cond rfl ?_ ?_ <;> intro g1
  ·
   simp only [sps] at g1
   have _ := hS.sz k (by omega)
   have r1 := a2.row (i := k) (by omega)
   have r3 := r1.tabS
   refine .skip (f4 _ _ (.seq (fun K14 e0 => .block (.seq (fun K15 e7 => .region ?_)))))
   refine .R rfl (.litA rfl sl_22_A ze_2_E rfl rfl rfl rfl) ?_
   rintro _ f3 ⟨d7, rfl, b8, _, c0⟩
   have _ := b8.1
   replace y := y.trans b8
   replace u := u.le b8
   replace rk := rk.le b8
   replace z := b8.2 _ _ z
   replace t := b8.2 _ _ t
   replace b := Keep.le b b8
   replace a2 := w.keep b (Nat.le_refl _)
   have _ := GHeap.ltg c0
   replace hin := j.mono y
   clear o g a7 b3 a9 b0 a6 a8 m n
   have o : SFun.At _ g3 0 f p := ⟨Mem.of_get z, hin⟩
   obtain ⟨g, a7, b3, a9, b0⟩ := o.get
   have a6 : MemN _ _ _ _ _ := ⟨rfl, o.1⟩
   have a8 := o.2
   have m : MemN _ _ _ _ _ := ⟨rfl, g.1⟩
   have n := g.2
   clear b7
   have b7 := a2.sl
   clear r1 r3
   have r1 := a2.row (i := k) (by omega)
   have r3 := r1.tabS
   replace c0 : GHeap.get f3 d7 = some (.row (ints []) 2 true) := c0
   refine .mv rfl (.nil (e7 _ _ (.seq (fun K16 f2 => .seq (fun K17 d9 => .region (.mv rfl (.nil (d9 _ _ (.block ?_)))))))))
   refine .loopF (σ := Nat × Nat × Nat) [8, 9, 10] (fun (l, a5, b9) => [(12, some (.int .i64 (l : Int))), (11, some (.slice (some ⟨a5, 0, none⟩) b9 b9))]) (fun (l, a5, b9) H' => St [d7] f3 H' ∧ H'.get a5 = some (.row (ints (filtN l fun d : Nat => (f.img x e (k : Int)).contains (d : Int))) 2 true) ∧ (a5 = d7 ∨ f3.next ≤ a5) ∧ b9 = (filtN l fun d : Nat => (f.img x e (k : Int)).contains (d : Int)).length ∧ l ≤ (f.sz.getD k 0).toNat) (fun (l, a5, b9) => (f.sz.getD k 0).toNat - l) ((0, _, _)) rfl (.p rfl) ?_ ?_
   ·
    refine ⟨.refl _ _, by first | assumption | exact c0 | simpa using c0, .inl rfl, by first | rfl | assumption | simp | omega, ?_⟩
    omega
   rintro ⟨l, a5, b9⟩ _ ⟨a1, a0, _, c8, hI⟩ _ d3
   dsimp only [cA, nA]
   have _ : H.next ≤ a5 := by omega
   have _ := a1.nx
   replace y := y.st a1 (fun k hk => ⟨by omega, trivial⟩)
   replace u := u.sA a1
   replace rk := rk.sA a1
   replace z := a1.s z
   replace t := a1.s t
   replace b := Keep.st b a1 (fun k hb hk => ⟨by omega, trivial⟩)
   replace a2 := w.keep b (Nat.le_refl _)
   have _ := GHeap.ltg a0
   replace hin := j.mono y
   clear o g a7 b3 a9 b0 a6 a8 m n
   have o : SFun.At _ g3 0 f p := ⟨Mem.of_get z, hin⟩
   obtain ⟨g, a7, b3, a9, b0⟩ := o.get
   have a6 : MemN _ _ _ _ _ := ⟨rfl, o.1⟩
   have a8 := o.2
   have m : MemN _ _ _ _ _ := ⟨rfl, g.1⟩
   have n := g.2
   clear b7
   have b7 := a2.sl
   clear r1 r3
   have r1 := a2.row (i := k) (by omega)
   have r3 := r1.tabS
   have _ := filtN_le l fun d : Nat => (f.img x e (k : Int)).contains (d : Int)
   refine .seq (fun K18 e5 => .seq (fun K19 e6 => .region (.mv rfl (.mv rfl (.mv rfl (.q rfl (.iN sl_58_Oj rfl rfl) ?_))))))
   refine .q rfl (.loadE on_60_Oj (by assumption) rfl (by omega)) ?_
   refine .q rfl (.len sl_60_Oi rfl) (.q rfl (.cmp rfl rfl rfl) (.nil (e6 _ _ ?_)))
   refine .cond rfl ?_ ?_ <;> intro f6
   ·
    simp only [sps] at f6
    have _ : (tabB (f.sz.getD k 0).toNat fun d : Nat => (f.img x e (k : Int)).contains (d : Int)).length = (f.sz.getD k 0).toNat := length_tabB _ _
    refine .skip (e5 _ _ (.seq (fun K20 d4 => .block (.seq (fun K21 e3 => .region (.mv rfl (.mv rfl (.q rfl (.iN sl_58_Oj rfl rfl) ?_))))))))
    refine .q rfl (.loadE on_60_Oj (by assumption) rfl (by omega)) ?_
    refine .mv rfl (.q rfl (.iN sl_60_Oi rfl rfl) ?_)
    refine .q rfl (.loadB on_4_Oi (by assumption) rfl (by omega)) ?_
    refine .nil (e3 _ _ ?_)
    refine .cond rfl ?_ ?_ <;> intro c1
    ·
     rw [tabB_get (by omega)] at c1
     refine .region (.mv rfl (.mv rfl ?_))
     refine .R rfl (.litA rfl sl_22_A ze_2_E rfl rfl rfl rfl) ?_
     rintro _ _ ⟨_, rfl, a3, _, c5⟩
     have _ := a3.1
     replace y := y.trans a3
     replace u := u.le a3
     replace rk := rk.le a3
     replace a1 := a1.le a3
     replace z := a3.2 _ _ z
     replace t := a3.2 _ _ t
     replace a0 := a3.2 _ _ a0
     replace b := Keep.le b a3
     replace a2 := w.keep b (Nat.le_refl _)
     have _ := GHeap.ltg c5
     replace hin := j.mono y
     clear o g a7 b3 a9 b0 a6 a8 m n
     have o : SFun.At _ g3 0 f p := ⟨Mem.of_get z, hin⟩
     obtain ⟨g, a7, b3, a9, b0⟩ := o.get
     have a6 : MemN _ _ _ _ _ := ⟨rfl, o.1⟩
     have a8 := o.2
     have m : MemN _ _ _ _ _ := ⟨rfl, g.1⟩
     have n := g.2
     clear b7
     have b7 := a2.sl
     clear r1 r3
     have r1 := a2.row (i := k) (by omega)
     have r3 := r1.tabS
     refine .R rfl (.apI rfl sl_22_A ze_2_E rfl by_2_E sl_22_A rfl rfl) ?_
     rintro _ _ ⟨_, rfl, a4, _, e9⟩
     have _ := a4.nx
     replace y := y.st a4 (fun k hk => ⟨by omega, trivial⟩)
     replace u := u.sA a4
     replace rk := rk.sA a4
     replace a1 := a1.sA a4
     replace z := a4.s z
     replace t := a4.s t
     replace c5 := a4.s c5
     replace b := Keep.st b a4 (fun k hb hk => ⟨by omega, trivial⟩)
     replace a2 := w.keep b (Nat.le_refl _)
     have _ := GHeap.ltg e9
     replace hin := j.mono y
     clear o g a7 b3 a9 b0 a6 a8 m n
     have o : SFun.At _ g3 0 f p := ⟨Mem.of_get z, hin⟩
     obtain ⟨g, a7, b3, a9, b0⟩ := o.get
     have a6 : MemN _ _ _ _ _ := ⟨rfl, o.1⟩
     have a8 := o.2
     have m : MemN _ _ _ _ _ := ⟨rfl, g.1⟩
     have n := g.2
     clear b7
     have b7 := a2.sl
     clear r1 r3
     have r1 := a2.row (i := k) (by omega)
     have r3 := r1.tabS
     refine .mv rfl (.nil (d4 _ _ (.region (.mv rfl (.q rfl (.aD rfl rfl rfl) (.mv rfl (.nil ?_)))))))
     refine d3 ((l + 1, _, _)) _ _ ?_ ?_ (.p rfl)
     ·
      refine ⟨a1, by first | assumption | (rw [filtN_T c1]; assumption) | (rw [filtN_F c1]; assumption), by omega, by first | omega | (simp only [List.length_append, List.length_cons, List.length_nil] <;> omega) | (rw [filtN_T c1] <;> (first | omega | (simp only [List.length_append, List.length_cons, List.length_nil] <;> omega))) | (rw [filtN_F c1] <;> (first | omega | (simp only [List.length_append, List.length_cons, List.length_nil] <;> omega))), ?_⟩
      omega
     (dsimp only; omega)
    rw [tabB_get (by omega)] at c1
    refine .skip (d4 _ _ (.region (.mv rfl (.q rfl (.aD rfl rfl rfl) (.mv rfl (.nil ?_))))))
    refine d3 ((l + 1, _, _)) _ _ ?_ ?_ (.p rfl)
    ·
     refine ⟨a1, by first | assumption | (rw [filtN_T c1]; assumption) | (rw [filtN_F c1]; assumption), by omega, by first | omega | (simp only [List.length_append, List.length_cons, List.length_nil] <;> omega) | (rw [filtN_T c1] <;> (first | omega | (simp only [List.length_append, List.length_cons, List.length_nil] <;> omega))) | (rw [filtN_F c1] <;> (first | omega | (simp only [List.length_append, List.length_cons, List.length_nil] <;> omega))), ?_⟩
     omega
    (dsimp only; omega)
   try simp only [sps] at f6
   refine .exit (f2 _ _ (.region ?_))
   obtain rfl : l = (f.sz.getD k 0).toNat := by omega
   obtain rfl := c8
   refine .mv rfl (.mv rfl ?_)
   refine .R rfl (.litA rfl sl_23_B ze_22_E rfl rfl rfl rfl) ?_
   rintro _ _ ⟨_, rfl, b5, _, c7⟩
   have _ := b5.1
   replace y := y.trans b5
   replace u := u.le b5
   replace rk := rk.le b5
   replace z := b5.2 _ _ z
   replace t := b5.2 _ _ t
   replace a0 := b5.2 _ _ a0
   replace b := Keep.le b b5
   replace a2 := w.keep b (Nat.le_refl _)
   have _ := GHeap.ltg c7
   replace hin := j.mono y
   clear o g a7 b3 a9 b0 a6 a8 m n
   have o : SFun.At _ g3 0 f p := ⟨Mem.of_get z, hin⟩
   obtain ⟨g, a7, b3, a9, b0⟩ := o.get
   have a6 : MemN _ _ _ _ _ := ⟨rfl, o.1⟩
   have a8 := o.2
   have m : MemN _ _ _ _ _ := ⟨rfl, g.1⟩
   have n := g.2
   clear b7
   have b7 := a2.sl
   clear r1 r3
   have r1 := a2.row (i := k) (by omega)
   have r3 := r1.tabS
   refine .R rfl (.appendV rfl sl_23_B ze_22_E rfl by_22_E sl_23_B rfl rfl (by assumption) (by assumption) (by first | omega | (simp <;> omega)) rfl rfl (by omega) (by omega)) ?_
   rintro _ _ ⟨_, rfl, b6, _, f0⟩
   have _ := b6.nx
   replace y := y.st b6 (fun k hk => ⟨by omega, trivial⟩)
   replace u := u.sA b6
   replace rk := rk.sA b6
   replace z := b6.s z
   replace a0 := b6.s a0
   replace c7 := b6.s c7
   replace b := Keep.st b b6 (fun k hb hk => ⟨by omega, trivial⟩)
   replace a2 := w.keep b (Nat.le_refl _)
   have _ := GHeap.ltg f0
   replace hin := j.mono y
   clear o g a7 b3 a9 b0 a6 a8 m n
   have o : SFun.At _ g3 0 f p := ⟨Mem.of_get z, hin⟩
   obtain ⟨g, a7, b3, a9, b0⟩ := o.get
   have a6 : MemN _ _ _ _ _ := ⟨rfl, o.1⟩
   have a8 := o.2
   have m : MemN _ _ _ _ _ := ⟨rfl, g.1⟩
   have n := g.2
   clear b7
   have b7 := a2.sl
   clear r1 r3
   have r1 := a2.row (i := k) (by omega)
   have r3 := r1.tabS
   refine .mv rfl (.nil (e0 _ _ (.region (.mv rfl (.q rfl (.aD rfl rfl rfl) (.mv rfl (.nil ?_)))))))
   refine f1 ((k + 1, upd rr k (some ⟨a5, 0, none⟩), _, _)) _ _ ?_ ?_ (.p rfl)
   ·
    refine ⟨u, by first | assumption | (rw [slsOf_succ]; assumption), by omega, by first | omega | (simp only [List.length_append, List.length_cons, List.length_nil] <;> omega) | (rw [slsOf_succ] <;> (first | omega | (simp only [List.length_append, List.length_cons, List.length_nil] <;> omega))), ?_⟩
    exact ⟨by omega, hR.succ rk d8 rfl (by assumption) (by omega) (by omega)⟩
   (dsimp only; omega)
  try simp only [sps] at g1
  refine .exit (f5 _ _ (.seq (fun K22 e8 => .region (.mv rfl (.mv rfl (.mv rfl (.nil (e8 _ _ (.ret (c9 _ _ (⟨_, _, rfl, rfl, ?_⟩)))))))))))
  obtain rfl : k = f.sz.length := by omega
  obtain ⟨e1, e2⟩ := el_0 d1 d5
  rw [e1, e2]
  exact ⟨y, _, rr, by rw [d2]; simp, hR.done t (by omega)⟩
end Go.Proofs.Ytddjdkpjfpnjiaa
namespace Go.GL
open Go Go.RowKit
variable [MainFlag]
theorem SFun.orR_small {f : SFun} (hs : f.Small) (x e : Int) : (f.orR x e).length ≤ 1048576 ∧ ∀ i, ((f.orR x e).getD i []).length ≤ 1048576 := by
  by_cases h : f.elC x e = 0
  · obtain ⟨hI, hE⟩ := el_ok h
    rw [(el_0 hI hE).1]
    have h2 := hs.2.1
    refine ⟨by simpa using h2, fun i => ?_⟩
    by_cases hi : i < f.sz.length
    · rw [rowsOf_get hi]
      have h3 := hI.1.sz i hi
      have h4 := filtN_le (f.sz.getD i 0).toNat fun d : Nat => (f.img x e (i : Int)).contains (d : Int)
      unfold SFun.orb
      omega
    · have e1 : (rowsOf (f.orb x e) f.sz.length).getD i [] = [] := by
        rw [List.getD_eq_getElem?_getD, List.getElem?_eq_none (by simpa using Nat.le_of_not_lt hi)]
        rfl
      rw [e1]
      simp
  · rw [el_no h]
    exact ⟨by simp, fun i => by simp⟩
end Go.GL
namespace Go.Proofs.Ytddjdkpjfpnjiaa
open Go Go.GL Go.RowKit Go.Proofs
variable [MainFlag]
theorem markSetFunctor_c {c : SFun} {p : SFunP} {lo hi : Nat} {k : Int} {H : GHeap} (w : SFunW lo hi H c p := by assumption) (hs : c.Small := by assumption) (hk : 0 ≤ k := by omega) (hk' : k + c.total ≤ 9223372036854775000 := by omega) (hhi : hi ≤ H.next := by omega) :
    GCalls Try.prog 11 [.agg (c.cells p).toArray, .int .i64 k] H (fun v H' => v = .int .i64 (k + c.total) ∧ Marked lo hi H H' (c.leaves p) k) := by
  obtain ⟨w1, w2, w3⟩ := w
  have ht : c.total = c.sh.total + (c.sz.length + sumL c.ac) := rfl
  obtain ⟨_, _, _, _⟩ := hs
  refine GCalls.body (N := 18) (rs := [.tmp 4]) Try.func11 rfl rfl rfl rfl (fun Qx j hend => ?_)
  refine .fg [0, 1] rfl ?_
  refine .seq (fun K1 n => .region ?_)
  refine .R rfl (.boxR rfl sz_33_Oi rfl) ?_
  rintro _ H2 ⟨g2, rfl, f, _, a⟩
  have _ := f.1
  have _ := GHeap.ltg a
  have e : MemN _ _ _ _ _ := ⟨rfl, Mem.of_get a⟩
  replace w1 := w1.stm (.of_le f)
  replace w2 := w2.stm (.of_le f)
  replace w3 := w3.stm (.of_le f)
  refine .mv rfl (.nil (n _ _ (.seq (fun K2 o => .region ?_))))
  have _ : MemN H2 g2 (0 + 0) 5 (c.sh.cells p.sh) := ⟨rfl, Mem.left (bs := [.slice p.a1 c.sz.length c.sz.length, .slice p.a2 c.ac.length c.ac.length]) (Mem.of_get a)⟩
  refine .q rfl (.fieldAddr fo_33_0_P rfl) ?_
  refine .q rfl (.loadM ag_31_D rfl (by assumption)) ?_
  refine .mv rfl ?_
  refine .call rfl rfl rfl rfl en22 rfl (markCategory_c) ?_
  rintro _ H8 ⟨rfl, l⟩
  have i := l.stm
  have _ := i.nx
  replace a := i.same _ _ (by omega) a
  replace w1 := w1.stm i
  replace w2 := w2.stm i
  replace w3 := w3.stm i
  clear e
  have e : MemN _ _ _ _ _ := ⟨rfl, Mem.of_get a⟩
  refine .mv rfl (.nil (o _ _ (.seq (fun K3 s => .region ?_))))
  have c1 : H8.cell g2 (0 + 5) = some (.slice p.a1 c.sz.length c.sz.length) := Mem.of_get a 5 _ rfl
  refine .q rfl (.fieldAddr fo_33_1_P rfl) ?_
  refine .q rfl (.load on_22_B rfl (by first | assumption | exact Mem.of_get a 5 _ rfl)) ?_
  refine .mv rfl ?_
  refine .call rfl rfl rfl rfl en23 rfl (markInt64S_c) ?_
  rintro _ t ⟨rfl, h⟩
  have b := h.stm
  have _ := b.nx
  replace a := b.same _ _ (by omega) a
  replace w1 := w1.stm b
  replace w2 := w2.stm b
  replace w3 := w3.stm b
  clear e
  have e : MemN _ _ _ _ _ := ⟨rfl, Mem.of_get a⟩
  refine .mv rfl (.nil (s _ _ (.seq (fun K4 r => .region ?_))))
  have c1 : t.cell g2 (0 + 6) = some (.slice p.a2 c.ac.length c.ac.length) := Mem.of_get a 6 _ rfl
  refine .q rfl (.fieldAddr fo_33_2_P rfl) ?_
  refine .q rfl (.load on_23_B rfl (by first | assumption | exact Mem.of_get a 6 _ rfl)) ?_
  refine .mv rfl ?_
  refine .call rfl rfl rfl rfl en12 rfl (markInt64SS_c) ?_
  rintro _ _ ⟨rfl, g⟩
  have d := g.stm
  have _ := d.nx
  replace a := d.same _ _ (by omega) a
  replace w1 := w1.stm d
  replace w2 := w2.stm d
  replace w3 := w3.stm d
  clear e
  have e : MemN _ _ _ _ _ := ⟨rfl, Mem.of_get a⟩
  refine .mv rfl (.nil (r _ _ (.seq (fun K5 m => .region (.mv rfl (.mv rfl (.nil (m _ _ (.ret (j _ _ (⟨_, rfl, ?_⟩)))))))))))
  exact ⟨by rw [ht]; congr 1; omega, .le_left f (l.app' (h.app' g (by simp [lvSum])) (by rw [Cat.lvSum_leaves]))⟩
end Go.Proofs.Ytddjdkpjfpnjiaa
namespace Go.Proofs.Ytddjdkpjfpnjiaa
open Go Go.GL Go.RowKit Go.Proofs
variable [MainFlag]
theorem ag_27_LOrbitOf : aggT Try.prog 27 = some 7 := by kernel_rfl
set_option maxHeartbeats 40000000 in
theorem lawOrbitOf_c {f : SFun} {p : SFunP} {x e : Int} {H : GHeap} (hmain : MainFlag.main = true) (h0 : f.In H p) (w0 : f.Wide) (w1 : I64 x) (w2 : I64 e) :
    GCalls Try.prog 3 [.agg (f.cells p).toArray, .int .i64 x, .int .i64 e] H (fun v _ => v = .bool true) := by
  refine GCalls.body (N := 106) (rs := [.tmp 6]) Try.func3 rfl rfl rfl rfl (fun Qx a3 hend => ?_)
  refine .fg [0, 1, 2] rfl ?_
  have y := GHeap.Le.refl H
  have l := h0
  refine .seq (fun K1 l6 => .region ?_)
  refine .R rfl (.boxR rfl sz_27_VSFun rfl) ?_
  rintro _ H3 ⟨g3, rfl, l2, _, u⟩
  have _ := l2.1
  replace y := y.trans l2
  have _ := GHeap.ltg u
  replace h0 := l.mono y
  have m : SFun.At _ g3 0 f p := ⟨Mem.of_get u, h0⟩
  obtain ⟨g, a7, b2, b0, b1⟩ := m.get
  have a6 : MemN _ _ _ _ _ := ⟨rfl, m.1⟩
  have a9 := m.2
  have i : MemN _ _ _ _ _ := ⟨rfl, g.1⟩
  have j := g.2
  refine .mv rfl (.nil (l6 _ _ (.seq (fun K2 l3 => .region (.mv rfl (.nil (l3 _ _ (.seq (fun K3 l7 => .region ?_)))))))))
  refine .q rfl (.loadM ag_27_LOrbitOf rfl ⟨rfl, Mem.of_get u⟩) ?_
  refine .mv rfl ?_
  refine .call rfl rfl rfl rfl en5 rfl (szSetFunctor_c) ?_
  rintro _ _ ⟨heq, _, rfl, _, _, e2⟩
  obtain rfl := heq.symm
  refine .mv rfl (.nil (l7 _ _ (.seq (fun K4 m0 => .seq (fun K5 m2 => .region (.mv rfl (.q rfl (.cmp rfl rfl rfl) (.nil (m2 _ _ ?_)))))))))
  refine .cond rfl ?_ ?_ <;> intro k5
  ·
   try simp only [sps] at k5
   refine .seq (fun K6 l8 => .region (.mv rfl (.nil (l8 _ _ (.ret (a3 _ _ (⟨_, rfl, ?_⟩)))))))
   first
   | exact rfl
   | exact absurd trivial (by assumption)
   | contradiction
   | (exfalso; omega)
  simp only [sps] at k5
  obtain ⟨hcl, j2⟩ := SFun.orR_small (f := f) (e2 (by omega)) x e
  have _ := sumL_tot hcl j2
  have e3 := e2 (by omega)
  have _ := e3.tot
  refine .skip (m0 _ _ (.seq (fun K7 m1 => .region ?_)))
  refine .q rfl (.loadM ag_27_LOrbitOf rfl ⟨rfl, Mem.of_get u⟩) ?_
  refine .call rfl rfl rfl rfl en7 rfl (toSetFunctor_c) ?_
  rintro _ i6 ⟨d7, _, rfl, a8⟩
  have _ := d7.1
  replace y := y.trans d7
  replace u := d7.2 _ _ u
  have t := a8
  have a : Keep H3.next i6 i6 := fun _ _ _ h => h
  replace h0 := l.mono y
  clear m g a7 b2 b0 b1 a6 a9 i j
  have m : SFun.At _ g3 0 f p := ⟨Mem.of_get u, h0⟩
  obtain ⟨g, a7, b2, b0, b1⟩ := m.get
  have a6 : MemN _ _ _ _ _ := ⟨rfl, m.1⟩
  have a9 := m.2
  have i : MemN _ _ _ _ _ := ⟨rfl, g.1⟩
  have j := g.2
  have b5 := a8.inn
  refine .mv rfl (.mv rfl ?_)
  refine .call rfl rfl rfl rfl en6 rfl (specOrbitOf_c) ?_
  rintro _ f2 ⟨d2, _, _, rfl, b4⟩
  have _ := d2.1
  replace y := y.trans d2
  replace u := d2.2 _ _ u
  replace a := Keep.le a d2
  replace a8 := t.keep a (Nat.le_refl _)
  have w := b4
  have b : Keep i6.next f2 f2 := fun _ _ _ h => h
  replace h0 := l.mono y
  clear m g a7 b2 b0 b1 a6 a9 i j
  have m : SFun.At _ g3 0 f p := ⟨Mem.of_get u, h0⟩
  obtain ⟨g, a7, b2, b0, b1⟩ := m.get
  have a6 : MemN _ _ _ _ _ := ⟨rfl, m.1⟩
  have a9 := m.2
  have i : MemN _ _ _ _ _ := ⟨rfl, g.1⟩
  have j := g.2
  clear b5
  have b5 := a8.inn
  have b9 := b4.intss
  refine .mv rfl (.q rfl (.extract rfl rfl) (.q rfl (.extract rfl rfl) (.mv rfl (.mv rfl (.nil (m1 _ _ (.seq (fun K8 l4 => .region ?_))))))))
  refine .q rfl (.loadM ag_27_LOrbitOf rfl ⟨rfl, Mem.of_get u⟩) ?_
  refine .call rfl rfl rfl rfl en7 rfl (toSetFunctor_c) ?_
  rintro _ l1 ⟨c9, _, rfl, d0⟩
  have _ := c9.1
  replace y := y.trans c9
  replace u := c9.2 _ _ u
  replace a := Keep.le a c9
  replace a8 := t.keep a (Nat.le_refl _)
  replace b := Keep.le b c9
  replace b4 := w.keep b (Nat.le_refl _)
  have a5 := d0
  have n : Keep f2.next l1 l1 := fun _ _ _ h => h
  replace h0 := l.mono y
  clear m g a7 b2 b0 b1 a6 a9 i j
  have m : SFun.At _ g3 0 f p := ⟨Mem.of_get u, h0⟩
  obtain ⟨g, a7, b2, b0, b1⟩ := m.get
  have a6 : MemN _ _ _ _ _ := ⟨rfl, m.1⟩
  have a9 := m.2
  have i : MemN _ _ _ _ _ := ⟨rfl, g.1⟩
  have j := g.2
  clear b5
  have b5 := a8.inn
  clear b9
  have b9 := b4.intss
  have d3 := d0.inn
  refine .R rfl (.allocR rfl ze_33_VSFun rfl) ?_
  rintro _ _ ⟨_, rfl, c7, _, g4⟩
  have _ := c7.1
  replace y := y.trans c7
  replace u := c7.2 _ _ u
  replace a := Keep.le a c7
  replace a8 := t.keep a (Nat.le_refl _)
  replace b := Keep.le b c7
  replace b4 := w.keep b (Nat.le_refl _)
  replace n := Keep.le n c7
  replace d0 := a5.keep n (Nat.le_refl _)
  have _ := GHeap.ltg g4
  replace h0 := l.mono y
  clear m g a7 b2 b0 b1 a6 a9 i j
  have m : SFun.At _ g3 0 f p := ⟨Mem.of_get u, h0⟩
  obtain ⟨g, a7, b2, b0, b1⟩ := m.get
  have a6 : MemN _ _ _ _ _ := ⟨rfl, m.1⟩
  have a9 := m.2
  have i : MemN _ _ _ _ _ := ⟨rfl, g.1⟩
  have j := g.2
  clear b5
  have b5 := a8.inn
  clear b9
  have b9 := b4.intss
  clear d3
  have d3 := d0.inn
  refine .r0 rfl rfl (.fillA rfl sz_33_Oi rfl rfl rfl rfl) ?_
  rintro _ c8 ⟨rfl, a4, d⟩
  have _ := a4.nx
  replace y := y.st a4 (fun k hk => ⟨by omega, trivial⟩)
  replace u := a4.s u
  replace a := Keep.st a a4 (fun k hb hk => ⟨by omega, trivial⟩)
  replace a8 := t.keep a (Nat.le_refl _)
  replace b := Keep.st b a4 (fun k hb hk => ⟨by omega, trivial⟩)
  replace b4 := w.keep b (Nat.le_refl _)
  replace n := Keep.st n a4 (fun k hb hk => ⟨by omega, trivial⟩)
  replace d0 := a5.keep n (Nat.le_refl _)
  have _ := GHeap.ltg d
  replace h0 := l.mono y
  clear m g a7 b2 b0 b1 a6 a9 i j
  have m : SFun.At _ g3 0 f p := ⟨Mem.of_get u, h0⟩
  obtain ⟨g, a7, b2, b0, b1⟩ := m.get
  have a6 : MemN _ _ _ _ _ := ⟨rfl, m.1⟩
  have a9 := m.2
  have i : MemN _ _ _ _ _ := ⟨rfl, g.1⟩
  have j := g.2
  clear b5
  have b5 := a8.inn
  clear b9
  have b9 := b4.intss
  clear d3
  have d3 := d0.inn
  have o : MemN _ _ _ _ _ := ⟨rfl, Mem.of_get d⟩
  refine .nil (l4 _ _ (.seq (fun K9 l9 => .region ?_)))
  refine .q rfl (.loadM ag_33_VSFun rfl ⟨rfl, Mem.of_get d⟩) ?_
  refine .mv rfl (.mv rfl ?_)
  refine .call rfl rfl rfl rfl en8 rfl (implOrbitOf_c hmain) ?_
  rintro _ g2 ⟨c2, _, _, rfl, d9⟩
  have _ := c2.1
  replace y := y.trans c2
  replace u := c2.2 _ _ u
  replace d := c2.2 _ _ d
  replace a := Keep.le a c2
  replace a8 := t.keep a (Nat.le_refl _)
  replace b := Keep.le b c2
  replace b4 := w.keep b (Nat.le_refl _)
  replace n := Keep.le n c2
  replace d0 := a5.keep n (Nat.le_refl _)
  have c3 := d9
  have a2 : Keep c8.next g2 g2 := fun _ _ _ h => h
  replace h0 := l.mono y
  clear m g a7 b2 b0 b1 a6 a9 i j
  have m : SFun.At _ g3 0 f p := ⟨Mem.of_get u, h0⟩
  obtain ⟨g, a7, b2, b0, b1⟩ := m.get
  have a6 : MemN _ _ _ _ _ := ⟨rfl, m.1⟩
  have a9 := m.2
  have i : MemN _ _ _ _ _ := ⟨rfl, g.1⟩
  have j := g.2
  clear b5
  have b5 := a8.inn
  clear b9
  have b9 := b4.intss
  clear d3
  have d3 := d0.inn
  clear o
  have o : MemN _ _ _ _ _ := ⟨rfl, Mem.of_get d⟩
  have f1 := d9.intss
  refine .mv rfl (.q rfl (.extract rfl rfl) (.q rfl (.extract rfl rfl) (.mv rfl (.mv rfl (.nil (l9 _ _ (.seq (fun K10 j8 => .seq (fun K11 e8 => .region (.mv rfl (.mv rfl ?_)))))))))))
  refine .callQ rfl rfl rfl rfl en9 rfl (eqInt64SS_c) ?_
  refine .q rfl (.not rfl) (.mv rfl ?_)
  refine .split (fun h7 => ?_) (fun h7 => ?_)
  ·
   try simp only [sps] at h7
   refine .z rfl (.z rfl (.z rfl (.q rfl (.pickT rfl rfl) (.nil (e8 _ _ ?_)))))
   refine .condT rfl ?_
   refine .seq (fun K12 j7 => .region (.mv rfl (.nil (j7 _ _ (.ret (a3 _ _ (⟨_, rfl, ?_⟩)))))))
   first
   | exact rfl
   | exact absurd trivial (by assumption)
   | contradiction
   | (exfalso; omega)
  try simp only [sps] at h7
  refine .qg rfl (.move rfl) (.qg rfl (.move rfl) (.qg rfl (.cmp rfl rfl rfl) (.q rfl (.pickF rfl rfl) (.nil (e8 _ _ ?_)))))
  refine .cond rfl ?_ ?_ <;> intro k4
  ·
   try simp only [sps] at k4
   refine .seq (fun K13 f6 => .region (.mv rfl (.nil (f6 _ _ (.ret (a3 _ _ (⟨_, rfl, ?_⟩)))))))
   first
   | exact rfl
   | exact absurd trivial (by assumption)
   | contradiction
   | (exfalso; omega)
  try simp only [sps] at k4
  refine .skip (j8 _ _ (.seq (fun K14 h4 => .seq (fun K15 i3 => ?_))))
  refine .regionD mo_B (.q 0 (.q 1 (.c 2 1 (.c 3 0 (.q 4 (.done)))))) (by kernel_rfl) ?_
  refine .q rfl (.loadM ag_33_VSFun rfl ⟨rfl, Mem.of_get d⟩) ?_
  refine .q rfl (.loadM ag_27_LOrbitOf rfl ⟨rfl, Mem.of_get u⟩) ?_
  refine .call1 rfl rfl rfl rfl rfl en7 rfl (toSetFunctor_c) ?_
  rintro _ l0 ⟨b6, _, rfl, d1⟩
  have l5 := b6
  refine ⟨l5, ?_⟩
  have _ := b6.1
  replace y := y.trans b6
  replace u := b6.2 _ _ u
  replace d := b6.2 _ _ d
  replace a := Keep.le a b6
  replace a8 := t.keep a (Nat.le_refl _)
  replace b := Keep.le b b6
  replace b4 := w.keep b (Nat.le_refl _)
  replace n := Keep.le n b6
  replace d0 := a5.keep n (Nat.le_refl _)
  replace a2 := Keep.le a2 b6
  replace d9 := c3.keep a2 (Nat.le_refl _)
  have b7 := d1
  have r : Keep g2.next l0 l0 := fun _ _ _ h => h
  replace h0 := l.mono y
  clear m g a7 b2 b0 b1 a6 a9 i j
  have m : SFun.At _ g3 0 f p := ⟨Mem.of_get u, h0⟩
  obtain ⟨g, a7, b2, b0, b1⟩ := m.get
  have a6 : MemN _ _ _ _ _ := ⟨rfl, m.1⟩
  have a9 := m.2
  have i : MemN _ _ _ _ _ := ⟨rfl, g.1⟩
  have j := g.2
  clear b5
  have b5 := a8.inn
  clear b9
  have b9 := b4.intss
  clear d3
  have d3 := d0.inn
  clear o
  have o : MemN _ _ _ _ _ := ⟨rfl, Mem.of_get d⟩
  clear f1
  have f1 := d9.intss
  have d4 := d1.inn
  refine .callQ0 rfl rfl rfl rfl rfl en10 rfl (eqSetFunctor_c) ?_
  refine .q rfl (.not rfl) (.done (i3 _ _ ?_))
  refine .cond rfl ?_ ?_ <;> intro k1
  ·
   try simp only [sps] at k1
   refine .seq (fun K16 j5 => .region (.mv rfl (.nil (j5 _ _ (.ret (a3 _ _ (⟨_, rfl, ?_⟩)))))))
   first
   | exact rfl
   | exact absurd trivial (by assumption)
   | contradiction
   | (exfalso; omega)
  try simp only [sps] at k1
  refine .skip (h4 _ _ (.seq (fun K17 g7 => .region (.mv rfl (.nil (g7 _ _ (.seq (fun K18 h8 => .region ?_))))))))
  refine .q rfl (.loadM ag_33_VSFun rfl ⟨rfl, Mem.of_get d⟩) ?_
  refine .mv rfl ?_
  have _ := SFunW.of_at a5 n
  refine .call rfl rfl rfl rfl en11 rfl (markSetFunctor_c) ?_
  rintro _ _ ⟨rfl, g0⟩
  have c0 := g0.stm
  have _ := c0.nx
  replace y := StM.le_left y c0 (by omega)
  replace u := c0.same _ _ (by omega) u
  replace d := c0.same _ _ (by omega) d
  replace a := Keep.stM a c0 (fun k hb hk => by omega)
  replace a8 := t.keep a (Nat.le_refl _)
  replace b := Keep.stM b c0 (fun k hb hk => by omega)
  replace b4 := w.keep b (Nat.le_refl _)
  replace a2 := Keep.stM a2 c0 (fun k hb hk => by omega)
  replace d9 := c3.keep a2 (Nat.le_refl _)
  replace r := Keep.stM r c0 (fun k hb hk => by omega)
  replace d1 := b7.keep r (Nat.le_refl _)
  replace h0 := l.mono y
  clear m g a7 b2 b0 b1 a6 a9 i j
  have m : SFun.At _ g3 0 f p := ⟨Mem.of_get u, h0⟩
  obtain ⟨g, a7, b2, b0, b1⟩ := m.get
  have a6 : MemN _ _ _ _ _ := ⟨rfl, m.1⟩
  have a9 := m.2
  have i : MemN _ _ _ _ _ := ⟨rfl, g.1⟩
  have j := g.2
  clear b5
  have b5 := a8.inn
  clear b9
  have b9 := b4.intss
  clear o
  have o : MemN _ _ _ _ _ := ⟨rfl, Mem.of_get d⟩
  clear f1
  have f1 := d9.intss
  clear d4
  have d4 := d1.inn
  refine .mv rfl (.nil (h8 _ _ (.seq (fun K19 h9 => .seq (fun K20 e0 => .region (.mv rfl (.q rfl (.cmp rfl rfl rfl) (.mv rfl ?_))))))))
  refine .split (fun i0 => ?_) (fun i0 => ?_)
  ·
   try simp only [sps] at i0
   refine .z rfl (.z rfl (.z rfl (.z rfl (.q rfl (.pickT rfl rfl) (.mv rfl (.z rfl (.z rfl (.z rfl (.q rfl (.pickT rfl rfl) (.nil (e0 _ _ ?_)))))))))))
   refine .condT rfl ?_
   refine .seq (fun K21 h6 => .region (.mv rfl (.nil (h6 _ _ (.ret (a3 _ _ (⟨_, rfl, ?_⟩)))))))
   first
   | exact rfl
   | exact absurd trivial (by assumption)
   | contradiction
   | (exfalso; omega)
  try simp only [sps] at i0
  refine .qg rfl (.move rfl) (.qg rfl (.move rfl) ?_)
  refine .callQg rfl rfl rfl rfl rfl rfl en9 rfl (eqInt64SS_c) ?_
  refine .qg rfl (.not rfl) (.q rfl (.pickF rfl rfl) (.mv rfl ?_))
  refine .split (fun j3 => ?_) (fun j3 => ?_)
  ·
   try simp only [sps] at j3
   refine .z rfl (.z rfl (.z rfl (.q rfl (.pickT rfl rfl) (.nil (e0 _ _ ?_)))))
   refine .condT rfl ?_
   refine .seq (fun K22 i5 => .region (.mv rfl (.nil (i5 _ _ (.ret (a3 _ _ (⟨_, rfl, ?_⟩)))))))
   first
   | exact rfl
   | exact absurd trivial (by assumption)
   | contradiction
   | (exfalso; omega)
  try simp only [sps] at j3
  refine .qg rfl (.move rfl) (.qg rfl (.move rfl) (.qg rfl (.cmp rfl rfl rfl) (.q rfl (.pickF rfl rfl) (.nil (e0 _ _ ?_)))))
  refine .cond rfl ?_ ?_ <;> intro k6
  ·
   try simp only [sps] at k6
   refine .seq (fun K23 j1 => .region (.mv rfl (.nil (j1 _ _ (.ret (a3 _ _ (⟨_, rfl, ?_⟩)))))))
   first
   | exact rfl
   | exact absurd trivial (by assumption)
   | contradiction
   | (exfalso; omega)
  try simp only [sps] at k6
  refine .skip (h9 _ _ (.seq (fun K24 f3 => .region (.mv rfl (.nil (f3 _ _ (.seq (fun K25 i4 => .region (.mv rfl (.mv rfl ?_))))))))))
  have e1 := IntssW.of_r c3 a2
  refine .call rfl rfl rfl rfl en12 rfl (markInt64SS_c) ?_
  rintro _ e7 ⟨rfl, e4⟩
  have c1 := e4.stm
  have _ := c1.nx
  replace y := StM.le_left y c1 (by omega)
  replace u := c1.same _ _ (by omega) u
  replace d := c1.same _ _ (by omega) d
  replace a := Keep.stM a c1 (fun k hb hk => by omega)
  replace a8 := t.keep a (Nat.le_refl _)
  replace b := Keep.stM b c1 (fun k hb hk => by omega)
  replace b4 := w.keep b (Nat.le_refl _)
  replace r := Keep.stM r c1 (fun k hb hk => by omega)
  replace d1 := b7.keep r (Nat.le_refl _)
  replace h0 := l.mono y
  clear m g a7 b2 b0 b1 a6 a9 i j
  have m : SFun.At _ g3 0 f p := ⟨Mem.of_get u, h0⟩
  obtain ⟨g, a7, b2, b0, b1⟩ := m.get
  have a6 : MemN _ _ _ _ _ := ⟨rfl, m.1⟩
  have a9 := m.2
  have i : MemN _ _ _ _ _ := ⟨rfl, g.1⟩
  have j := g.2
  clear b5
  have b5 := a8.inn
  clear b9
  have b9 := b4.intss
  clear o
  have o : MemN _ _ _ _ _ := ⟨rfl, Mem.of_get d⟩
  clear d4
  have d4 := d1.inn
  have d6 := e4.held (d9.2)
  have d5 := e1.stm c1
  have c6 := d6
  have a1 : Keep c8.next e7 e7 := fun _ _ _ h => h
  have c5 := d5
  have a0 : Keep c8.next e7 e7 := fun _ _ _ h => h
  refine .mv rfl (.nil (i4 _ _ (.seq (fun K26 f8 => .region (.mv rfl (.nil (f8 _ _ (.seq (fun K27 f7 => .region (.mv rfl (.mv rfl ?_)))))))))))
  refine .callQ rfl rfl rfl rfl en13 rfl (heldInt64SSw_c) ?_
  refine .mv rfl (.nil (f7 _ _ (.seq (fun K28 g9 => .seq (fun K29 i8 => .region (.mv rfl (.q rfl (.cmp rfl rfl rfl) (.nil (i8 _ _ ?_)))))))))
  refine .cond rfl ?_ ?_ <;> intro k3
  ·
   try simp only [sps] at k3
   refine .seq (fun K30 f5 => .region (.mv rfl (.nil (f5 _ _ (.ret (a3 _ _ (⟨_, rfl, ?_⟩)))))))
   first
   | exact rfl
   | exact absurd trivial (by assumption)
   | contradiction
   | (exfalso; omega)
  try simp only [sps] at k3
  refine .skip (g9 _ _ (.seq (fun K31 f9 => .seq (fun K32 g6 => .region (.mv rfl (.mv rfl (.q rfl (.cmp rfl rfl rfl) (.nil (g6 _ _ ?_)))))))))
  refine .cond rfl ?_ ?_ <;> intro k0
  ·
   try simp only [sps] at k0
   refine .seq (fun K33 g8 => .region (.mv rfl (.nil (g8 _ _ (.ret (a3 _ _ (⟨_, rfl, ?_⟩)))))))
   first
   | exact rfl
   | exact absurd trivial (by assumption)
   | contradiction
   | (exfalso; omega)
  try simp only [sps] at k0
  refine .skip (f9 _ _ (.seq (fun K34 i2 => .region ?_)))
  refine .q rfl (.loadM ag_27_LOrbitOf rfl ⟨rfl, Mem.of_get u⟩) ?_
  refine .call rfl rfl rfl rfl en7 rfl (toSetFunctor_c) ?_
  rintro _ h2 ⟨b8, _, rfl, f0⟩
  have _ := b8.1
  replace y := y.trans b8
  replace u := b8.2 _ _ u
  replace d := b8.2 _ _ d
  replace a := Keep.le a b8
  replace a8 := t.keep a (Nat.le_refl _)
  replace b := Keep.le b b8
  replace b4 := w.keep b (Nat.le_refl _)
  replace r := Keep.le r b8
  replace d1 := b7.keep r (Nat.le_refl _)
  replace a1 := Keep.le a1 b8
  replace d6 := c6.keep a1 (Nat.le_refl _)
  replace a0 := Keep.le a0 b8
  replace d5 := c5.keep a0 (Nat.le_refl _)
  have d8 := f0
  have c4 : Keep e7.next h2 h2 := fun _ _ _ h => h
  replace h0 := l.mono y
  clear m g a7 b2 b0 b1 a6 a9 i j
  have m : SFun.At _ g3 0 f p := ⟨Mem.of_get u, h0⟩
  obtain ⟨g, a7, b2, b0, b1⟩ := m.get
  have a6 : MemN _ _ _ _ _ := ⟨rfl, m.1⟩
  have a9 := m.2
  have i : MemN _ _ _ _ _ := ⟨rfl, g.1⟩
  have j := g.2
  clear b5
  have b5 := a8.inn
  clear b9
  have b9 := b4.intss
  clear o
  have o : MemN _ _ _ _ _ := ⟨rfl, Mem.of_get d⟩
  clear d4
  have d4 := d1.inn
  have k7 := f0.inn
  refine .mv rfl (.mv rfl ?_)
  refine .call rfl rfl rfl rfl en8 rfl (implOrbitOf_c hmain) ?_
  rintro _ k8 ⟨b3, _, _, rfl, k9⟩
  have _ := b3.1
  replace y := y.trans b3
  replace u := b3.2 _ _ u
  replace d := b3.2 _ _ d
  replace a := Keep.le a b3
  replace a8 := t.keep a (Nat.le_refl _)
  replace b := Keep.le b b3
  replace b4 := w.keep b (Nat.le_refl _)
  replace r := Keep.le r b3
  replace d1 := b7.keep r (Nat.le_refl _)
  replace a1 := Keep.le a1 b3
  replace d6 := c6.keep a1 (Nat.le_refl _)
  replace a0 := Keep.le a0 b3
  replace d5 := c5.keep a0 (Nat.le_refl _)
  replace c4 := Keep.le c4 b3
  replace f0 := d8.keep c4 (Nat.le_refl _)
  have _ := k9
  have _ : Keep h2.next k8 k8 := fun _ _ _ h => h
  replace h0 := l.mono y
  clear m g a7 b2 b0 b1 a6 a9 i j
  have m : SFun.At _ g3 0 f p := ⟨Mem.of_get u, h0⟩
  obtain ⟨g, a7, b2, b0, b1⟩ := m.get
  have a6 : MemN _ _ _ _ _ := ⟨rfl, m.1⟩
  have a9 := m.2
  have i : MemN _ _ _ _ _ := ⟨rfl, g.1⟩
  have j := g.2
  clear b5
  have b5 := a8.inn
  clear b9
  have b9 := b4.intss
  clear o
  have o : MemN _ _ _ _ _ := ⟨rfl, Mem.of_get d⟩
  clear d4
  have d4 := d1.inn
  clear k7
  have k7 := f0.inn
  have _ := k9.intss
  refine .mv rfl (.q rfl (.extract rfl rfl) (.q rfl (.extract rfl rfl) (.mv rfl (.mv rfl (.nil (i2 _ _ (.seq (fun K35 j0 => .seq (fun K36 e9 => .region (.mv rfl (.mv rfl ?_)))))))))))
  refine .callQ rfl rfl rfl rfl en9 rfl (eqInt64SS_c) ?_
  refine .q rfl (.not rfl) (.mv rfl ?_)
  refine .split (fun h3 => ?_) (fun h3 => ?_)
  ·
   try simp only [sps] at h3
   refine .z rfl (.z rfl (.z rfl (.q rfl (.pickT rfl rfl) (.nil (e9 _ _ ?_)))))
   refine .condT rfl ?_
   refine .seq (fun K37 i7 => .region (.mv rfl (.nil (i7 _ _ (.ret (a3 _ _ (⟨_, rfl, ?_⟩)))))))
   first
   | exact rfl
   | exact absurd trivial (by assumption)
   | contradiction
   | (exfalso; omega)
  try simp only [sps] at h3
  refine .qg rfl (.move rfl) (.qg rfl (.move rfl) (.qg rfl (.cmp rfl rfl rfl) (.q rfl (.pickF rfl rfl) (.nil (e9 _ _ ?_)))))
  refine .cond rfl ?_ ?_ <;> intro k2
  ·
   try simp only [sps] at k2
   refine .seq (fun K38 j4 => .region (.mv rfl (.nil (j4 _ _ (.ret (a3 _ _ (⟨_, rfl, ?_⟩)))))))
   first
   | exact rfl
   | exact absurd trivial (by assumption)
   | contradiction
   | (exfalso; omega)
  try simp only [sps] at k2
  refine .skip (j0 _ _ (.seq (fun K39 g5 => .region (.mv rfl (.nil (g5 _ _ (.seq (fun K40 h5 => .region (.mv rfl (.mv rfl ?_))))))))))
  refine .callQ rfl rfl rfl rfl en13 rfl (heldInt64SSw_c) ?_
  refine .mv rfl (.nil (h5 _ _ (.seq (fun K41 j6 => .seq (fun K42 i1 => .region (.mv rfl (.q rfl (.cmp rfl rfl rfl) (.nil (i1 _ _ ?_)))))))))
  refine .cond rfl ?_ ?_ <;> intro e5
  ·
   try simp only [sps] at e5
   refine .seq (fun K43 j9 => .region (.mv rfl (.nil (j9 _ _ (.ret (a3 _ _ (⟨_, rfl, ?_⟩)))))))
   first
   | exact rfl
   | exact absurd trivial (by assumption)
   | contradiction
   | (exfalso; omega)
  try simp only [sps] at e5
  refine .skip (j6 _ _ (.seq (fun K44 i9 => .seq (fun K45 h1 => .region (.mv rfl (.mv rfl (.q rfl (.cmp rfl rfl rfl) (.nil (h1 _ _ ?_)))))))))
  refine .cond rfl ?_ ?_ <;> intro e6
  ·
   try simp only [sps] at e6
   refine .seq (fun K46 g1 => .region (.mv rfl (.nil (g1 _ _ (.ret (a3 _ _ (⟨_, rfl, ?_⟩)))))))
   first
   | exact rfl
   | exact absurd trivial (by assumption)
   | contradiction
   | (exfalso; omega)
  try simp only [sps] at e6
  refine .skip (i9 _ _ (.seq (fun K47 f4 => .region (.mv rfl (.nil (f4 _ _ (.ret (a3 _ _ (⟨_, rfl, ?_⟩)))))))))
  first
  | exact rfl
  | exact absurd trivial (by assumption)
  | contradiction
  | (exfalso; omega)
end Go.Proofs.Ytddjdkpjfpnjiaa
namespace Go.GL
open Go.RowKit Go.WideShapes Go.ChangeShapes Go.Deep
variable [MainFlag]

structure Imp1 (P : Program) (t : TypeId) (R : GHeap → Value → Prop) : Prop where
  mono : ∀ {H H' : GHeap} {g : Value}, H.Le H' → R H g → R H' g
  imp : ∀ {T : Type} {enc : TypeId × Value → T} {B : Nat} {w0 : World} {ρ : Place} {H : GHeap} {w : World} {held : Bool} {base fuel : Nat} {v : Value} {x : DataW T × List MemPlace}, Sim P B w0 ρ H w → w.heap.size ≤ B →
    DataW.trod enc P w 0 (fun _ => true) held fuel t v.cells.toList = some x → Value.okWide P w .any base t v → ∃ ρ' H' g, Sim P B w0 ρ' H' w ∧ Ext ρ ρ' ∧ H.Le H' ∧ VRel ρ' g v ∧ R H' g

def structT (P : Program) (t : TypeId) : Bool := match P.underlying t with | some (.struct _) => true | _ => false
theorem imp1_struct {P : Program} {t : TypeId} {α β : Type} {cells : α → β → List Value} {I : GHeap → α → β → Prop} {W : α → Prop} (hm : ∀ {H H' : GHeap} {c : α} {p : β}, I H c p → H.Le H' → I H' c p)
    (hI : Imports P t (fun ρ H cs => ∃ (c : α) (p : β), LRel ρ (cells c p) cs ∧ I H c p ∧ W c)) (hst : structT P t = true) : Imp1 P t (fun H g => ∃ (c : α) (p : β), g = .agg (cells c p).toArray ∧ I H c p ∧ W c) where
  mono h := fun ⟨c, p, h1, h2, h3⟩ => ⟨c, p, h1, hm h2 h, h3⟩
  imp := by
    intro T enc B w0 ρ H w held base fuel v x hs hB h hv
    have hagg : ∃ cs, v = .agg cs := by
      unfold Value.okWide at hv
      unfold structT at hst
      split at hst
      · rename_i fs hu
        rw [hu] at hv
        obtain ⟨cs, h, _⟩ := hv
        exact ⟨cs, h⟩
      · cases hst
    obtain ⟨cs, rfl⟩ := hagg
    obtain ⟨ρ', H', h1, h2, h3, c, p, h4, h5, h6⟩ := hI hs hB h
    exact ⟨ρ', H', _, h1, h2, h3, by have := VRel.agg_of h4; simpa [Value.cells] using this, c, p, rfl, h5, h6⟩
theorem imp1_int {P : Program} {t : TypeId} (ht : i64T P t = true) : Imp1 P t (fun _ g => ∃ n, g = .int .i64 n ∧ I64 n) where
  mono _ := id
  imp := by
    intro T enc B w0 ρ H w held base fuel v x hs hB h hv
    obtain ⟨n, rfl⟩ := okWide_int (i64T_run ht) hv
    obtain ⟨ρ', H', h1, h2, h3, m, h4, h5⟩ := import_int ht hs hB h
    have : n = m := by simpa [Value.cells] using h4
    subst this
    exact ⟨ρ', H', _, h1, h2, h3, .int _ _, n, rfl, h5⟩
structure ImpAll (P : Program) (ts : List TypeId) (R : GHeap → List Value → Prop) : Prop where
  imp : ∀ {T : Type} {enc : TypeId × Value → T} {B : Nat} {w0 : World} {ρ : Place} {H : GHeap} {w : World} {base : Nat} {vs : List Value} {ds : List (DataW T)} {ps : List MemPlace}, Sim P B w0 ρ H w → w.heap.size ≤ B →
    DataW.TrodAll enc P w 0 (fun _ => true) true ts vs ds ps → (∀ (j : Nat) t v, ts[j]? = some t → vs[j]? = some v → Value.okWide P w .any base t v) → ds.length = ts.length ∧ ∃ ρ' H' gs, Sim P B w0 ρ' H' w ∧ Ext ρ ρ' ∧ H.Le H' ∧ LRel ρ' gs vs ∧ R H' gs
theorem ImpAll.nil {P : Program} : ImpAll P [] (fun _ gs => gs = []) where
  imp := by
    intro T enc B w0 ρ H w base vs ds ps hs hB h hv
    obtain ⟨rfl, rfl, rfl⟩ := trodAll_nil h
    exact ⟨rfl, ρ, H, [], hs, .refl ρ, .refl H, .nil ρ, rfl⟩
theorem ImpAll.cons {P : Program} {t : TypeId} {ts : List TypeId} {R1 : GHeap → Value → Prop} {R : GHeap → List Value → Prop} (h1 : Imp1 P t R1) (h2 : ImpAll P ts R) : ImpAll P (t :: ts) (fun H gs => ∃ g r, gs = g :: r ∧ R1 H g ∧ R H r) where
  imp := by
    intro T enc B w0 ρ H w base vs ds ps hs hB h hv
    obtain ⟨v, vs, d, ds, p, q, rfl, rfl, rfl, ⟨fuel, k1⟩, k2⟩ := trodAll_cons h
    obtain ⟨ρ1, H1, g, s1, e1, l1, v1, r1⟩ := h1.imp hs hB k1 (hv 0 t v rfl rfl)
    obtain ⟨hl, ρ2, H2, gs, s2, e2, l2, v2, r2⟩ := h2.imp s1 hB k2 (fun j t v ht hj => hv (j + 1) t v (by simpa using ht) (by simpa using hj))
    exact ⟨by simp [hl], ρ2, H2, g :: gs, s2, e1.trans e2, l1.trans l2, .cons (v1.mono e2) v2, g, gs, rfl, h1.mono l2 r1, r2⟩

end Go.GL
