/- The category of a small preorder. No condition but those of each statement. -/
import Derived.Test.YtfanjkbaemhbmaaZ9
import Derived.ChangeKeysEq
namespace Go.Proofs.Ytfanjkbaemhbmaa
open Go Go.GL Go.RowKit Go.Proofs
theorem sz_63_Ev : (Try.prog.info? 63).map (·.size) = some 2 := by kernel_rfl
theorem sl_61_Ev : sliceT Try.prog 61 = some (63, 2) := by kernel_rfl
theorem ag_63_Ev : aggT Try.prog 63 = some 2 := by kernel_rfl
theorem eg_63_Ev : Try.prog.eqGuardType Try.prog.depth 63 = false := by kernel_rfl
theorem on_61_Ev : oneT Try.prog 61 = true := by kernel_rfl
theorem bt_63_Ev : buildT Try.prog 63 = some ([.int .i64 0, .int .i64 0], [(0, 1), (1, 1)]) := by kernel_rfl
theorem ze_63_Ev : zeroT Try.prog 63 = some ([.int .i64 0, .int .i64 0], 2) := by kernel_rfl
theorem ze_61_Ev : zeroT Try.prog 61 = some ([.slice none 0 0], 1) := by kernel_rfl
theorem sz_61_Ev : (Try.prog.info? 61).map (·.size) = some 1 := by kernel_rfl
theorem by_63_Ev : (Try.prog.info? 63).map (·.bytes) = some 16 := by kernel_rfl
theorem aggEq_63 (a0 a1 b0 b1 : Int) : ∀ w, (Op.equal 63 (.agg #[.int .i64 a0, .int .i64 a1]) (.agg #[.int .i64 b0, .int .i64 b1])).run Try.prog w = .ok (a0 == b0 && a1 == b1) w := by
  intro w
  unfold Op.equal Op.maxDepth
  simp [go_sem, run_equalIn_agg]
  (repeat' split) <;> simp_all
set_option maxHeartbeats 4000000 in
theorem isPreorder_c {a : Option Addr} {r : Nat → Option Addr} {rel : List (List Int)} {H : GHeap} (h : Intss H a rel r := by assumption) (hrel : rel = veeR) :
    GCalls Try.prog 43 [.slice a rel.length rel.length] H (Ret (.bool true) H) := by
  refine GCalls.ret rfl ?_
  have hl : rel.length = 3 := by rw [hrel]; rfl
  have e1 : ∀ i, i < 3 → (rel.getD i []).length = 3 := fun i hi => by rw [hrel]; exact vee_row hi
  refine GCalls.body (N := 81) (rs := [.tmp 2]) Try.func43 rfl rfl rfl rfl (fun Qx a1 hend => ?_)
  refine .fg [0] rfl ?_
  have d5 := GHeap.Le.refl H
  have base_h := h
  refine .seq (fun K1 d4 => .region (.mv rfl (.nil (d4 _ _ (.seq (fun K2 d1 => .region (.mv rfl (.q rfl (.len sl_25_B rfl) (.mv rfl (.nil (d1 _ _ (.seq (fun K3 d3 => .seq (fun K4 c8 => .region (.mv rfl ?_)))))))))))))))
  refine .q rfl (.len sl_25_B rfl) (.mv rfl (.nil (c8 _ _ ?_)))
  refine .block ?_
  refine .loopR (σ := Nat) [(0, some _), (3, some _), (13, some _), (14, some _)] (fun i => [(15, some (.int .i64 (i : Int)))]) (fun i H' => H = H' ∧ i ≤ 3) (fun i => 3 - i) (0) ⟨rfl, rfl, rfl, rfl, trivial⟩ ⟨rfl, trivial⟩ ?_ ?_
  ·
   refine ⟨rfl, ?_⟩
   omega
  rintro i _ ⟨rfl, hI⟩ KL1 b3
  refine .forget (fr' := [(15, some (.int .i64 (i : Int))), (0, some _), (3, some _), (13, some _), (14, some _)]) ⟨rfl, rfl, rfl, rfl, rfl, trivial⟩ ?_
  refine .seq (fun K5 d0 => .region (.q rfl (.cmp rfl rfl rfl) (.nil (d0 _ _ (.seq (fun K6 c9 => ?_))))))
  refine .cond rfl (fun a8 => ?_) (fun a8 => ?_)
  ·
   simp only [sps] at a8
   have w1 := h.2 i (by omega)
   have e2 := e1 i (by omega)
   refine .skip ?_
   refine c9 _ _ (.seq (fun K7 c6 => ?_))
   refine .block ?_
   refine .seq (fun K8 c7 => .region (.mv rfl ?_))
   refine .q rfl (.idxN sl_25_B (Intss.sl (by assumption)) rfl rfl (by omega)) ?_
   refine .q rfl (.loadR on_24_B (by assumption) rfl (by omega)) ?_
   refine .mv rfl (.mv rfl (.nil (c7 _ _ (.seq (fun K9 d2 => .seq (fun K10 b0 => .region (.mv rfl (.q rfl (.len sl_24_A rfl) (.mv rfl (.q rfl (.cmp rfl rfl rfl) (.nil (b0 _ _ ?_))))))))))))
   refine .cond rfl (fun c5 => ?_) (fun c5 => ?_)
   ·
    exact absurd c5 (by simp only [sps]; omega)
   try simp only [sps] at c5
   refine .skip ?_
   refine d2 _ _ (.seq (fun K11 u => .seq (fun K12 o => .region (.mv rfl (.q rfl (.len sl_24_A rfl) (.mv rfl (.nil (o _ _ ?_))))))))
   refine .block ?_
   refine .loopR (σ := Nat) [(0, some _), (3, some _), (4, some _), (5, some _), (13, some _), (14, some _), (15, some _), (24, some _), (25, some _)] (fun j => [(26, some (.int .i64 (j : Int)))]) (fun j H' => H = H' ∧ j ≤ 3) (fun j => 3 - j) (0) ⟨rfl, rfl, rfl, rfl, rfl, rfl, rfl, rfl, rfl, trivial⟩ ⟨rfl, trivial⟩ ?_ ?_
   ·
    refine ⟨rfl, ?_⟩
    omega
   rintro j _ ⟨rfl, hI⟩ KL2 c1
   refine .forget (fr' := [(26, some (.int .i64 (j : Int))), (0, some _), (3, some _), (4, some _), (5, some _), (13, some _), (14, some _), (15, some _), (24, some _), (25, some _)]) ⟨rfl, rfl, rfl, rfl, rfl, rfl, rfl, rfl, rfl, rfl, trivial⟩ ?_
   refine .seq (fun K13 x => .region (.q rfl (.cmp rfl rfl rfl) (.nil (x _ _ (.seq (fun K14 c4 => ?_))))))
   refine .cond rfl (fun z => ?_) (fun z => ?_)
   ·
    simp only [sps] at z
    refine .skip ?_
    refine c4 _ _ (.seq (fun K15 g => ?_))
    refine .block ?_
    refine .seq (fun K16 p => .region ?_)
    refine .q rfl (.idxN sl_24_A (by assumption) rfl rfl (by omega)) ?_
    refine .q rfl (.loadI on_2_A (by assumption) rfl (by omega)) ?_
    refine .mv rfl (.nil (p _ _ (.seq (fun K17 a4 => .region (.mv rfl ?_)))))
    refine .q rfl (.andn rfl rfl (by rw [hrel]; exact vee_01 (by omega) (by omega))) ?_
    refine .q rfl (.cmp rfl rfl rfl) (.nil (a4 _ _ ?_))
    refine .cond rfl (fun s => ?_) (fun s => ?_)
    ·
     exact absurd s (by simp)
    try simp only [sps] at s
    refine .skip ?_
    refine g _ _ (.region ?_)
    refine .q rfl (.add rfl rfl rfl (by omega) (by omega)) ?_
    refine .mv rfl (.nil ?_)
    refine c1 (j + 1) _ _ ?_ ?_ ⟨rfl, rfl, rfl, rfl, rfl, rfl, rfl, rfl, rfl, rfl, trivial⟩
    ·
     refine ⟨rfl, ?_⟩
     omega
    omega
   try simp only [sps] at z
   refine .exit ?_
   refine u _ _ (.seq (fun K18 c2 => .region (.mv rfl (.mv rfl ?_))))
   refine .q rfl (.idxN sl_24_A (by assumption) rfl rfl (by omega)) ?_
   refine .q rfl (.loadI on_2_A (by assumption) rfl (by omega)) ?_
   refine .q rfl (.cmp rfl rfl rfl) (.nil (c2 _ _ ?_))
   refine .cond rfl (fun f => ?_) (fun f => ?_)
   ·
    exact absurd (show (rel.getD i []).getD i 0 = 1 by rw [hrel]; exact vee_11 (by omega)) (by simp only [sps] at f; exact f)
   try simp only [sps] at f
   refine .skip ?_
   refine c6 _ _ (.region ?_)
   refine .q rfl (.add rfl rfl rfl (by omega) (by omega)) ?_
   refine .mv rfl (.nil ?_)
   refine b3 (i + 1) _ _ ?_ ?_ ⟨rfl, rfl, rfl, rfl, rfl, trivial⟩
   ·
    refine ⟨rfl, ?_⟩
    omega
   omega
  try simp only [sps] at a8
  refine .exit ?_
  refine d3 _ _ (.seq (fun K19 w => .seq (fun K20 a6 => .region (.mv rfl (.q rfl (.len sl_25_B rfl) (.mv rfl (.nil (a6 _ _ ?_))))))))
  refine .block ?_
  refine .loopR (σ := Nat) [(0, some _), (41, some _)] (fun i => [(42, some (.int .i64 (i : Int)))]) (fun i H' => H = H' ∧ i ≤ 3) (fun i => 3 - i) (0) ⟨rfl, rfl, trivial⟩ ⟨rfl, trivial⟩ ?_ ?_
  ·
   refine ⟨rfl, ?_⟩
   omega
  rintro i _ ⟨rfl, hI⟩ KL3 b5
  refine .forget (fr' := [(42, some (.int .i64 (i : Int))), (0, some _), (41, some _)]) ⟨rfl, rfl, rfl, trivial⟩ ?_
  refine .seq (fun K21 a0 => .region (.q rfl (.cmp rfl rfl rfl) (.nil (a0 _ _ (.seq (fun K22 a5 => ?_))))))
  refine .cond rfl (fun b1 => ?_) (fun b1 => ?_)
  ·
   simp only [sps] at b1
   have w1 := h.2 i (by omega)
   have e2 := e1 i (by omega)
   refine .skip ?_
   refine a5 _ _ (.seq (fun K23 m => ?_))
   refine .block ?_
   refine .seq (fun K24 b4 => .region (.mv rfl (.mv rfl (.nil (b4 _ _ (.seq (fun K25 a7 => .region (.mv rfl (.q rfl (.len sl_25_B rfl) (.mv rfl (.nil (a7 _ _ ?_))))))))))))
   refine .block ?_
   refine .loopR (σ := Nat) [(0, some _), (8, some _), (41, some _), (42, some _), (46, some _)] (fun j => [(47, some (.int .i64 (j : Int)))]) (fun j H' => H = H' ∧ j ≤ 3) (fun j => 3 - j) (0) ⟨rfl, rfl, rfl, rfl, rfl, trivial⟩ ⟨rfl, trivial⟩ ?_ ?_
   ·
    refine ⟨rfl, ?_⟩
    omega
   rintro j _ ⟨rfl, hI⟩ KL4 d
   refine .forget (fr' := [(47, some (.int .i64 (j : Int))), (0, some _), (8, some _), (41, some _), (42, some _), (46, some _)]) ⟨rfl, rfl, rfl, rfl, rfl, rfl, trivial⟩ ?_
   refine .seq (fun K26 b9 => .region (.q rfl (.cmp rfl rfl rfl) (.nil (b9 _ _ (.seq (fun K27 b6 => ?_))))))
   refine .cond rfl (fun a2 => ?_) (fun a2 => ?_)
   ·
    simp only [sps] at a2
    have w2 := h.2 j (by omega)
    have e3 := e1 j (by omega)
    refine .skip ?_
    refine b6 _ _ (.seq (fun K28 c => ?_))
    refine .block ?_
    refine .seq (fun K29 a9 => .region (.mv rfl (.mv rfl (.nil (a9 _ _ (.seq (fun K30 c3 => .seq (fun K31 t => .region (.mv rfl (.mv rfl ?_))))))))))
    refine .q rfl (.idxN sl_25_B (Intss.sl (by assumption)) rfl rfl (by omega)) ?_
    refine .q rfl (.loadR on_24_B (by assumption) rfl (by omega)) ?_
    refine .mv rfl ?_
    refine .q rfl (.idxN sl_24_A (by assumption) rfl rfl (by omega)) ?_
    refine .q rfl (.loadI on_2_A (by assumption) rfl (by omega)) ?_
    refine .q rfl (.cmp rfl rfl rfl) (.nil (t _ _ ?_))
    refine .cond rfl (fun b => ?_) (fun b => ?_)
    ·
     try simp only [sps] at b
     refine .exit ?_
     refine c _ _ (.region ?_)
     refine .q rfl (.add rfl rfl rfl (by omega) (by omega)) ?_
     refine .mv rfl (.nil ?_)
     refine d (j + 1) _ _ ?_ ?_ ⟨rfl, rfl, rfl, rfl, rfl, rfl, trivial⟩
     ·
      refine ⟨rfl, ?_⟩
      omega
     omega
    simp only [sps] at b
    refine .skip ?_
    refine c3 _ _ (.seq (fun K32 v => .region (.mv rfl (.q rfl (.len sl_25_B rfl) (.mv rfl (.nil (v _ _ ?_)))))))
    refine .block ?_
    refine .loopR (σ := Nat) [(0, some _), (8, some _), (9, some _), (41, some _), (42, some _), (46, some _), (47, some _), (59, some _)] (fun k => [(60, some (.int .i64 (k : Int)))]) (fun k H' => H = H' ∧ k ≤ 3) (fun k => 3 - k) (0) ⟨rfl, rfl, rfl, rfl, rfl, rfl, rfl, rfl, trivial⟩ ⟨rfl, trivial⟩ ?_ ?_
    ·
     refine ⟨rfl, ?_⟩
     omega
    rintro k _ ⟨rfl, hI⟩ KL5 b2
    refine .forget (fr' := [(60, some (.int .i64 (k : Int))), (0, some _), (8, some _), (9, some _), (41, some _), (42, some _), (46, some _), (47, some _), (59, some _)]) ⟨rfl, rfl, rfl, rfl, rfl, rfl, rfl, rfl, rfl, trivial⟩ ?_
    refine .seq (fun K33 a3 => .region (.q rfl (.cmp rfl rfl rfl) (.nil (a3 _ _ (.seq (fun K34 y => ?_))))))
    refine .cond rfl (fun n => ?_) (fun n => ?_)
    ·
     simp only [sps] at n
     refine .skip ?_
     refine y _ _ (.seq (fun K35 b8 => ?_))
     refine .block ?_
     refine .seq (fun K36 b7 => .region (.mv rfl (.mv rfl (.nil (b7 _ _ (.seq (fun K37 c0 => ?_)))))))
     refine .regionD mo_B (.q 0 (.q 1 (.q 2 (.q 3 (.q 4 (.q 5 (.q 6 (.q 7 (.q 8 (.q 9 (.q 10 (.q 11 (.q 12 (.q 13 (.q 14 (.done)))))))))))))))) (by kernel_rfl) ?_
     refine .mv rfl rfl (.mv rfl rfl ?_)
     refine .q rfl (.idxN sl_25_B (Intss.sl (by assumption)) rfl rfl (by omega)) ?_
     refine .q rfl (.loadR on_24_B (by assumption) rfl (by omega)) ?_
     refine .mv rfl rfl ?_
     refine .q rfl (.idxN sl_24_A (by assumption) rfl rfl (by omega)) ?_
     refine .q rfl (.loadI on_2_A (by assumption) rfl (by omega)) ?_
     refine .mv rfl rfl (.mv rfl rfl ?_)
     refine .q rfl (.idxN sl_25_B (Intss.sl (by assumption)) rfl rfl (by omega)) ?_
     refine .q rfl (.loadR on_24_B (by assumption) rfl (by omega)) ?_
     refine .mv rfl rfl ?_
     refine .q rfl (.idxN sl_24_A (by assumption) rfl rfl (by omega)) ?_
     refine .q rfl (.loadI on_2_A (by assumption) rfl (by omega)) ?_
     refine .q rfl (.cmp rfl rfl rfl) ?_
     refine .done ?_
     refine c0 _ _ ?_
     refine .cond rfl (fun e => ?_) (fun e => ?_)
     ·
      exact absurd (show (rel.getD j []).getD k 0 ≤ (rel.getD i []).getD k 0 by rw [hrel] at b ⊢; exact vee_tr (by omega) (by omega) (by omega) b) (by simp only [sps] at e; exact Int.not_le.2 e)
     try simp only [sps] at e
     refine .skip ?_
     refine b8 _ _ (.region ?_)
     refine .q rfl (.add rfl rfl rfl (by omega) (by omega)) ?_
     refine .mv rfl (.nil ?_)
     refine b2 (k + 1) _ _ ?_ ?_ ⟨rfl, rfl, rfl, rfl, rfl, rfl, rfl, rfl, rfl, trivial⟩
     ·
      refine ⟨rfl, ?_⟩
      omega
     omega
    try simp only [sps] at n
    refine .exit ?_
    refine c _ _ (.region ?_)
    refine .q rfl (.add rfl rfl rfl (by omega) (by omega)) ?_
    refine .mv rfl (.nil ?_)
    refine d (j + 1) _ _ ?_ ?_ ⟨rfl, rfl, rfl, rfl, rfl, rfl, trivial⟩
    ·
     refine ⟨rfl, ?_⟩
     omega
    omega
   try simp only [sps] at a2
   refine .exit ?_
   refine m _ _ (.region ?_)
   refine .q rfl (.add rfl rfl rfl (by omega) (by omega)) ?_
   refine .mv rfl (.nil ?_)
   refine b5 (i + 1) _ _ ?_ ?_ ⟨rfl, rfl, rfl, trivial⟩
   ·
    refine ⟨rfl, ?_⟩
    omega
   omega
  try simp only [sps] at b1
  refine .exit ?_
  refine w _ _ (.seq (fun K38 l => .region (.mv rfl (.nil (l _ _ ?_)))))
  refine .ret ?_
  refine a1 _ _ ?_
  refine ⟨_, rfl, ?_⟩
  exact ⟨rfl, d5⟩
theorem index2_c {g : Nat} {l : List (Int × Int)} {T : TypeId} {t0 t1 : Int} {H : GHeap} (hg : H.get g = some (.row (prs l) T true)) (hl : l.length ≤ 1000000) :
    GCalls Try.prog 80 [.slice (some ⟨g, 0, none⟩) l.length l.length, .agg #[.int .i64 t0, .int .i64 t1]] H (Ret (.int .i64 (idxP l (t0, t1))) H) := by
  refine GCalls.ret rfl ?_
  refine GCalls.body (N := 19) (rs := [.tmp 4]) Try.func80 rfl rfl rfl rfl (fun Qx f hend => ?_)
  refine .fg [0, 1] rfl ?_
  have d := GHeap.Le.refl H
  have lt_hg := GHeap.ltg hg
  have sA := prs_sl hg
  refine .seq (fun K1 w => .region ?_)
  refine .R rfl (.boxR rfl sz_63_Ev rfl) ?_
  rintro _ H3 ⟨g3, rfl, m, ge3, b⟩
  have nx_H3 := m.1
  replace d := d.trans m
  replace hg := m.2 _ _ hg
  have lt_at3 := GHeap.ltg b
  clear sA
  have sA := prs_sl hg
  have o : MemN _ _ _ _ _ := ⟨rfl, Mem.of_get b⟩
  refine .mv rfl (.nil (w _ _ (.seq (fun K2 s => .seq (fun K3 x => .region (.mv rfl (.q rfl (.len sl_61_Ev rfl) (.mv rfl (.nil (x _ _ ?_))))))))))
  refine .block ?_
  refine .loopR (σ := Nat) [(0, some _), (3, some _), (7, some _)] (fun k => [(8, some (.int .i64 (k : Int)))]) (fun k H' => St [] H3 H' ∧ k ≤ l.length ∧ ∀ j, j < k → ¬ l.getD j (0, 0) = (t0, t1)) (fun k => l.length - k) (0) ⟨rfl, rfl, rfl, trivial⟩ ⟨rfl, trivial⟩ ?_ ?_
  ·
   refine ⟨.refl _ _, ?_⟩
   exact ⟨by omega, fun _ _ => by omega⟩
  rintro k HL1 ⟨a, hI⟩ KL1 h
  refine .forget (fr' := [(8, some (.int .i64 (k : Int))), (0, some _), (3, some _), (7, some _)]) ⟨rfl, rfl, rfl, rfl, trivial⟩ ?_
  have nx_HL1 := a.nx
  replace d := d.st a (fun k hk => trivial)
  replace hg := a.same _ _ trivial hg
  replace b := a.same _ _ trivial b
  clear sA
  have sA := prs_sl hg
  clear o
  have o : MemN _ _ _ _ _ := ⟨rfl, Mem.of_get b⟩
  obtain ⟨hi, ha⟩ := hI
  refine .seq (fun K4 v => .region (.q rfl (.cmp rfl rfl rfl) (.nil (v _ _ (.seq (fun K5 r => ?_))))))
  refine .cond rfl (fun h9 => ?_) (fun h9 => ?_)
  ·
   simp only [sps] at h9
   have mk := prs_mem hg (i := k) (by omega)
   refine .skip ?_
   refine r _ _ (.seq (fun K6 y => ?_))
   refine .block ?_
   refine .seq (fun K7 t => .region (.mv rfl (.mv rfl (.nil (t _ _ (.seq (fun K8 u => ?_)))))))
   refine .regionD mo_B (.q 0 (.q 1 (.q 2 (.q 3 (.q 4 (.q 5 (.done))))))) (by kernel_rfl) ?_
   refine .q rfl (.loadM ag_63_Ev rfl ⟨rfl, Mem.of_get b⟩) ?_
   refine .mv rfl rfl (.mv rfl rfl ?_)
   refine .q rfl (.idx sl_61_Ev (by assumption) (by omega) rfl rfl (by omega) (by omega) rfl) ?_
   refine .q rfl (.loadM ag_63_Ev rfl (by assumption)) ?_
   refine .q rfl (.aggEq eg_63_Ev rfl rfl rfl rfl (aggEq_63 _ _ _ _)) ?_
   refine .done ?_
   refine u _ _ ?_
   refine .cond rfl (fun c => ?_) (fun c => ?_)
   ·
    simp only [sps, beq_iff_eq, Bool.and_eq_true] at c
    refine .seq (fun K9 p => .region (.mv rfl (.mv rfl (.nil (p _ _ ?_)))))
    refine .ret ?_
    refine f _ _ ?_
    refine ⟨_, rfl, ?_⟩
    refine ⟨?_, d⟩
    rw [idxP_some (by omega) (Prod.ext c.1.symm c.2.symm) ha]
   refine .skip ?_
   refine y _ _ (.region ?_)
   refine .q rfl (.add rfl rfl rfl (by omega) (by omega)) ?_
   refine .mv rfl (.nil ?_)
   refine h (k + 1) _ _ ?_ ?_ ⟨rfl, rfl, rfl, rfl, trivial⟩
   ·
    refine ⟨a, ?_⟩
    refine ⟨by omega, fun j hj => ?_⟩
    by_cases e : j < k
    · exact ha j e
    · obtain rfl : j = k := by omega
      intro e2
      rw [e2] at c
      simp at c
   omega
  try simp only [sps] at h9
  refine .exit ?_
  refine s _ _ (.seq (fun K10 n => .region (.mv rfl (.nil (n _ _ ?_)))))
  refine .ret ?_
  refine f _ _ ?_
  refine ⟨_, rfl, ?_⟩
  obtain rfl : k = l.length := by omega
  exact ⟨by rw [idxP_none ha], d⟩
theorem indexA2_c {g : Nat} {l : List (Int × Int)} {T : TypeId} {t0 t1 : Int} {H : GHeap} (hg : H.get g = some (.row (prs l) T true)) (hl : l.length ≤ 1000000) :
    GCalls Try.prog 46 [.slice (some ⟨g, 0, none⟩) l.length l.length, .agg #[.int .i64 t0, .int .i64 t1]] H (Ret (.int .i64 (idxP l (t0, t1))) H) := by
  refine GCalls.ret rfl ?_
  refine GCalls.body (N := 8) (rs := [.tmp 4]) Try.func46 rfl rfl rfl rfl (fun Qx c hend => ?_)
  refine .fg [0, 1] rfl ?_
  have d := GHeap.Le.refl H
  have lt_hg := GHeap.ltg hg
  refine .seq (fun K1 f => .region ?_)
  refine .R rfl (.boxR rfl sz_63_Ev rfl) ?_
  rintro _ H3 ⟨g3, rfl, a, ge3, b⟩
  have nx_H3 := a.1
  replace d := d.trans a
  replace hg := a.2 _ _ hg
  have lt_at3 := GHeap.ltg b
  have mm3 : MemN _ _ _ _ _ := ⟨rfl, Mem.of_get b⟩
  refine .mv rfl (.nil (f _ _ (.seq (fun K2 e => .region (.mv rfl ?_)))))
  refine .q rfl (.loadM ag_63_Ev rfl ⟨rfl, Mem.of_get b⟩) ?_
  refine .callQ rfl rfl rfl rfl @Try.call80 rfl (index2_c hg hl) ?_
  refine .mv rfl (.nil (e _ _ ?_))
  refine .ret ?_
  refine c _ _ ?_
  refine ⟨_, rfl, ?_⟩
  exact ⟨rfl, d⟩
theorem preorder1_c {gb gL g a b n : Nat} {ob : Int} {l : List (Int × Int)} {a1 a2 : Option Addr} {v3 v4 : Value} {src tgt : List Int} {e1 T : TypeId} {H : GHeap} (hA : H.get gb = some (.row [.slice (some ⟨gL, 0, none⟩) l.length l.length] e1 true)) (hL : H.get gL = some (.row (prs l) T true)) (hg : H.get g = some (.row [.int .i64 ob, .slice a1 n n, .slice a2 n n, v3, v4] 27 true))
    (i1 : Ints H a1 src) (i2 : Ints H a2 tgt) (h1 : src.length = n) (h2 : tgt.length = n) (hl : l.length ≤ 1000000) (ha : a < n) (hb : b < n) :
    GCalls Try.prog 45 [.int .i64 (a : Int), .int .i64 (b : Int), .pointer (some ⟨gb, 0, none⟩), .pointer (some ⟨g, 0, none⟩)] H (fun v H' => H.Le H' ∧ v = .int .i64 (idxP l (src.getD a 0, tgt.getD b 0))) := by
  refine GCalls.body (N := 20) (rs := [.tmp 6]) Try.func45 rfl rfl rfl rfl (fun Qx d hend => ?_)
  refine .fg [0, 1, 2, 3] rfl ?_
  have f := GHeap.Le.refl H
  have lt_hA := GHeap.ltg hA
  have lt_hL := GHeap.ltg hL
  have lt_hg := GHeap.ltg hg
  have j1 := i1.slN h1
  have j2 := i2.slN h2
  refine .seq (fun K1 h => .region (.mv rfl (.nil (h _ _ (.seq (fun K2 e => ?_))))))
  refine .regionD mo_B (.q 0 (.q 1 (.q 2 (.q 3 (.q 4 (.q 5 (.q 6 (.q 7 (.q 8 (.q 9 (.q 10 (.q 11 (.c 12 0 (.q 13 (.done))))))))))))))) (by kernel_rfl) ?_
  refine .q rfl (.load on_61_Ev rfl (by first | assumption | exact Mem.of_get hA 0 _ rfl)) ?_
  refine .q rfl (.fieldAddr fo_27_1_B rfl) ?_
  refine .q rfl (.load on_24_B rfl (by first | assumption | exact Mem.of_get hg 1 _ rfl)) ?_
  refine .mv rfl rfl ?_
  refine .q rfl (.idxN sl_24_A (by assumption) rfl rfl (by omega)) ?_
  refine .q rfl (.loadI on_2_A (by assumption) rfl (by omega)) ?_
  refine .q rfl (.fieldAddr fo_27_2_B rfl) ?_
  refine .q rfl (.load on_24_B rfl (by first | assumption | exact Mem.of_get hg 2 _ rfl)) ?_
  refine .mv rfl rfl ?_
  refine .q rfl (.idxN sl_24_A (by assumption) rfl rfl (by omega)) ?_
  refine .q rfl (.loadI on_2_A (by assumption) rfl (by omega)) ?_
  refine .q rfl (.build bt_63_Ev rfl rfl rfl) ?_
  refine .callQ0 rfl rfl rfl rfl rfl @Try.call46 rfl (indexA2_c hL hl) ?_
  refine .mv rfl rfl ?_
  refine .done ?_
  refine e _ _ ?_
  refine .ret ?_
  refine d _ _ ?_
  refine ⟨_, rfl, ?_⟩
  exact ⟨f, rfl⟩
set_option maxHeartbeats 16000000 in
theorem preorderCategory_c {a : Option Addr} {r : Nat → Option Addr} {rel : List (List Int)} {H : GHeap} (h : Intss H a rel r := by assumption) (hrel : rel = veeR) :
    GCalls Try.prog 13 [.slice a rel.length rel.length] H (NewCR 0 vee H) := by
  have hl : rel.length = 3 := by rw [hrel]; rfl
  have e1 : ∀ i, i < 3 → (rel.getD i []).length = 3 := fun i hi => by rw [hrel]; exact vee_row hi
  refine GCalls.body (N := 74) (rs := [.cell 2 27, .tmp 3]) Try.func13 rfl rfl rfl rfl (fun Qx o4 hend => ?_)
  refine .fg [0] rfl ?_
  have t := GHeap.Le.refl H
  have m := h
  refine .seq (fun K1 s9 => .region ?_)
  refine .R rfl (.allocR rfl ze_27_Hj rfl) ?_
  rintro _ H2 ⟨g2, rfl, r1, ge2, a9⟩
  have nx_H2 := r1.1
  replace t := t.trans r1
  have lt_at2 := GHeap.ltg a9
  replace h := m.mono t
  refine .mv rfl (.nil (s9 _ _ (.seq (fun K2 t2 => .seq (fun K3 t3 => .region (.mv rfl ?_))))))
  refine .callQ rfl rfl rfl rfl @Try.call43 rfl (isPreorder_c (hrel := hrel)) ?_
  refine .q rfl (.not rfl) (.nil (t3 _ _ ?_))
  refine .cond rfl (fun o2 => ?_) (fun o2 => ?_)
  ·
   exact absurd o2 (by simp)
  try simp only [sps] at o2
  refine .skip ?_
  refine t2 _ _ (.seq (fun K4 r9 => .region (.mv rfl (.q rfl (.len sl_25_B rfl) (.mv rfl (.nil (r9 _ _ (.seq (fun K5 s1 => .seq (fun K6 s5 => .region (.mv rfl (.q rfl (.cmp rfl rfl rfl) (.nil (s5 _ _ ?_))))))))))))))
  refine .cond rfl (fun q7 => ?_) (fun q7 => ?_)
  ·
   exact absurd q7 (by simp only [sps]; omega)
  try simp only [sps] at q7
  refine .skip ?_
  refine s1 _ _ (.seq (fun K7 t0 => .region (.mv rfl (.q rfl (.build bt_27_Hj rfl rfl rfl) ?_))))
  refine .R rfl (.allocR rfl ze_27_Hj rfl) ?_
  rintro _ H5 ⟨g5, rfl, p5, ge5, s6⟩
  have nx_H5 := p5.1
  replace t := t.trans p5
  replace a9 := p5.2 _ _ a9
  have lt_at5 := GHeap.ltg s6
  replace h := m.mono t
  refine .r0 rfl rfl (.fillA rfl sz_27_D rfl rfl rfl rfl) ?_
  rintro _ H6003 ⟨rfl, j4, d⟩
  have nx_H6003 := j4.nx
  replace t := t.st j4 (fun k hk => ⟨by omega, trivial⟩)
  have a8 : NE g2 g5 := .a
  replace a9 := j4.s a9 a8.ne
  have lt_at6003 := GHeap.ltg d
  replace h := m.mono t
  have c : MemN _ _ _ _ _ := ⟨rfl, Mem.of_get d⟩
  refine .nil (t0 _ _ (.seq (fun K8 r8 => .region ?_)))
  refine .R rfl (.litA rfl sl_61_Ev ze_63_Ev rfl rfl rfl rfl) ?_
  rintro _ H20 ⟨o0, rfl, l1, ge20, f0⟩
  have nx_H20 := l1.1
  replace t := t.trans l1
  replace a9 := l1.2 _ _ a9
  replace d := l1.2 _ _ d
  have lt_at20 := GHeap.ltg f0
  replace h := m.mono t
  clear c
  have c : MemN _ _ _ _ _ := ⟨rfl, Mem.of_get d⟩
  refine .R rfl (.allocR rfl ze_61_Ev rfl) ?_
  rintro _ H6 ⟨g6, rfl, m9, ge6, s0⟩
  have nx_H6 := m9.1
  replace t := t.trans m9
  replace a9 := m9.2 _ _ a9
  replace d := m9.2 _ _ d
  replace f0 := m9.2 _ _ f0
  have lt_at6 := GHeap.ltg s0
  replace h := m.mono t
  clear c
  have c : MemN _ _ _ _ _ := ⟨rfl, Mem.of_get d⟩
  refine .r0 rfl rfl (.storeR rfl sz_61_Ev rfl rfl rfl (by assumption) (by first | exact Nat.le_of_ble_eq_true rfl | (simp; done) | (simp <;> omega))) ?_
  rintro _ n0 ⟨rfl, h1, c4⟩
  have nx_H7002 := h1.nx
  replace t := t.st h1 (fun k hk => ⟨by omega, trivial⟩)
  have c8 : NE g2 g6 := .a
  replace a9 := h1.s a9 c8.ne
  have h4 : NE g5 g6 := .a
  replace d := h1.s d h4.ne
  replace f0 := h1.s f0
  have lt_at7002 := GHeap.ltg c4
  replace h := m.mono t
  clear c
  have c : MemN _ _ _ _ _ := ⟨rfl, Mem.of_get d⟩
  try simp only [Nat.zero_add, List.set_cons_succ, List.set_cons_zero] at c4
  refine .nil (r8 _ _ (.seq (fun K9 s8 => .seq (fun K10 o7 => .region (.mv rfl (.nil (o7 _ _ ?_)))))))
  refine .block ?_
  refine .hold (fun HhF lehF nxhF => ?_)
  obtain ⟨ghF, hghF⟩ : ∃ g, g = GHeap.next n0 := ⟨_, rfl⟩
  have j2 : NO HhF ghF [] 2 0 := NO.start (by omega) rfl rfl
  have nx_HhF := lehF.1
  replace t := t.trans lehF
  replace a9 := lehF.2 _ _ a9
  replace d := lehF.2 _ _ d
  replace f0 := lehF.2 _ _ f0
  replace c4 := lehF.2 _ _ c4
  have lt_no_hF := j2.lt
  replace h := m.mono t
  clear c
  have c : MemN _ _ _ _ _ := ⟨rfl, Mem.of_get d⟩
  refine .hold (fun HhT lehT nxhT => ?_)
  obtain ⟨ghT, hghT⟩ : ∃ g, g = GHeap.next HhF := ⟨_, rfl⟩
  have k4 : NO HhT ghT [] 2 0 := NO.start (by omega) rfl rfl
  have nx_HhT := lehT.1
  replace t := t.trans lehT
  replace a9 := lehT.2 _ _ a9
  replace d := lehT.2 _ _ d
  replace f0 := lehT.2 _ _ f0
  replace c4 := lehT.2 _ _ c4
  replace j2 := j2.le lehT
  have lt_no_hT := k4.lt
  replace h := m.mono t
  clear c
  have c : MemN _ _ _ _ _ := ⟨rfl, Mem.of_get d⟩
  refine .hold (fun HhI lehI nxhI => ?_)
  obtain ⟨ghI, hghI⟩ : ∃ g, g = GHeap.next HhT := ⟨_, rfl⟩
  have n9 : NO HhI ghI [] 2 0 := NO.start (by omega) rfl rfl
  have nx_HhI := lehI.1
  replace t := t.trans lehI
  replace a9 := lehI.2 _ _ a9
  replace d := lehI.2 _ _ d
  replace f0 := lehI.2 _ _ f0
  replace c4 := lehI.2 _ _ c4
  replace j2 := j2.le lehI
  replace k4 := k4.le lehI
  have lt_no_hI := n9.lt
  replace h := m.mono t
  clear c
  have c : MemN _ _ _ _ _ := ⟨rfl, Mem.of_get d⟩
  refine .loopR (σ := Nat × Nat × Nat × Nat × Nat) [(0, some _), (2, some _), (4, some _), (5, some _), (6, some _)] (fun (i, gLA, gLF, gLT, gLI) => [(7, some (.int .i64 (i : Int)))]) (fun (i, gLA, gLF, gLT, gLI) H' => St [o0, g6, ghF, ghT, ghI, g5] HhI H' ∧ H'.get gLA = some (.row ((prs (vP (3 * i)))) 63 true) ∧ PL gLA o0 HhI.next ∧ H'.get g6 = some (.row ([.slice (some ⟨gLA, 0, none⟩) (vP (3 * i)).length (vP (3 * i)).length]) 61 true) ∧ NO H' gLF (ints (vS (3 * i))) 2 ((vP (3 * i)).length) ∧ PL gLF ghF HhI.next ∧ NO H' gLT (ints (vT (3 * i))) 2 ((vP (3 * i)).length) ∧ PL gLT ghT HhI.next ∧ NO H' gLI (ints (vI (3 * i))) 2 ((vI (3 * i)).length) ∧ PL gLI ghI HhI.next ∧ H'.get g5 = some (.row ([.int .i64 (rel.length : Int), .slice (nz (vP (3 * i)).length gLF) (vP (3 * i)).length (vP (3 * i)).length, .slice (nz (vP (3 * i)).length gLT) (vP (3 * i)).length (vP (3 * i)).length, .slice (nz (vI (3 * i)).length gLI) (vI (3 * i)).length (vI (3 * i)).length, .slice none 0 0]) 27 true) ∧ gLA ≠ g6 ∧ gLA ≠ gLF ∧ gLA ≠ gLT ∧ gLA ≠ gLI ∧ gLA ≠ g5 ∧ g6 ≠ gLF ∧ g6 ≠ gLT ∧ g6 ≠ gLI ∧ g6 ≠ g5 ∧ gLF ≠ gLT ∧ gLF ≠ gLI ∧ gLF ≠ g5 ∧ gLT ≠ gLI ∧ gLT ≠ g5 ∧ gLI ≠ g5 ∧ i ≤ 3) (fun (i, gLA, gLF, gLT, gLI) => 3 - i) ((0, o0, ghF, ghT, ghI)) ⟨rfl, rfl, rfl, rfl, rfl, trivial⟩ ⟨rfl, trivial⟩ ?_ ?_
  ·
   refine ⟨.refl _ _, by first | assumption | exact f0 | simpa using f0, ⟨.inl rfl⟩, by first | assumption | exact c4 | simpa using c4, by first | assumption | exact NO.start (by omega) (by first | rfl | (simp; done) | omega) (by first | rfl | (simp; done)), ⟨.inl rfl⟩, by first | assumption | exact NO.start (by omega) (by first | rfl | (simp; done) | omega) (by first | rfl | (simp; done)), ⟨.inl rfl⟩, by first | assumption | exact NO.start (by omega) (by first | rfl | (simp; done) | omega) (by first | rfl | (simp; done)), ⟨.inl rfl⟩, by first | assumption | exact d | simpa using d, by omega, by omega, by omega, by omega, by omega, by omega, by omega, by omega, by omega, by omega, by omega, by omega, by omega, by omega, by omega, ?_⟩
   omega
  rintro ⟨i, gLA, gLF, gLT, gLI⟩ HL1 ⟨y, g4, i1, o, f6, h6, f5, i0, h8, i3, a1, ap1_0, ap1_1, ap1_2, ap1_3, m8, ap1_5, ap1_6, ap1_7, n2, ap1_9, ap1_10, m7, ap1_12, m6, m0, hI⟩ KL1 p6
  refine .forget (fr' := [(7, some (.int .i64 (i : Int))), (0, some _), (2, some _), (4, some _), (5, some _), (6, some _)]) ⟨rfl, rfl, rfl, rfl, rfl, rfl, trivial⟩ ?_
  have ge_LA : H.next ≤ gLA := i1.ge (by omega) (by omega)
  have n6 : H.next ≤ gLF := h6.ge (by omega) (by omega)
  have n3 : H.next ≤ gLT := i0.ge (by omega) (by omega)
  have n7 : H.next ≤ gLI := i3.ge (by omega) (by omega)
  have nx_HL1 := y.nx
  replace t := t.st y (fun k hk => ⟨by omega, by omega, by omega, by omega, by omega, by omega, trivial⟩)
  have e8 : NE g2 o0 := .a
  have f4 : NE g2 ghF := .a
  have e9 : NE g2 ghT := .a
  have e6 : NE g2 ghI := .a
  replace a9 := y.same _ _ ⟨e8.ne, c8.ne, f4.ne, e9.ne, e6.ne, a8.ne, trivial⟩ a9
  have lt_at_LA := GHeap.ltg g4
  have k3 := GHeap.ltg o
  have lt_no_LF := f6.lt
  have lt_no_LT := f5.lt
  have lt_no_LI := h8.lt
  have k2 := GHeap.ltg a1
  replace h := m.mono t
  clear c
  have c : MemN _ _ _ _ _ := ⟨rfl, Mem.of_get d⟩
  refine .seq (fun K11 p9 => .seq (fun K12 p8 => .region (.mv rfl (.mv rfl (.q rfl (.cmp rfl rfl rfl) (.nil (p8 _ _ ?_)))))))
  refine .cond rfl (fun q3 => ?_) (fun q3 => ?_)
  ·
   simp only [sps] at q3
   have e2 := e1 i (by omega)
   refine .skip ?_
   refine p9 _ _ (.seq (fun K13 q0 => ?_))
   refine .block ?_
   refine .seq (fun K14 q2 => .region (.mv rfl (.nil (q2 _ _ ?_))))
   refine .block ?_
   refine .loopR (σ := Nat × Nat × Nat × Nat × Nat) [(0, some _), (2, some _), (4, some _), (5, some _), (6, some _), (7, some _)] (fun (j, d4, d5, d6, e3) => [(8, some (.int .i64 (j : Int)))]) (fun (j, d4, d5, d6, e3) H' => St [gLA, g6, gLF, gLT, gLI, g5] HL1 H' ∧ H'.get d4 = some (.row ((prs (vP (3 * i + j)))) 63 true) ∧ PL d4 gLA HL1.next ∧ H'.get g6 = some (.row ([.slice (some ⟨d4, 0, none⟩) (vP (3 * i + j)).length (vP (3 * i + j)).length]) 61 true) ∧ NO H' d5 (ints (vS (3 * i + j))) 2 ((vP (3 * i + j)).length) ∧ PL d5 gLF HL1.next ∧ NO H' d6 (ints (vT (3 * i + j))) 2 ((vP (3 * i + j)).length) ∧ PL d6 gLT HL1.next ∧ NO H' e3 (ints (vI (3 * i + j))) 2 ((vI (3 * i + j)).length) ∧ PL e3 gLI HL1.next ∧ H'.get g5 = some (.row ([.int .i64 (rel.length : Int), .slice (nz (vP (3 * i + j)).length d5) (vP (3 * i + j)).length (vP (3 * i + j)).length, .slice (nz (vP (3 * i + j)).length d6) (vP (3 * i + j)).length (vP (3 * i + j)).length, .slice (nz (vI (3 * i + j)).length e3) (vI (3 * i + j)).length (vI (3 * i + j)).length, .slice none 0 0]) 27 true) ∧ d4 ≠ g6 ∧ d4 ≠ d5 ∧ d4 ≠ d6 ∧ d4 ≠ e3 ∧ d4 ≠ g5 ∧ g6 ≠ d5 ∧ g6 ≠ d6 ∧ g6 ≠ e3 ∧ g6 ≠ g5 ∧ d5 ≠ d6 ∧ d5 ≠ e3 ∧ d5 ≠ g5 ∧ d6 ≠ e3 ∧ d6 ≠ g5 ∧ e3 ≠ g5 ∧ j ≤ 3) (fun (j, d4, d5, d6, e3) => 3 - j) ((0, gLA, gLF, gLT, gLI)) ⟨rfl, rfl, rfl, rfl, rfl, rfl, trivial⟩ ⟨rfl, trivial⟩ ?_ ?_
   ·
    refine ⟨.refl _ _, by first | assumption | exact g4 | simpa using g4, ⟨.inl rfl⟩, by first | assumption | exact o | simpa using o, by first | assumption | exact NO.start (by omega) (by first | rfl | (simp; done) | omega) (by first | rfl | (simp; done)), ⟨.inl rfl⟩, by first | assumption | exact NO.start (by omega) (by first | rfl | (simp; done) | omega) (by first | rfl | (simp; done)), ⟨.inl rfl⟩, by first | assumption | exact NO.start (by omega) (by first | rfl | (simp; done) | omega) (by first | rfl | (simp; done)), ⟨.inl rfl⟩, by first | assumption | exact a1 | simpa using a1, by omega, by omega, by omega, by omega, by omega, by omega, by omega, by omega, by omega, by omega, by omega, by omega, by omega, by omega, by omega, ?_⟩
    omega
   rintro ⟨j, d4, d5, d6, e3⟩ HL2 ⟨w, c2, j0, o, u, i7, f, i9, z, j6, a1, l2, l9, l5, l6, k5, k1, j9, l4, j3, l3, k6, j5, k8, h2, j7, hI⟩ KL2 m2
   refine .forget (fr' := [(8, some (.int .i64 (j : Int))), (0, some _), (2, some _), (4, some _), (5, some _), (6, some _), (7, some _)]) ⟨rfl, rfl, rfl, rfl, rfl, rfl, rfl, trivial⟩ ?_
   have ge_LA2 : H.next ≤ d4 := j0.ge (by omega) (by omega)
   have ge_LF2 : H.next ≤ d5 := i7.ge (by omega) (by omega)
   have ge_LT2 : H.next ≤ d6 := i9.ge (by omega) (by omega)
   have ge_LI2 : H.next ≤ e3 := j6.ge (by omega) (by omega)
   have nx_HL2 := w.nx
   replace t := t.st w (fun k hk => ⟨by omega, by omega, by omega, by omega, by omega, by omega, trivial⟩)
   replace y := y.st w (fun k hk ho => by simp only [out, and_true] at ho ⊢ <;> exact ⟨by first | exact ho | exact ho.1 | exact ho.2 | exact ho.2.1 | exact ho.2.2 | exact ho.2.2.1 | exact ho.2.2.2 | exact i1.ne (by first | exact ho | exact ho.1 | exact ho.2 | exact ho.2.1 | exact ho.2.2 | exact ho.2.2.1 | exact ho.2.2.2 | omega) (by omega) | omega, by first | exact ho | exact ho.1 | exact ho.2 | exact ho.2.1 | exact ho.2.2 | exact ho.2.2.1 | exact ho.2.2.2 | omega, by first | exact ho | exact ho.1 | exact ho.2 | exact ho.2.1 | exact ho.2.2 | exact ho.2.2.1 | exact ho.2.2.2 | exact h6.ne (by first | exact ho | exact ho.1 | exact ho.2 | exact ho.2.1 | exact ho.2.2 | exact ho.2.2.1 | exact ho.2.2.2 | omega) (by omega) | omega, by first | exact ho | exact ho.1 | exact ho.2 | exact ho.2.1 | exact ho.2.2 | exact ho.2.2.1 | exact ho.2.2.2 | exact i0.ne (by first | exact ho | exact ho.1 | exact ho.2 | exact ho.2.1 | exact ho.2.2 | exact ho.2.2.1 | exact ho.2.2.2 | omega) (by omega) | omega, by first | exact ho | exact ho.1 | exact ho.2 | exact ho.2.1 | exact ho.2.2 | exact ho.2.2.1 | exact ho.2.2.2 | exact i3.ne (by first | exact ho | exact ho.1 | exact ho.2 | exact ho.2.1 | exact ho.2.2 | exact ho.2.2.1 | exact ho.2.2.2 | omega) (by omega) | omega, by first | exact ho | exact ho.1 | exact ho.2 | exact ho.2.1 | exact ho.2.2 | exact ho.2.2.1 | exact ho.2.2.2 | omega⟩)
   have c6 : NE g2 gLA := ⟨i1.ne e8.ne (by omega)⟩
   have c7 : NE g2 gLF := ⟨h6.ne f4.ne (by omega)⟩
   have c9 : NE g2 gLT := ⟨i0.ne e9.ne (by omega)⟩
   have d3 : NE g2 gLI := ⟨i3.ne e6.ne (by omega)⟩
   replace a9 := w.same _ _ ⟨c6.ne, c8.ne, c7.ne, c9.ne, d3.ne, a8.ne, trivial⟩ a9
   have lt_at_LA2 := GHeap.ltg c2
   have k3 := GHeap.ltg o
   have lt_no_LF2 := u.lt
   have lt_no_LT2 := f.lt
   have lt_no_LI2 := z.lt
   have k2 := GHeap.ltg a1
   replace h := m.mono t
   clear c
   have c : MemN _ _ _ _ _ := ⟨rfl, Mem.of_get d⟩
   have hln := vP_le (3 * i + j)
   have hli := vI_le (3 * i + j)
   have htl : (prs (vP (3 * i + j))).length = (vP (3 * i + j)).length * 2 := length_prs _
   have hc0 : (vS (3 * i + j)).length = (vP (3 * i + j)).length := length_vS _
   have hc1 : (vT (3 * i + j)).length = (vP (3 * i + j)).length := length_vT _
   refine .seq (fun K15 o1 => .seq (fun K16 q5 => .region (.mv rfl (.mv rfl (.q rfl (.cmp rfl rfl rfl) (.nil (q5 _ _ ?_)))))))
   refine .cond rfl (fun o8 => ?_) (fun o8 => ?_)
   ·
    simp only [sps] at o8
    have w1 := h.2 i (by omega)
    have w2 := w1.slN rfl
    refine .skip ?_
    refine o1 _ _ (.seq (fun K17 m5 => ?_))
    refine .block ?_
    refine .seq (fun K18 q9 => .seq (fun K19 q6 => .region (.mv rfl (.mv rfl ?_))))
    refine .q rfl (.idxN sl_25_B (Intss.sl (by assumption)) rfl rfl (by omega)) ?_
    refine .q rfl (.loadR on_24_B (by assumption) rfl (by omega)) ?_
    refine .mv rfl ?_
    refine .q rfl (.idxN sl_24_A (by assumption) rfl rfl (by omega)) ?_
    refine .q rfl (.loadI on_2_A (by assumption) rfl (by omega)) ?_
    refine .q rfl (.cmp rfl rfl rfl) (.nil (q6 _ _ ?_))
    refine .cond rfl (fun m1 => ?_) (fun m1 => ?_)
    ·
     simp only [sps] at m1
     rw [hrel] at m1
     obtain ⟨eP, eS, eT, eI⟩ := vee_F (i := i) (j := j) (by omega) (by omega) m1
     have eL : (vP (3 * i + (j + 1))).length = (vP (3 * i + j)).length := by rw [eP]
     have eJ : (vI (3 * i + (j + 1))).length = (vI (3 * i + j)).length := by rw [eI]
     refine .exit ?_
     refine m5 _ _ (.region (.mv rfl ?_))
     refine .q rfl (.add rfl rfl rfl (by omega) (by omega)) ?_
     refine .mv rfl (.nil ?_)
     refine m2 ((j + 1, d4, d5, d6, e3)) _ _ ?_ ?_ ⟨rfl, rfl, rfl, rfl, rfl, rfl, rfl, trivial⟩
     ·
      refine ⟨w, by first | assumption | (rw [eL]; assumption) | (rw [eS]; assumption) | (rw [eT]; assumption) | (rw [eI]; assumption) | (rw [eP]; assumption) | (rw [eP, prs_snoc]; assumption) | (rw [eL, eJ]; assumption) | (rw [eJ]; assumption) | (rw [eL, eS]; assumption) | (rw [eL, eT]; assumption) | (rw [eJ, eI]; assumption), by first | assumption | exact ⟨.inr (by omega)⟩ | exact ⟨.inl rfl⟩, by first | assumption | (rw [eL]; assumption) | (rw [eS]; assumption) | (rw [eT]; assumption) | (rw [eI]; assumption) | (rw [eP]; assumption) | (rw [eP, prs_snoc]; assumption) | (rw [eL, eJ]; assumption) | (rw [eJ]; assumption) | (rw [eL, eS]; assumption) | (rw [eL, eT]; assumption) | (rw [eJ, eI]; assumption), by first | (first | assumption | (rw [eL]; assumption) | (rw [eS]; assumption) | (rw [eT]; assumption) | (rw [eI]; assumption) | (rw [eP]; assumption) | (rw [eP, prs_snoc]; assumption) | (rw [eL, eJ]; assumption) | (rw [eJ]; assumption) | (rw [eL, eS]; assumption) | (rw [eL, eT]; assumption) | (rw [eJ, eI]; assumption)) | exact NO.of (by first | assumption | (rw [eL]; assumption) | (rw [eS]; assumption) | (rw [eT]; assumption) | (rw [eI]; assumption) | (rw [eP]; assumption) | (rw [eP, prs_snoc]; assumption) | (rw [eL, eJ]; assumption) | (rw [eJ]; assumption) | (rw [eL, eS]; assumption) | (rw [eL, eT]; assumption) | (rw [eJ, eI]; assumption)) (by omega), by first | assumption | exact ⟨.inr (by omega)⟩ | exact ⟨.inl rfl⟩, by first | (first | assumption | (rw [eL]; assumption) | (rw [eS]; assumption) | (rw [eT]; assumption) | (rw [eI]; assumption) | (rw [eP]; assumption) | (rw [eP, prs_snoc]; assumption) | (rw [eL, eJ]; assumption) | (rw [eJ]; assumption) | (rw [eL, eS]; assumption) | (rw [eL, eT]; assumption) | (rw [eJ, eI]; assumption)) | exact NO.of (by first | assumption | (rw [eL]; assumption) | (rw [eS]; assumption) | (rw [eT]; assumption) | (rw [eI]; assumption) | (rw [eP]; assumption) | (rw [eP, prs_snoc]; assumption) | (rw [eL, eJ]; assumption) | (rw [eJ]; assumption) | (rw [eL, eS]; assumption) | (rw [eL, eT]; assumption) | (rw [eJ, eI]; assumption)) (by omega), by first | assumption | exact ⟨.inr (by omega)⟩ | exact ⟨.inl rfl⟩, by first | (first | assumption | (rw [eL]; assumption) | (rw [eS]; assumption) | (rw [eT]; assumption) | (rw [eI]; assumption) | (rw [eP]; assumption) | (rw [eP, prs_snoc]; assumption) | (rw [eL, eJ]; assumption) | (rw [eJ]; assumption) | (rw [eL, eS]; assumption) | (rw [eL, eT]; assumption) | (rw [eJ, eI]; assumption)) | exact NO.of (by first | assumption | (rw [eL]; assumption) | (rw [eS]; assumption) | (rw [eT]; assumption) | (rw [eI]; assumption) | (rw [eP]; assumption) | (rw [eP, prs_snoc]; assumption) | (rw [eL, eJ]; assumption) | (rw [eJ]; assumption) | (rw [eL, eS]; assumption) | (rw [eL, eT]; assumption) | (rw [eJ, eI]; assumption)) (by omega), by first | assumption | exact ⟨.inr (by omega)⟩ | exact ⟨.inl rfl⟩, by first | assumption | (rw [eL]; assumption) | (rw [eS]; assumption) | (rw [eT]; assumption) | (rw [eI]; assumption) | (rw [eP]; assumption) | (rw [eP, prs_snoc]; assumption) | (rw [eL, eJ]; assumption) | (rw [eJ]; assumption) | (rw [eL, eS]; assumption) | (rw [eL, eT]; assumption) | (rw [eJ, eI]; assumption), by first | assumption | omega, by first | assumption | omega, by first | assumption | omega, by first | assumption | omega, by first | assumption | omega, by first | assumption | omega, by first | assumption | omega, by first | assumption | omega, by first | assumption | omega, by first | assumption | omega, by first | assumption | omega, by first | assumption | omega, by first | assumption | omega, by first | assumption | omega, by first | assumption | omega, ?_⟩
      omega
     (dsimp only; omega)
    simp only [sps] at m1
    rw [hrel] at m1
    obtain ⟨eP, eS, eT⟩ := vee_T (i := i) (j := j) (by omega) (by omega) m1
    have eL : (vP (3 * i + (j + 1))).length = (vP (3 * i + j)).length + 1 := by rw [eP, List.length_append]; rfl
    refine .skip ?_
    refine q9 _ _ (.seq (fun K20 n5 => .seq (fun K21 o3 => .region (.mv rfl (.mv rfl (.q rfl (.cmp rfl rfl rfl) (.nil (o3 _ _ ?_))))))))
    refine .cond rfl (fun p2 => ?_) (fun p2 => ?_)
    ·
     simp only [sps] at p2
     have eIJ : i = j := by omega
     have eI : vI (3 * i + (j + 1)) = vI (3 * i + j) ++ [((vP (3 * i + j)).length : Int)] := by rw [← eIJ]; exact vee_I (by omega)
     have eJ : (vI (3 * i + (j + 1))).length = (vI (3 * i + j)).length + 1 := by rw [eI, List.length_append]; rfl
     refine .region (.q rfl (.fieldAddr fo_27_3_B rfl) ?_)
     refine .q rfl (.load on_24_B rfl (by first | assumption | exact Mem.of_get a1 3 _ rfl)) ?_
     refine .q rfl (.load on_61_Ev rfl (by first | assumption | exact Mem.of_get o 0 _ rfl)) ?_
     refine .q rfl (.len sl_61_Ev rfl) ?_
     refine .R rfl (.litA rfl sl_24_A ze_2_Pa rfl rfl rfl rfl) ?_
     rintro _ H46 ⟨s4, rfl, h3, ge46, b9⟩
     have nx_H46 := h3.1
     replace t := t.trans h3
     replace y := y.le h3
     replace w := w.le h3
     replace a9 := h3.2 _ _ a9
     replace c2 := h3.2 _ _ c2
     replace o := h3.2 _ _ o
     replace u := u.le h3
     replace f := f.le h3
     replace z := z.le h3
     replace a1 := h3.2 _ _ a1
     have lt_at46 := GHeap.ltg b9
     replace h := m.mono t
     clear c
     have c : MemN _ _ _ _ _ := ⟨rfl, Mem.of_get d⟩
     refine .R rfl (.appendNOI rfl sl_24_A ze_2_Pa rfl by_2_Pa sl_24_A rfl rfl z (by assumption) (by first | omega | (simp <;> omega)) (by omega) (by omega)) ?_
     rintro _ H47 ⟨r5, rfl, h0, ge47, c5⟩
     have nx_H47 := h0.nx
     replace t := t.st h0 (fun k hk => ⟨by omega, trivial⟩)
     replace y := y.sQ h0
     replace w := w.sQ h0
     replace a9 := h0.same _ _ ⟨(j6.ne d3.ne (by omega)), trivial⟩ a9
     replace c2 := h0.same _ _ ⟨l6, trivial⟩ c2
     replace o := h0.same _ _ ⟨l4, trivial⟩ o
     replace u := u.st h0 ⟨k6, trivial⟩
     replace f := f.st h0 ⟨k8, trivial⟩
     replace a1 := h0.same _ _ ⟨(Ne.symm j7), trivial⟩ a1
     replace b9 := h0.s b9
     have lt_at47 := GHeap.ltg c5
     replace h := m.mono t
     clear c
     have c : MemN _ _ _ _ _ := ⟨rfl, Mem.of_get d⟩
     refine .q rfl (.fieldAddr fo_27_3_B rfl) ?_
     refine .r0 rfl rfl (.storeR rfl sz_24_Tb rfl rfl rfl (by assumption) (by first | exact Nat.le_of_ble_eq_true rfl | (simp; done) | (simp <;> omega))) ?_
     rintro _ H16007 ⟨rfl, b2, a7⟩
     have nx_H16007 := b2.nx
     replace t := t.st b2 (fun k hk => ⟨by omega, trivial⟩)
     replace y := y.sA b2
     replace w := w.sA b2
     replace a9 := b2.s a9 a8.ne
     replace c2 := b2.same _ _ ⟨k5, trivial⟩ c2
     replace o := b2.same _ _ ⟨j3, trivial⟩ o
     replace u := u.st b2 ⟨j5, trivial⟩
     replace f := f.st b2 ⟨h2, trivial⟩
     have f2 : NE s4 g5 := .a
     replace b9 := b2.s b9 f2.ne
     have f3 : NE r5 g5 := .a
     replace c5 := b2.s c5 f3.ne
     have lt_at16007 := GHeap.ltg a7
     replace h := m.mono t
     clear c
     have c : MemN _ _ _ _ _ := ⟨rfl, Mem.of_get d⟩
     try simp only [Nat.zero_add, List.set_cons_succ, List.set_cons_zero] at a7
     refine .nil (n5 _ _ (.seq (fun K22 p4 => .region ?_)))
     refine .q rfl (.load on_61_Ev rfl (by first | assumption | exact Mem.of_get o 0 _ rfl)) ?_
     refine .mv rfl (.mv rfl (.q rfl (.build bt_63_Ev rfl rfl rfl) ?_))
     refine .R rfl (.litA rfl sl_61_Ev ze_63_Ev rfl rfl rfl rfl) ?_
     rintro _ H53 ⟨s2, rfl, g8, ge53, d2⟩
     have nx_H53 := g8.1
     replace t := t.trans g8
     replace y := y.le g8
     replace w := w.le g8
     replace a9 := g8.2 _ _ a9
     replace c2 := g8.2 _ _ c2
     replace o := g8.2 _ _ o
     replace u := u.le g8
     replace f := f.le g8
     replace b9 := g8.2 _ _ b9
     replace c5 := g8.2 _ _ c5
     replace a7 := g8.2 _ _ a7
     have lt_at53 := GHeap.ltg d2
     replace h := m.mono t
     clear c
     have c : MemN _ _ _ _ _ := ⟨rfl, Mem.of_get d⟩
     refine .R rfl (.appendV rfl sl_61_Ev ze_63_Ev rfl by_63_Ev sl_61_Ev rfl rfl (by assumption) (by assumption) (by first | omega | (simp <;> omega)) rfl rfl (by omega) (by omega)) ?_
     rintro _ H54 ⟨r2, rfl, g7, ge54, d9⟩
     have nx_H54 := g7.nx
     replace t := t.st g7 (fun k hk => ⟨by omega, trivial⟩)
     replace y := y.sQ g7
     replace w := w.sQ g7
     have d8 : NE g2 d4 := ⟨j0.ne c6.ne (by omega)⟩
     replace a9 := g7.s a9 d8.ne
     replace o := g7.same _ _ ⟨(Ne.symm l2), trivial⟩ o
     replace u := u.st g7 ⟨(Ne.symm l9), trivial⟩
     replace f := f.st g7 ⟨(Ne.symm l5), trivial⟩
     replace b9 := g7.s b9
     replace c5 := g7.s c5
     replace a7 := g7.same _ _ ⟨(Ne.symm k5), trivial⟩ a7
     replace d2 := g7.s d2
     have lt_at54 := GHeap.ltg d9
     replace h := m.mono t
     clear c
     have c : MemN _ _ _ _ _ := ⟨rfl, Mem.of_get d⟩
     refine .r0 rfl rfl (.storeR rfl sz_61_Ev rfl rfl rfl (by assumption) (by first | exact Nat.le_of_ble_eq_true rfl | (simp; done) | (simp <;> omega))) ?_
     rintro _ H17006 ⟨rfl, b0, a3⟩
     have nx_H17006 := b0.nx
     replace t := t.st b0 (fun k hk => ⟨by omega, trivial⟩)
     replace y := y.sA b0
     replace w := w.sA b0
     replace a9 := b0.s a9 c8.ne
     replace u := u.st b0 ⟨(Ne.symm k1), trivial⟩
     replace f := f.st b0 ⟨(Ne.symm j9), trivial⟩
     replace b9 := b0.s b9
     replace c5 := b0.s c5
     replace a7 := b0.s a7 h4.ne
     replace d2 := b0.s d2
     replace d9 := b0.s d9
     have lt_at17006 := GHeap.ltg a3
     replace h := m.mono t
     clear c
     have c : MemN _ _ _ _ _ := ⟨rfl, Mem.of_get d⟩
     try simp only [Nat.zero_add, List.set_cons_succ, List.set_cons_zero] at a3
     refine .nil (p4 _ _ (.seq (fun K23 p0 => .region (.q rfl (.fieldAddr fo_27_1_B rfl) ?_))))
     refine .q rfl (.load on_24_B rfl (by first | assumption | exact Mem.of_get a7 1 _ rfl)) ?_
     refine .mv rfl ?_
     refine .R rfl (.litA rfl sl_24_A ze_2_Pa rfl rfl rfl rfl) ?_
     rintro _ H58 ⟨s3, rfl, e7, ge58, g9⟩
     have nx_H58 := e7.1
     replace t := t.trans e7
     replace y := y.le e7
     replace w := w.le e7
     replace a9 := e7.2 _ _ a9
     replace u := u.le e7
     replace f := f.le e7
     replace b9 := e7.2 _ _ b9
     replace c5 := e7.2 _ _ c5
     replace a7 := e7.2 _ _ a7
     replace d2 := e7.2 _ _ d2
     replace d9 := e7.2 _ _ d9
     replace a3 := e7.2 _ _ a3
     have lt_at58 := GHeap.ltg g9
     replace h := m.mono t
     clear c
     have c : MemN _ _ _ _ _ := ⟨rfl, Mem.of_get d⟩
     refine .R rfl (.appendNOI rfl sl_24_A ze_2_Pa rfl by_2_Pa sl_24_A rfl rfl u (by assumption) (by first | omega | (simp <;> omega)) (by omega) (by omega)) ?_
     rintro _ H59 ⟨r6, rfl, f1, ge59, i6⟩
     have nx_H59 := f1.nx
     replace t := t.st f1 (fun k hk => ⟨by omega, trivial⟩)
     replace y := y.sQ f1
     replace w := w.sQ f1
     have d7 : NE g2 d5 := ⟨i7.ne c7.ne (by omega)⟩
     replace a9 := f1.s a9 d7.ne
     replace f := f.st f1 ⟨(Ne.symm l3), trivial⟩
     replace b9 := f1.s b9
     replace c5 := f1.s c5
     replace a7 := f1.same _ _ ⟨(Ne.symm j5), trivial⟩ a7
     replace d2 := f1.s d2
     replace d9 := f1.s d9
     replace a3 := f1.same _ _ ⟨k1, trivial⟩ a3
     replace g9 := f1.s g9
     have lt_at59 := GHeap.ltg i6
     replace h := m.mono t
     clear c
     have c : MemN _ _ _ _ _ := ⟨rfl, Mem.of_get d⟩
     refine .q rfl (.fieldAddr fo_27_1_B rfl) ?_
     refine .r0 rfl rfl (.storeR rfl sz_24_Tb rfl rfl rfl (by assumption) (by first | exact Nat.le_of_ble_eq_true rfl | (simp; done) | (simp <;> omega))) ?_
     rintro _ H18006 ⟨rfl, a6, d1⟩
     have nx_H18006 := a6.nx
     replace t := t.st a6 (fun k hk => ⟨by omega, trivial⟩)
     replace y := y.sA a6
     replace w := w.sA a6
     replace a9 := a6.s a9 a8.ne
     replace f := f.st a6 ⟨h2, trivial⟩
     replace b9 := a6.s b9 f2.ne
     replace c5 := a6.s c5 f3.ne
     have i4 : NE s2 g5 := .a
     replace d2 := a6.s d2 i4.ne
     have h7 : NE r2 g5 := .a
     replace d9 := a6.s d9 h7.ne
     replace a3 := a6.same _ _ ⟨j3, trivial⟩ a3
     have i2 : NE s3 g5 := .a
     replace g9 := a6.s g9 i2.ne
     have i5 : NE r6 g5 := .a
     replace i6 := a6.s i6 i5.ne
     have lt_at18006 := GHeap.ltg d1
     replace h := m.mono t
     clear c
     have c : MemN _ _ _ _ _ := ⟨rfl, Mem.of_get d⟩
     try simp only [Nat.zero_add, List.set_cons_succ, List.set_cons_zero] at d1
     refine .nil (p0 _ _ (.region (.q rfl (.fieldAddr fo_27_2_B rfl) ?_)))
     refine .q rfl (.load on_24_B rfl (by first | assumption | exact Mem.of_get d1 2 _ rfl)) ?_
     refine .mv rfl ?_
     refine .R rfl (.litA rfl sl_24_A ze_2_Pa rfl rfl rfl rfl) ?_
     rintro _ H64 ⟨g64, rfl, e4, ge64, k7⟩
     have nx_H64 := e4.1
     replace t := t.trans e4
     replace y := y.le e4
     replace w := w.le e4
     replace a9 := e4.2 _ _ a9
     replace f := f.le e4
     replace b9 := e4.2 _ _ b9
     replace c5 := e4.2 _ _ c5
     replace d2 := e4.2 _ _ d2
     replace d9 := e4.2 _ _ d9
     replace a3 := e4.2 _ _ a3
     replace g9 := e4.2 _ _ g9
     replace i6 := e4.2 _ _ i6
     replace d1 := e4.2 _ _ d1
     have lt_at64 := GHeap.ltg k7
     replace h := m.mono t
     clear c
     have c : MemN _ _ _ _ _ := ⟨rfl, Mem.of_get d⟩
     refine .R rfl (.appendNOI rfl sl_24_A ze_2_Pa rfl by_2_Pa sl_24_A rfl rfl f (by assumption) (by first | omega | (simp <;> omega)) (by omega) (by omega)) ?_
     rintro _ H65 ⟨s7, rfl, e5, ge65, m4⟩
     have nx_H65 := e5.nx
     replace t := t.st e5 (fun k hk => ⟨by omega, trivial⟩)
     replace y := y.sQ e5
     replace w := w.sQ e5
     have e0 : NE g2 d6 := ⟨i9.ne c9.ne (by omega)⟩
     replace a9 := e5.s a9 e0.ne
     replace b9 := e5.s b9
     replace c5 := e5.s c5
     replace d2 := e5.s d2
     replace d9 := e5.s d9
     replace a3 := e5.same _ _ ⟨j9, trivial⟩ a3
     replace g9 := e5.s g9
     replace i6 := e5.s i6
     replace d1 := e5.same _ _ ⟨(Ne.symm h2), trivial⟩ d1
     replace k7 := e5.s k7
     have lt_at65 := GHeap.ltg m4
     replace h := m.mono t
     clear c
     have c : MemN _ _ _ _ _ := ⟨rfl, Mem.of_get d⟩
     refine .q rfl (.fieldAddr fo_27_2_B rfl) ?_
     refine .r0 rfl rfl (.storeR rfl sz_24_Tb rfl rfl rfl (by assumption) (by first | exact Nat.le_of_ble_eq_true rfl | (simp; done) | (simp <;> omega))) ?_
     rintro _ H19006 ⟨rfl, a4, k0⟩
     have nx_H19006 := a4.nx
     replace t := t.st a4 (fun k hk => ⟨by omega, trivial⟩)
     replace y := y.sA a4
     replace w := w.sA a4
     replace a9 := a4.s a9 a8.ne
     replace b9 := a4.s b9 f2.ne
     replace c5 := a4.s c5 f3.ne
     replace d2 := a4.s d2 i4.ne
     replace d9 := a4.s d9 h7.ne
     replace a3 := a4.same _ _ ⟨j3, trivial⟩ a3
     replace g9 := a4.s g9 i2.ne
     replace i6 := a4.s i6 i5.ne
     replace k7 := a4.s k7
     replace m4 := a4.s m4
     have lt_at19006 := GHeap.ltg k0
     replace h := m.mono t
     clear c
     have c : MemN _ _ _ _ _ := ⟨rfl, Mem.of_get d⟩
     try simp only [Nat.zero_add, List.set_cons_succ, List.set_cons_zero] at k0
     refine .nil (m5 _ _ (.region (.mv rfl ?_)))
     refine .q rfl (.add rfl rfl rfl (by omega) (by omega)) ?_
     refine .mv rfl (.nil ?_)
     refine m2 ((j + 1, r2, r6, s7, r5)) _ _ ?_ ?_ ⟨rfl, rfl, rfl, rfl, rfl, rfl, rfl, trivial⟩
     ·
      refine ⟨w, by first | assumption | (rw [eL]; assumption) | (rw [eS]; assumption) | (rw [eT]; assumption) | (rw [eI]; assumption) | (rw [eP]; assumption) | (rw [eP, prs_snoc]; assumption) | (rw [eL, eJ]; assumption) | (rw [eJ]; assumption) | (rw [eL, eS]; assumption) | (rw [eL, eT]; assumption) | (rw [eJ, eI]; assumption), by first | assumption | exact ⟨.inr (by omega)⟩ | exact ⟨.inl rfl⟩, by first | assumption | (rw [eL]; assumption) | (rw [eS]; assumption) | (rw [eT]; assumption) | (rw [eI]; assumption) | (rw [eP]; assumption) | (rw [eP, prs_snoc]; assumption) | (rw [eL, eJ]; assumption) | (rw [eJ]; assumption) | (rw [eL, eS]; assumption) | (rw [eL, eT]; assumption) | (rw [eJ, eI]; assumption), by first | (first | assumption | (rw [eL]; assumption) | (rw [eS]; assumption) | (rw [eT]; assumption) | (rw [eI]; assumption) | (rw [eP]; assumption) | (rw [eP, prs_snoc]; assumption) | (rw [eL, eJ]; assumption) | (rw [eJ]; assumption) | (rw [eL, eS]; assumption) | (rw [eL, eT]; assumption) | (rw [eJ, eI]; assumption)) | exact NO.of (by first | assumption | (rw [eL]; assumption) | (rw [eS]; assumption) | (rw [eT]; assumption) | (rw [eI]; assumption) | (rw [eP]; assumption) | (rw [eP, prs_snoc]; assumption) | (rw [eL, eJ]; assumption) | (rw [eJ]; assumption) | (rw [eL, eS]; assumption) | (rw [eL, eT]; assumption) | (rw [eJ, eI]; assumption)) (by omega), by first | assumption | exact ⟨.inr (by omega)⟩ | exact ⟨.inl rfl⟩, by first | (first | assumption | (rw [eL]; assumption) | (rw [eS]; assumption) | (rw [eT]; assumption) | (rw [eI]; assumption) | (rw [eP]; assumption) | (rw [eP, prs_snoc]; assumption) | (rw [eL, eJ]; assumption) | (rw [eJ]; assumption) | (rw [eL, eS]; assumption) | (rw [eL, eT]; assumption) | (rw [eJ, eI]; assumption)) | exact NO.of (by first | assumption | (rw [eL]; assumption) | (rw [eS]; assumption) | (rw [eT]; assumption) | (rw [eI]; assumption) | (rw [eP]; assumption) | (rw [eP, prs_snoc]; assumption) | (rw [eL, eJ]; assumption) | (rw [eJ]; assumption) | (rw [eL, eS]; assumption) | (rw [eL, eT]; assumption) | (rw [eJ, eI]; assumption)) (by omega), by first | assumption | exact ⟨.inr (by omega)⟩ | exact ⟨.inl rfl⟩, by first | (first | assumption | (rw [eL]; assumption) | (rw [eS]; assumption) | (rw [eT]; assumption) | (rw [eI]; assumption) | (rw [eP]; assumption) | (rw [eP, prs_snoc]; assumption) | (rw [eL, eJ]; assumption) | (rw [eJ]; assumption) | (rw [eL, eS]; assumption) | (rw [eL, eT]; assumption) | (rw [eJ, eI]; assumption)) | exact NO.of (by first | assumption | (rw [eL]; assumption) | (rw [eS]; assumption) | (rw [eT]; assumption) | (rw [eI]; assumption) | (rw [eP]; assumption) | (rw [eP, prs_snoc]; assumption) | (rw [eL, eJ]; assumption) | (rw [eJ]; assumption) | (rw [eL, eS]; assumption) | (rw [eL, eT]; assumption) | (rw [eJ, eI]; assumption)) (by omega), by first | assumption | exact ⟨.inr (by omega)⟩ | exact ⟨.inl rfl⟩, by first | assumption | (rw [eL]; assumption) | (rw [eS]; assumption) | (rw [eT]; assumption) | (rw [eI]; assumption) | (rw [eP]; assumption) | (rw [eP, prs_snoc]; assumption) | (rw [eL, eJ]; assumption) | (rw [eJ]; assumption) | (rw [eL, eS]; assumption) | (rw [eL, eT]; assumption) | (rw [eJ, eI]; assumption), by first | assumption | omega, by first | assumption | omega, by first | assumption | omega, by first | assumption | omega, by first | assumption | omega, by first | assumption | omega, by first | assumption | omega, by first | assumption | omega, by first | assumption | omega, by first | assumption | omega, by first | assumption | omega, by first | assumption | omega, by first | assumption | omega, by first | assumption | omega, by first | assumption | omega, ?_⟩
      omega
     (dsimp only; omega)
    simp only [sps] at p2
    have eI : vI (3 * i + (j + 1)) = vI (3 * i + j) := vee_N (by omega) (by omega) (by omega)
    have eJ : (vI (3 * i + (j + 1))).length = (vI (3 * i + j)).length := by rw [eI]
    refine .skip ?_
    refine n5 _ _ (.seq (fun K24 o9 => .region ?_))
    refine .q rfl (.load on_61_Ev rfl (by first | assumption | exact Mem.of_get o 0 _ rfl)) ?_
    refine .mv rfl (.mv rfl (.q rfl (.build bt_63_Ev rfl rfl rfl) ?_))
    refine .R rfl (.litA rfl sl_61_Ev ze_63_Ev rfl rfl rfl rfl) ?_
    rintro _ H53x2 ⟨n8, rfl, c3, ge53x2, a5⟩
    have nx_H53x2 := c3.1
    replace t := t.trans c3
    replace y := y.le c3
    replace w := w.le c3
    replace a9 := c3.2 _ _ a9
    replace c2 := c3.2 _ _ c2
    replace o := c3.2 _ _ o
    replace u := u.le c3
    replace f := f.le c3
    replace z := z.le c3
    replace a1 := c3.2 _ _ a1
    have lt_at53x2 := GHeap.ltg a5
    replace h := m.mono t
    clear c
    have c : MemN _ _ _ _ _ := ⟨rfl, Mem.of_get d⟩
    refine .R rfl (.appendV rfl sl_61_Ev ze_63_Ev rfl by_63_Ev sl_61_Ev rfl rfl (by assumption) (by assumption) (by first | omega | (simp <;> omega)) rfl rfl (by omega) (by omega)) ?_
    rintro _ H54x2 ⟨l8, rfl, c1, ge54x2, b1⟩
    have nx_H54x2 := c1.nx
    replace t := t.st c1 (fun k hk => ⟨by omega, trivial⟩)
    replace y := y.sQ c1
    replace w := w.sQ c1
    have d8 : NE g2 d4 := ⟨j0.ne c6.ne (by omega)⟩
    replace a9 := c1.s a9 d8.ne
    replace o := c1.same _ _ ⟨(Ne.symm l2), trivial⟩ o
    replace u := u.st c1 ⟨(Ne.symm l9), trivial⟩
    replace f := f.st c1 ⟨(Ne.symm l5), trivial⟩
    replace z := z.st c1 ⟨(Ne.symm l6), trivial⟩
    replace a1 := c1.same _ _ ⟨(Ne.symm k5), trivial⟩ a1
    replace a5 := c1.s a5
    have lt_at54x2 := GHeap.ltg b1
    replace h := m.mono t
    clear c
    have c : MemN _ _ _ _ _ := ⟨rfl, Mem.of_get d⟩
    refine .r0 rfl rfl (.storeR rfl sz_61_Ev rfl rfl rfl (by assumption) (by first | exact Nat.le_of_ble_eq_true rfl | (simp; done) | (simp <;> omega))) ?_
    rintro _ H17006x2 ⟨rfl, a2, p⟩
    have nx_H17006x2 := a2.nx
    replace t := t.st a2 (fun k hk => ⟨by omega, trivial⟩)
    replace y := y.sA a2
    replace w := w.sA a2
    replace a9 := a2.s a9 c8.ne
    replace u := u.st a2 ⟨(Ne.symm k1), trivial⟩
    replace f := f.st a2 ⟨(Ne.symm j9), trivial⟩
    replace z := z.st a2 ⟨(Ne.symm l4), trivial⟩
    replace a1 := a2.s a1 h4.ne
    replace a5 := a2.s a5
    replace b1 := a2.s b1
    have lt_at17006x2 := GHeap.ltg p
    replace h := m.mono t
    clear c
    have c : MemN _ _ _ _ _ := ⟨rfl, Mem.of_get d⟩
    try simp only [Nat.zero_add, List.set_cons_succ, List.set_cons_zero] at p
    refine .nil (o9 _ _ (.seq (fun K25 o5 => .region (.q rfl (.fieldAddr fo_27_1_B rfl) ?_))))
    refine .q rfl (.load on_24_B rfl (by first | assumption | exact Mem.of_get a1 1 _ rfl)) ?_
    refine .mv rfl ?_
    refine .R rfl (.litA rfl sl_24_A ze_2_Pa rfl rfl rfl rfl) ?_
    rintro _ H58x2 ⟨n4, rfl, b7, ge58x2, c0⟩
    have nx_H58x2 := b7.1
    replace t := t.trans b7
    replace y := y.le b7
    replace w := w.le b7
    replace a9 := b7.2 _ _ a9
    replace u := u.le b7
    replace f := f.le b7
    replace z := z.le b7
    replace a1 := b7.2 _ _ a1
    replace a5 := b7.2 _ _ a5
    replace b1 := b7.2 _ _ b1
    replace p := b7.2 _ _ p
    have lt_at58x2 := GHeap.ltg c0
    replace h := m.mono t
    clear c
    have c : MemN _ _ _ _ _ := ⟨rfl, Mem.of_get d⟩
    refine .R rfl (.appendNOI rfl sl_24_A ze_2_Pa rfl by_2_Pa sl_24_A rfl rfl u (by assumption) (by first | omega | (simp <;> omega)) (by omega) (by omega)) ?_
    rintro _ H59x2 ⟨l7, rfl, b6, ge59x2, d0⟩
    have nx_H59x2 := b6.nx
    replace t := t.st b6 (fun k hk => ⟨by omega, trivial⟩)
    replace y := y.sQ b6
    replace w := w.sQ b6
    have d7 : NE g2 d5 := ⟨i7.ne c7.ne (by omega)⟩
    replace a9 := b6.s a9 d7.ne
    replace f := f.st b6 ⟨(Ne.symm l3), trivial⟩
    replace z := z.st b6 ⟨(Ne.symm k6), trivial⟩
    replace a1 := b6.same _ _ ⟨(Ne.symm j5), trivial⟩ a1
    replace a5 := b6.s a5
    replace b1 := b6.s b1
    replace p := b6.same _ _ ⟨k1, trivial⟩ p
    replace c0 := b6.s c0
    have lt_at59x2 := GHeap.ltg d0
    replace h := m.mono t
    clear c
    have c : MemN _ _ _ _ _ := ⟨rfl, Mem.of_get d⟩
    refine .q rfl (.fieldAddr fo_27_1_B rfl) ?_
    refine .r0 rfl rfl (.storeR rfl sz_24_Tb rfl rfl rfl (by assumption) (by first | exact Nat.le_of_ble_eq_true rfl | (simp; done) | (simp <;> omega))) ?_
    rintro _ H18006x2 ⟨rfl, a0, b3⟩
    have nx_H18006x2 := a0.nx
    replace t := t.st a0 (fun k hk => ⟨by omega, trivial⟩)
    replace y := y.sA a0
    replace w := w.sA a0
    replace a9 := a0.s a9 a8.ne
    replace f := f.st a0 ⟨h2, trivial⟩
    replace z := z.st a0 ⟨j7, trivial⟩
    have f8 : NE n8 g5 := .a
    replace a5 := a0.s a5 f8.ne
    have g0 : NE l8 g5 := .a
    replace b1 := a0.s b1 g0.ne
    replace p := a0.same _ _ ⟨j3, trivial⟩ p
    have f7 : NE n4 g5 := .a
    replace c0 := a0.s c0 f7.ne
    have f9 : NE l7 g5 := .a
    replace d0 := a0.s d0 f9.ne
    have lt_at18006x2 := GHeap.ltg b3
    replace h := m.mono t
    clear c
    have c : MemN _ _ _ _ _ := ⟨rfl, Mem.of_get d⟩
    try simp only [Nat.zero_add, List.set_cons_succ, List.set_cons_zero] at b3
    refine .nil (o5 _ _ (.region (.q rfl (.fieldAddr fo_27_2_B rfl) ?_)))
    refine .q rfl (.load on_24_B rfl (by first | assumption | exact Mem.of_get b3 2 _ rfl)) ?_
    refine .mv rfl ?_
    refine .R rfl (.litA rfl sl_24_A ze_2_Pa rfl rfl rfl rfl) ?_
    rintro _ H64x2 ⟨g64x2, rfl, b4, ge64x2, h5⟩
    have nx_H64x2 := b4.1
    replace t := t.trans b4
    replace y := y.le b4
    replace w := w.le b4
    replace a9 := b4.2 _ _ a9
    replace f := f.le b4
    replace z := z.le b4
    replace a5 := b4.2 _ _ a5
    replace b1 := b4.2 _ _ b1
    replace p := b4.2 _ _ p
    replace c0 := b4.2 _ _ c0
    replace d0 := b4.2 _ _ d0
    replace b3 := b4.2 _ _ b3
    have lt_at64x2 := GHeap.ltg h5
    replace h := m.mono t
    clear c
    have c : MemN _ _ _ _ _ := ⟨rfl, Mem.of_get d⟩
    refine .R rfl (.appendNOI rfl sl_24_A ze_2_Pa rfl by_2_Pa sl_24_A rfl rfl f (by assumption) (by first | omega | (simp <;> omega)) (by omega) (by omega)) ?_
    rintro _ H65x2 ⟨n1, rfl, b5, ge65x2, j8⟩
    have nx_H65x2 := b5.nx
    replace t := t.st b5 (fun k hk => ⟨by omega, trivial⟩)
    replace y := y.sQ b5
    replace w := w.sQ b5
    have e0 : NE g2 d6 := ⟨i9.ne c9.ne (by omega)⟩
    replace a9 := b5.s a9 e0.ne
    replace z := z.st b5 ⟨(Ne.symm k8), trivial⟩
    replace a5 := b5.s a5
    replace b1 := b5.s b1
    replace p := b5.same _ _ ⟨j9, trivial⟩ p
    replace c0 := b5.s c0
    replace d0 := b5.s d0
    replace b3 := b5.same _ _ ⟨(Ne.symm h2), trivial⟩ b3
    replace h5 := b5.s h5
    have lt_at65x2 := GHeap.ltg j8
    replace h := m.mono t
    clear c
    have c : MemN _ _ _ _ _ := ⟨rfl, Mem.of_get d⟩
    refine .q rfl (.fieldAddr fo_27_2_B rfl) ?_
    refine .r0 rfl rfl (.storeR rfl sz_24_Tb rfl rfl rfl (by assumption) (by first | exact Nat.le_of_ble_eq_true rfl | (simp; done) | (simp <;> omega))) ?_
    rintro _ H19006x2 ⟨rfl, x, h9⟩
    have nx_H19006x2 := x.nx
    replace t := t.st x (fun k hk => ⟨by omega, trivial⟩)
    replace y := y.sA x
    replace w := w.sA x
    replace a9 := x.s a9 a8.ne
    replace z := z.st x ⟨j7, trivial⟩
    replace a5 := x.s a5 f8.ne
    replace b1 := x.s b1 g0.ne
    replace p := x.same _ _ ⟨j3, trivial⟩ p
    replace c0 := x.s c0 f7.ne
    replace d0 := x.s d0 f9.ne
    replace h5 := x.s h5
    replace j8 := x.s j8
    have lt_at19006x2 := GHeap.ltg h9
    replace h := m.mono t
    clear c
    have c : MemN _ _ _ _ _ := ⟨rfl, Mem.of_get d⟩
    try simp only [Nat.zero_add, List.set_cons_succ, List.set_cons_zero] at h9
    refine .nil (m5 _ _ (.region (.mv rfl ?_)))
    refine .q rfl (.add rfl rfl rfl (by omega) (by omega)) ?_
    refine .mv rfl (.nil ?_)
    refine m2 ((j + 1, l8, l7, n1, e3)) _ _ ?_ ?_ ⟨rfl, rfl, rfl, rfl, rfl, rfl, rfl, trivial⟩
    ·
     refine ⟨w, by first | assumption | (rw [eL]; assumption) | (rw [eS]; assumption) | (rw [eT]; assumption) | (rw [eI]; assumption) | (rw [eP]; assumption) | (rw [eP, prs_snoc]; assumption) | (rw [eL, eJ]; assumption) | (rw [eJ]; assumption) | (rw [eL, eS]; assumption) | (rw [eL, eT]; assumption) | (rw [eJ, eI]; assumption), by first | assumption | exact ⟨.inr (by omega)⟩ | exact ⟨.inl rfl⟩, by first | assumption | (rw [eL]; assumption) | (rw [eS]; assumption) | (rw [eT]; assumption) | (rw [eI]; assumption) | (rw [eP]; assumption) | (rw [eP, prs_snoc]; assumption) | (rw [eL, eJ]; assumption) | (rw [eJ]; assumption) | (rw [eL, eS]; assumption) | (rw [eL, eT]; assumption) | (rw [eJ, eI]; assumption), by first | (first | assumption | (rw [eL]; assumption) | (rw [eS]; assumption) | (rw [eT]; assumption) | (rw [eI]; assumption) | (rw [eP]; assumption) | (rw [eP, prs_snoc]; assumption) | (rw [eL, eJ]; assumption) | (rw [eJ]; assumption) | (rw [eL, eS]; assumption) | (rw [eL, eT]; assumption) | (rw [eJ, eI]; assumption)) | exact NO.of (by first | assumption | (rw [eL]; assumption) | (rw [eS]; assumption) | (rw [eT]; assumption) | (rw [eI]; assumption) | (rw [eP]; assumption) | (rw [eP, prs_snoc]; assumption) | (rw [eL, eJ]; assumption) | (rw [eJ]; assumption) | (rw [eL, eS]; assumption) | (rw [eL, eT]; assumption) | (rw [eJ, eI]; assumption)) (by omega), by first | assumption | exact ⟨.inr (by omega)⟩ | exact ⟨.inl rfl⟩, by first | (first | assumption | (rw [eL]; assumption) | (rw [eS]; assumption) | (rw [eT]; assumption) | (rw [eI]; assumption) | (rw [eP]; assumption) | (rw [eP, prs_snoc]; assumption) | (rw [eL, eJ]; assumption) | (rw [eJ]; assumption) | (rw [eL, eS]; assumption) | (rw [eL, eT]; assumption) | (rw [eJ, eI]; assumption)) | exact NO.of (by first | assumption | (rw [eL]; assumption) | (rw [eS]; assumption) | (rw [eT]; assumption) | (rw [eI]; assumption) | (rw [eP]; assumption) | (rw [eP, prs_snoc]; assumption) | (rw [eL, eJ]; assumption) | (rw [eJ]; assumption) | (rw [eL, eS]; assumption) | (rw [eL, eT]; assumption) | (rw [eJ, eI]; assumption)) (by omega), by first | assumption | exact ⟨.inr (by omega)⟩ | exact ⟨.inl rfl⟩, by first | (first | assumption | (rw [eL]; assumption) | (rw [eS]; assumption) | (rw [eT]; assumption) | (rw [eI]; assumption) | (rw [eP]; assumption) | (rw [eP, prs_snoc]; assumption) | (rw [eL, eJ]; assumption) | (rw [eJ]; assumption) | (rw [eL, eS]; assumption) | (rw [eL, eT]; assumption) | (rw [eJ, eI]; assumption)) | exact NO.of (by first | assumption | (rw [eL]; assumption) | (rw [eS]; assumption) | (rw [eT]; assumption) | (rw [eI]; assumption) | (rw [eP]; assumption) | (rw [eP, prs_snoc]; assumption) | (rw [eL, eJ]; assumption) | (rw [eJ]; assumption) | (rw [eL, eS]; assumption) | (rw [eL, eT]; assumption) | (rw [eJ, eI]; assumption)) (by omega), by first | assumption | exact ⟨.inr (by omega)⟩ | exact ⟨.inl rfl⟩, by first | assumption | (rw [eL]; assumption) | (rw [eS]; assumption) | (rw [eT]; assumption) | (rw [eI]; assumption) | (rw [eP]; assumption) | (rw [eP, prs_snoc]; assumption) | (rw [eL, eJ]; assumption) | (rw [eJ]; assumption) | (rw [eL, eS]; assumption) | (rw [eL, eT]; assumption) | (rw [eJ, eI]; assumption), by first | assumption | omega, by first | assumption | omega, by first | assumption | omega, by first | assumption | omega, by first | assumption | omega, by first | assumption | omega, by first | assumption | omega, by first | assumption | omega, by first | assumption | omega, by first | assumption | omega, by first | assumption | omega, by first | assumption | omega, by first | assumption | omega, by first | assumption | omega, by first | assumption | omega, ?_⟩
     omega
    (dsimp only; omega)
   try simp only [sps] at o8
   refine .exit ?_
   refine q0 _ _ (.region (.mv rfl ?_))
   refine .q rfl (.add rfl rfl rfl (by omega) (by omega)) ?_
   refine .mv rfl (.nil ?_)
   obtain rfl : j = 3 := by omega
   have l0 : 3 * (i + 1) = 3 * i + 3 := by omega
   refine p6 ((i + 1, d4, d5, d6, e3)) _ _ ?_ ?_ ⟨rfl, rfl, rfl, rfl, rfl, rfl, trivial⟩
   ·
    refine ⟨y, by first | assumption | (rw [l0]; assumption), by first | assumption | exact j0.trans i1 (by omega) | exact ⟨.inr (by omega)⟩ | exact ⟨.inl rfl⟩, by first | assumption | (rw [l0]; assumption), by first | (first | assumption | (rw [l0]; assumption)) | exact NO.of (by first | assumption | (rw [l0]; assumption)) (by omega), by first | assumption | exact i7.trans h6 (by omega) | exact ⟨.inr (by omega)⟩ | exact ⟨.inl rfl⟩, by first | (first | assumption | (rw [l0]; assumption)) | exact NO.of (by first | assumption | (rw [l0]; assumption)) (by omega), by first | assumption | exact i9.trans i0 (by omega) | exact ⟨.inr (by omega)⟩ | exact ⟨.inl rfl⟩, by first | (first | assumption | (rw [l0]; assumption)) | exact NO.of (by first | assumption | (rw [l0]; assumption)) (by omega), by first | assumption | exact j6.trans i3 (by omega) | exact ⟨.inr (by omega)⟩ | exact ⟨.inl rfl⟩, by first | assumption | (rw [l0]; assumption), by first | assumption | omega, by first | assumption | omega, by first | assumption | omega, by first | assumption | omega, by first | assumption | omega, by first | assumption | omega, by first | assumption | omega, by first | assumption | omega, by first | assumption | omega, by first | assumption | omega, by first | assumption | omega, by first | assumption | omega, by first | assumption | omega, by first | assumption | omega, by first | assumption | omega, ?_⟩
    omega
   (dsimp only; omega)
  try simp only [sps] at q3
  refine .exit ?_
  refine s8 _ _ (.seq (fun K26 q8 => .seq (fun K27 p7 => .region ?_)))
  refine .q rfl (.load on_61_Ev rfl (by first | assumption | exact Mem.of_get o 0 _ rfl)) ?_
  refine .q rfl (.len sl_61_Ev rfl) (.q rfl (.cmp rfl rfl rfl) (.nil (p7 _ _ ?_)))
  refine .cond rfl (fun q1 => ?_) (fun q1 => ?_)
  ·
   exact absurd q1 (by have := vP_le (3 * i); simp only [sps]; omega)
  try simp only [sps] at q1
  refine .skip ?_
  refine q8 _ _ (.seq (fun K28 p3 => .region ?_))
  obtain rfl : i = 3 := by omega
  have r4 : g5 ≠ gLF := h6.ne (by omega) (by omega)
  have r3 : g5 ≠ gLT := i0.ne (by omega) (by omega)
  have nI5 : g5 ≠ gLI := i3.ne (by omega) (by omega)
  have r7 : g5 ≠ gLA := i1.ne (by omega) (by omega)
  refine .q rfl (.makeFunc rfl) ?_
  refine .call rfl rfl rfl rfl @Try.call44 rfl (tableO_c (src := vS 9) (tgt := vT 9) (n := 5) (X := fun a b => idxP (vP 9) ((vS 9).getD a 0, (vT 9).getD b 0)) (by assumption) rfl rfl (by omega) (fun H' s => (f6.st s ⟨Ne.symm r4, trivial⟩).isV rfl) (fun H' s => (f5.st s ⟨Ne.symm r3, trivial⟩).isV rfl) @Try.call45 (fun H' v s hrow i j hi hj e => preorder1_c (l := vP 9) (s.same _ _ ⟨by omega, trivial⟩ o) (s.same _ _ ⟨Ne.symm r7, trivial⟩ g4) hrow ((f6.st s ⟨Ne.symm r4, trivial⟩).isV rfl) ((f5.st s ⟨Ne.symm r3, trivial⟩).isV rfl) rfl rfl (by decide) hi hj)) ?_
  rintro _ H72 ⟨j1, q4, p1, k9, ge72, t1, m3⟩
  have nx_H72 := j1.nx
  replace t := t.st j1 (fun k hk => ⟨by omega, trivial⟩)
  replace a9 := j1.s a9 a8.ne
  replace g4 := j1.same _ _ ⟨m8, trivial⟩ g4
  replace o := j1.same _ _ ⟨n2, trivial⟩ o
  replace f6 := f6.st j1 ⟨m7, trivial⟩
  replace f5 := f5.st j1 ⟨m6, trivial⟩
  replace h8 := h8.st j1 ⟨m0, trivial⟩
  have lt_at72 := GHeap.ltg k9
  replace h := m.mono t
  clear c
  have c : MemN _ _ _ _ _ := ⟨rfl, Mem.of_get d⟩
  refine .nil (p3 _ _ (.seq (fun K29 o6 => .region ?_)))
  refine .q rfl (.loadM ag_27_D rfl ⟨rfl, Mem.of_get k9⟩) ?_
  refine .r0 rfl rfl (.fillA rfl sz_27_D rfl rfl rfl rfl) ?_
  rintro _ H23001 ⟨rfl, b8, i8⟩
  have nx_H23001 := b8.nx
  replace t := t.st b8 (fun k hk => ⟨by omega, trivial⟩)
  have c6 : NE g2 gLA := ⟨i1.ne e8.ne (by omega)⟩
  replace g4 := b8.s g4 (Ne.symm c6.ne)
  replace o := b8.s o (Ne.symm c8.ne)
  have c7 : NE g2 gLF := ⟨h6.ne f4.ne (by omega)⟩
  replace f6 := f6.st b8 ⟨(Ne.symm c7.ne), trivial⟩
  have c9 : NE g2 gLT := ⟨i0.ne e9.ne (by omega)⟩
  replace f5 := f5.st b8 ⟨(Ne.symm c9.ne), trivial⟩
  have d3 : NE g2 gLI := ⟨i3.ne e6.ne (by omega)⟩
  replace h8 := h8.st b8 ⟨(Ne.symm d3.ne), trivial⟩
  replace k9 := b8.s k9 (Ne.symm a8.ne)
  have lt_at23001 := GHeap.ltg i8
  replace h := m.mono t
  clear c
  have c : MemN _ _ _ _ _ := ⟨rfl, Mem.of_get d⟩
  have mm23001 : MemN _ _ _ _ _ := ⟨rfl, Mem.of_get i8⟩
  refine .mv rfl (.nil (o6 _ _ ?_))
  refine .ret ?_
  refine o4 _ _ ?_
  refine ⟨_, _, _, _, _, rfl, ag_27_D, (by rfl), (Mem.of_get i8), rfl, ?_⟩
  have nFT : gLF ≠ gLT := by omega
  have nFI : gLF ≠ gLI := by omega
  have nTI : gLT ≠ gLI := by omega
  have hv := t1.keep (b8.keep (b := HL1.next) (fun k hk => ⟨by omega, trivial⟩)) (Nat.le_refl _)
  refine ⟨t, ⟨nz 5 gLF, nz 5 gLT, nz 3 gLI, some ⟨q4, 0, none⟩, p1⟩, by rw [hl]; rfl, .mk (f6.isR rfl n6) (f5.isR rfl n3) (h8.isR rfl n7) (hv.keep (.of_le (.refl _)) (by omega)) (g1 := gLF) (g2 := gLT) (g3 := gLI) (nz_or 5 gLF) (nz_or 5 gLT) (nz_or 3 gLI) nFT nFI nTI (fun i hi => ?_)⟩
  exact ⟨fun e => by have := m3 i hi _ e; omega, fun e => by have := m3 i hi _ e; omega, fun e => by have := m3 i hi _ e; omega⟩
end Go.Proofs.Ytfanjkbaemhbmaa
namespace Go.GL
open Go.RowKit
theorem MStep.quoE {P : Program} {fr : Slots} {H : GHeap} {t u : TypeId} {x y : Operand} {a b : Int} (hx : ev fr x = some (.int .i64 a)) (hy : ev fr y = some (.int .i64 b)) (ha : 0 ≤ a) (hb : 0 < b) (hm : a ≤ 9223372036854775807) : MStep P fr H (.binOp .quo t x y u) (.int .i64 (a / b)) := by
  have h := MStep.quo (P := P) (H := H) (t := t) (u := u) hx hy (by omega)
  have h1 := Int.ediv_nonneg ha (Int.le_of_lt hb)
  have h2 := Int.ediv_le_self b ha
  rw [Int.tdiv_eq_ediv_of_nonneg ha, show IntKind.i64.wrap (a / b) = a / b by rw [IntKind.wrap_i64]; omega] at h
  exact h
theorem MStep.remE {P : Program} {fr : Slots} {H : GHeap} {t u : TypeId} {x y : Operand} {a b : Int} (hx : ev fr x = some (.int .i64 a)) (hy : ev fr y = some (.int .i64 b)) (ha : 0 ≤ a) (hb : 0 < b) : MStep P fr H (.binOp .rem t x y u) (.int .i64 (a % b)) := by
  have h := MStep.rem (P := P) (H := H) (t := t) (u := u) hx hy (by omega)
  rw [Int.tmod_eq_emod_of_nonneg ha] at h
  exact h
def plA (xs ys : List Int) (k : Int) (f : Nat) : List Int := xs ++ (ys.take f).map (k + ·)
theorem plA_zero (xs ys : List Int) (k : Int) : plA xs ys k 0 = xs := by simp [plA]
theorem plA_all (xs ys : List Int) (k : Int) : plA xs ys k ys.length = xs ++ ys.map (k + ·) := by simp [plA]
theorem plA_succ {xs ys : List Int} {k : Int} {f : Nat} (h : f < ys.length) : plA xs ys k (f + 1) = plA xs ys k f ++ [k + ys.getD f 0] := by
  unfold plA
  rw [List.take_add_one, List.getElem?_eq_getElem h, List.map_append, ← List.append_assoc, List.getD_eq_getElem?_getD, List.getElem?_eq_getElem h]
  rfl
theorem plA_len {xs ys : List Int} {k : Int} {f : Nat} (h : f ≤ ys.length) : (plA xs ys k f).length = xs.length + f := by
  simp [plA, Nat.min_eq_left h]
def Cat.PlF (c d : Cat) : Prop := c.obj + d.obj ≤ 8 ∧ c.src.length + d.src.length ≤ 40
noncomputable def Cat.plR (c d : Cat) : Cat := if B (c.PlF d) = true then c.pls d else Cat.zero
theorem Cat.plR_ok {c d : Cat} (h : c.PlF d) : c.plR d = c.pls d := by unfold Cat.plR; rw [if_pos (B_true h)]
theorem Cat.plR_no {c d : Cat} (h : ¬ c.PlF d) : c.plR d = Cat.zero := by unfold Cat.plR; rw [if_neg (fun e => h (B_iff.1 e))]
theorem Cat.pls_part {c d : Cat} (sc : c.Shape) (sd : d.Shape) {f g : Nat} (hf : f < c.src.length + d.src.length) (hg : g < c.src.length + d.src.length) (e : (c.pls d).tgt.getD f 0 = (c.pls d).src.getD g 0) :
    (f < c.src.length → g < c.src.length) ∧ (¬ f < c.src.length → ¬ g < c.src.length) := by
  have tc := sc.tl
  have td := sd.tl
  have oc := sc.obj
  constructor
  · intro h1
    refine Classical.byContradiction fun h2 => ?_
    have e2 := Cat.pls_S2 (c := c) (d := d) (i := g - c.src.length) (by omega)
    rw [show c.src.length + (g - c.src.length) = g by omega] at e2
    rw [Cat.pls_T1 tc h1, e2] at e
    have := sc.tgt f (by omega)
    have := sd.src (g - c.src.length) (by omega)
    omega
  · intro h1 h2
    have e2 := Cat.pls_T2 (c := c) (d := d) tc td (i := f - c.src.length) (by omega)
    rw [show c.src.length + (f - c.src.length) = f by omega] at e2
    rw [Cat.pls_S1 h2, e2] at e
    have := sc.src g h2
    have := sd.tgt (f - c.src.length) (by omega)
    omega
theorem Cat.plX_F {c d : Cat} {f g : Nat} (h : ¬ f < c.src.length) : c.plX d f g = c.src.length + (d.comp.getD (f - c.src.length) []).getD (g - c.src.length) 0 := if_neg h
def Cat.PrF (c d : Cat) : Prop := c.obj * d.obj ≤ 8 ∧ (c.src.length : Int) * d.src.length ≤ 40
noncomputable def Cat.prR (c d : Cat) : Cat := if B (c.PrF d) = true then c.prd d else Cat.zero
theorem Cat.prR_ok {c d : Cat} (h : c.PrF d) : c.prR d = c.prd d := by unfold Cat.prR; rw [if_pos (B_true h)]
theorem Cat.prR_no {c d : Cat} (h : ¬ c.PrF d) : c.prR d = Cat.zero := by unfold Cat.prR; rw [if_neg (fun e => h (B_iff.1 e))]
def NewCB (b : Bool) (c : Cat) (H : GHeap) (v : Value) (H' : GHeap) : Prop := H.Le H' ∧ ∃ p, v = .tuple #[.agg (c.cells p).toArray, .bool b] ∧ CatR H.next H' c p
theorem Cat.prL_step {xs ys : List Int} {k : Int} {f g : Nat} (h : g < ys.length) : Cat.prL xs ys k (ys.length * f + (g + 1)) = Cat.prL xs ys k (ys.length * f + g) ++ [xs.getD f 0 * k + ys.getD g 0] := by
  have e := Cat.prL_succ xs ys k (ys.length * f + g)
  rw [Nat.mul_comm ys.length f, div_of h, mod_of h] at e
  rw [Nat.mul_comm ys.length f]
  exact e
theorem mulE_bd {x y A B : Int} (h0 : 0 ≤ x) (h1 : x ≤ A) (h2 : 0 ≤ y) (h3 : y ≤ B) : 0 ≤ x * y ∧ x * y ≤ A * B :=
  ⟨Int.mul_nonneg h0 h2, Int.mul_le_mul h1 h3 h2 (by omega)⟩
theorem mulE_bd1 {x y A B : Int} (h0 : -1 ≤ x) (h1 : x ≤ A) (hA : 0 ≤ A) (h2 : 0 ≤ y) (h3 : y ≤ B) : -B ≤ x * y ∧ x * y ≤ A * B := by
  by_cases e : x = -1
  · subst e
    have := (mulE_bd hA (Int.le_refl A) (Int.le_trans h2 h3) (Int.le_refl B)).1
    omega
  · have := mulE_bd (x := x) (A := A) (by omega) h1 h2 h3
    omega
theorem mul_leN {f g m n : Nat} (hf : f < n) (hg : g ≤ m) : m * f + g ≤ m * n := by
  have h1 : m * (f + 1) ≤ m * n := Nat.mul_le_mul_left m hf
  rw [Nat.mul_succ] at h1
  omega
def fitC (b : Bool) : Int := if b = true then 0 else 3
theorem fitC_0 {p : Prop} : fitC (B p) = 0 ↔ p := by
  by_cases h : p
  · rw [B_true h]; exact ⟨fun _ => h, fun _ => rfl⟩
  · rw [B_false h]; exact ⟨fun e => absurd e (by decide), fun e => absurd e h⟩
theorem Cat.nc_mono (c : Cat) (k : Nat) : c.nc c.mv k ≤ c.nc c.any k := sumN_monoE fun y _ => Cat.wk_mono k y
theorem Cat.plR_small {c : Cat} (h : c.Is) : (c.plR vee).Small := by
  by_cases q : c.PlF vee
  · rw [Cat.plR_ok q]; exact (Cat.pls_is h vee_is q.1 q.2).1.small
  · rw [Cat.plR_no q]; exact Cat.zero_small
theorem Cat.PrF.len {c d : Cat} (h : c.PrF d) : c.src.length * d.src.length ≤ 40 := by
  have h1 := h.2
  have e : ((c.src.length * d.src.length : Nat) : Int) = (c.src.length : Int) * d.src.length := Int.natCast_mul _ _
  omega
theorem Cat.prR_small {c : Cat} (h : c.Is) : (c.prR vee).Small := by
  by_cases q : c.PrF vee
  · rw [Cat.prR_ok q]; exact (Cat.prd_is h vee_is q.1 q.len).1.small
  · rw [Cat.prR_no q]; exact Cat.zero_small
theorem Cat.eu_plR {c : Cat} (h : c.euC = 0) (hf : fitC (B (c.PlF vee)) = 0) : (c.plR vee).euC = 0 ∧ (c.plR vee).euV = c.euV + 1 := by
  have q := fitC_0.1 hf
  rw [Cat.plR_ok q]
  exact (Cat.eu_pls h q.1 q.2).2
theorem Cat.eu_prR {c : Cat} (h : c.euC = 0) (hf : fitC (B (c.PrF vee)) = 0) : (c.prR vee).euC = 0 ∧ (c.prR vee).euV = c.euV := by
  have q := fitC_0.1 hf
  rw [Cat.prR_ok q]
  exact (Cat.eu_prd h q.1 q.len).2
end Go.GL
namespace Go.Proofs.Ytfanjkbaemhbmaa
open Go Go.GL Go.RowKit Go.Proofs
set_option maxHeartbeats 4000000 in
theorem added1_c {gm gc gr gd go gn g0 o0 g1 o1 f k : Nat} {c d : Cat} {p q : CatP} {e1 e2 e3 e4 : TypeId} {r : Int} {H : GHeap} (hm : H.get gm = some (.row [.int .i64 (c.src.length : Int)] e1 true)) (hgc : H.get gc = some (.row [.pointer (some ⟨g0, o0, none⟩)] e2 true))
    (hgr : H.get gr = some (.row [.int .i64 r] e3 true)) (hgd : H.get gd = some (.row [.pointer (some ⟨g1, o1, none⟩)] e4 true)) (h0 : Cat.At H g0 o0 c p) (h1 : Cat.At H g1 o1 d q) (sc : c.Shape) (sd : d.Shape) (hr : r = ((c.src.length + d.src.length : Nat) : Int))
    (hf : f < c.src.length + d.src.length) (hk : k < c.src.length + d.src.length) (hp : (f < c.src.length → k < c.src.length) ∧ (¬ f < c.src.length → ¬ k < c.src.length)) :
    GCalls Try.prog 107 [.int .i64 (f : Int), .int .i64 (k : Int), .pointer (some ⟨gm, 0, none⟩), .pointer (some ⟨gc, 0, none⟩), .pointer (some ⟨gr, 0, none⟩), .pointer (some ⟨gd, 0, none⟩), .pointer (some ⟨go, 0, none⟩), .pointer (some ⟨gn, 0, none⟩)] H (fun v H' => H.Le H' ∧ v = .int .i64 (c.plX d f k)) := by
  have m1 := sc.n40
  have m2 := sd.n40
  refine GCalls.body (N := 60) (rs := [.tmp 10]) Try.func107 rfl rfl rfl rfl (fun Qx a hend => ?_)
  refine .fg [0, 1, 2, 3, 4, 5, 6, 7] rfl ?_
  have j := GHeap.Le.refl H
  refine .seq (fun K1 s => .region (.mv rfl (.nil (s _ _ (.seq (fun K2 hK2 => ?_))))))
  refine .block ?_
  refine .seq (fun K3 i => .region (.mv rfl ?_))
  refine .q rfl (.load on_2_A rfl (by first | assumption | exact Mem.of_get hm 0 _ rfl)) ?_
  refine .q rfl (.cmp rfl rfl rfl) (.mv rfl ?_)
  refine .split (fun e => ?_) (fun e => ?_)
  ·
   try simp only [sps] at e
   refine .qg rfl (.move rfl) ?_
   refine .qg rfl (.load on_2_A rfl (by first | assumption | exact Mem.of_get hm 0 _ rfl)) ?_
   refine .qg rfl (.cmp rfl rfl rfl) (.q rfl (.pickT rfl rfl) (.mv rfl (.nil (i _ _ ?_))))
   refine .cond rfl (fun h => ?_) (fun h => ?_)
   ·
    try simp only [sps] at h
    refine .seq (fun K4 o => .region ?_)
    refine .q rfl (.load on_58_F rfl (by first | assumption | exact Mem.of_get hgc 0 _ rfl)) ?_
    refine .mv rfl (.mv rfl ?_)
    refine .callQ rfl rfl rfl rfl @Try.call79 rfl (then_s) ?_
    refine .mv rfl (.nil (o _ _ ?_))
    refine .ret ?_
    refine a _ _ ?_
    refine ⟨_, rfl, ?_⟩
    exact ⟨j, by rw [Cat.plX_1 (by omega)]; rfl⟩
   try simp only [sps] at h
   refine .seq (fun K5 l => .region (.mv rfl ?_))
   refine .q rfl (.load on_2_A rfl (by first | assumption | exact Mem.of_get hm 0 _ rfl)) ?_
   refine .q rfl (.load on_2_A rfl (by first | assumption | exact Mem.of_get hgr 0 _ rfl)) ?_
   refine .q rfl (.sub rfl rfl rfl (by omega) (by omega)) ?_
   refine .callQ rfl rfl rfl rfl @Try.call76 rfl (inRange_c) ?_
   refine .mv rfl (.nil (l _ _ ?_))
   refine .cond rfl (fun b => ?_) (fun b => ?_)
   ·
    try simp only [sps] at b
    refine .seq (fun K6 t => ?_)
    refine .regionD mo_B (.q 0 (.q 1 (.q 2 (.q 3 (.q 4 (.q 5 (.q 6 (.q 7 (.c 8 1 (.q 9 (.q 10 (.done)))))))))))) (by kernel_rfl) ?_
    refine .q rfl (.load on_2_A rfl (by first | assumption | exact Mem.of_get hm 0 _ rfl)) ?_
    refine .q rfl (.load on_58_F rfl (by first | assumption | exact Mem.of_get hgd 0 _ rfl)) ?_
    refine .mv rfl rfl ?_
    refine .q rfl (.load on_2_A rfl (by first | assumption | exact Mem.of_get hm 0 _ rfl)) ?_
    refine .q rfl (.sub rfl rfl rfl (by omega) (by omega)) ?_
    refine .mv rfl rfl ?_
    refine .q rfl (.load on_2_A rfl (by first | assumption | exact Mem.of_get hm 0 _ rfl)) ?_
    refine .q rfl (.sub rfl rfl rfl (by omega) (by omega)) ?_
    refine .callQ1 rfl rfl rfl rfl rfl @Try.call79 rfl (then_s) (.refl _) ?_
    refine .q rfl (.add rfl rfl rfl (by omega) (by omega)) ?_
    refine .mv rfl rfl ?_
    refine .done ?_
    refine t _ _ ?_
    refine .ret ?_
    refine a _ _ ?_
    refine ⟨_, rfl, ?_⟩
    exact absurd e (by omega)
   exact absurd b (by simp only [sps]; omega)
  try simp only [sps] at e
  refine .z rfl (.z rfl (.z rfl (.q rfl (.pickF rfl rfl) (.mv rfl (.nil (i _ _ ?_))))))
  refine .condF rfl ?_
  refine .seq (fun K7 m => .region (.mv rfl ?_))
  refine .q rfl (.load on_2_A rfl (by first | assumption | exact Mem.of_get hm 0 _ rfl)) ?_
  refine .q rfl (.load on_2_A rfl (by first | assumption | exact Mem.of_get hgr 0 _ rfl)) ?_
  refine .q rfl (.sub rfl rfl rfl (by omega) (by omega)) ?_
  refine .callQ rfl rfl rfl rfl @Try.call76 rfl (inRange_c) ?_
  refine .mv rfl (.nil (m _ _ ?_))
  refine .cond rfl (fun b => ?_) (fun b => ?_)
  ·
   try simp only [sps] at b
   refine .seq (fun K8 n => ?_)
   refine .regionD mo_B (.q 0 (.q 1 (.q 2 (.q 3 (.q 4 (.q 5 (.q 6 (.q 7 (.c 8 1 (.q 9 (.q 10 (.done)))))))))))) (by kernel_rfl) ?_
   refine .q rfl (.load on_2_A rfl (by first | assumption | exact Mem.of_get hm 0 _ rfl)) ?_
   refine .q rfl (.load on_58_F rfl (by first | assumption | exact Mem.of_get hgd 0 _ rfl)) ?_
   refine .mv rfl rfl ?_
   refine .q rfl (.load on_2_A rfl (by first | assumption | exact Mem.of_get hm 0 _ rfl)) ?_
   refine .q rfl (.sub rfl rfl rfl (by omega) (by omega)) ?_
   refine .mv rfl rfl ?_
   refine .q rfl (.load on_2_A rfl (by first | assumption | exact Mem.of_get hm 0 _ rfl)) ?_
   refine .q rfl (.sub rfl rfl rfl (by omega) (by omega)) ?_
   refine .callQ1 rfl rfl rfl rfl rfl @Try.call79 rfl (then_s) (.refl _) ?_
   have tb := sd.th_lt (f := f - c.src.length) (g := k - c.src.length) (by omega) (by omega)
   rw [show ((f - c.src.length : Nat) : Int) = (f : Int) - c.src.length by omega, show ((k - c.src.length : Nat) : Int) = (k : Int) - c.src.length by omega] at tb
   refine .q rfl (.add rfl rfl rfl (by omega) (by omega)) ?_
   refine .mv rfl rfl ?_
   refine .done ?_
   refine n _ _ ?_
   refine .ret ?_
   refine a _ _ ?_
   refine ⟨_, rfl, ?_⟩
   exact ⟨j, by rw [Cat.plX_F (by omega), ← show ((f : Int) - c.src.length).toNat = f - c.src.length by omega, ← show ((k : Int) - c.src.length).toNat = k - c.src.length by omega]⟩
  exact absurd b (by simp only [sps]; omega)
set_option maxHeartbeats 16000000 in
theorem added_c {g0 o0 g1 o1 : Nat} {c d : Cat} {p q : CatP} {H : GHeap} (h : Cat.At H g0 o0 c p := by assumption) (h' : Cat.At H g1 o1 d q := by assumption) (sc : c.Shape) (sd : d.Shape) :
    GCalls Try.prog 81 [.pointer (some ⟨g0, o0, none⟩), .pointer (some ⟨g1, o1, none⟩), .bool false] H (NewCB (B (c.PlF d)) (c.plR d) H) := by
  have q1 := sc.tl
  have q2 := sc.n40
  have q3 := sc.obj
  have q4 := sc.il
  have q5 := sd.tl
  have q6 := sd.n40
  have q7 := sd.obj
  have q8 := sd.il
  refine GCalls.body (N := 140) (rs := [.cell 6 27, .tmp 7]) Try.func81 rfl rfl rfl rfl (fun Qx u0 hend => ?_)
  refine .fg [0, 1, 2] rfl ?_
  have m := GHeap.Le.refl H
  have l := h
  have g := h'
  refine .seq (fun K1 aR => .region ?_)
  refine .R rfl (.boxR rfl sz_58_Fd rfl) ?_
  rintro _ H3 ⟨g3, rfl, aM, ge3, e2⟩
  replace m := m.trans aM
  have lt_at3 := GHeap.ltg e2
  replace h := l.mono m
  replace h' := g.mono m
  refine .R rfl (.boxR rfl sz_58_Fd rfl) ?_
  rintro _ H4 ⟨g4, rfl, aH, ge4, c9⟩
  replace m := m.trans aH
  replace e2 := aH.2 _ _ e2
  have lt_at4 := GHeap.ltg c9
  replace h := l.mono m
  replace h' := g.mono m
  refine .R rfl (.allocR rfl ze_27_Hj rfl) ?_
  rintro _ H6 ⟨g6, rfl, x7, ge6, o2⟩
  replace m := m.trans x7
  replace e2 := x7.2 _ _ e2
  replace c9 := x7.2 _ _ c9
  have lt_at6 := GHeap.ltg o2
  replace h := l.mono m
  replace h' := g.mono m
  obtain ⟨c0, c1, c2, c3, c4, i1, i2, i3, i4⟩ := h.get
  have hm : MemN _ _ _ _ _ := ⟨rfl, h.1⟩
  have hi := h.2
  obtain ⟨m4, k5, n8, l0, n3, l8, n4, l6, n1⟩ := h'.get
  have hmb : MemN _ _ _ _ _ := ⟨rfl, h'.1⟩
  have hib := h'.2
  refine .mv rfl (.nil (aR _ _ (.seq (fun K2 aT => ?_))))
  refine .regionD mo_B (.q 0 (.q 1 (.q 2 (.q 3 (.q 4 (.or (.c 5 1 (.or (.c 6 1 (.c 7 1 (.c 8 1 (.c 9 1 (.done))))) (.c 7 1 (.c 6 1 (.c 8 1 (.c 9 1 (.done))))))) (.or (.c 6 1 (.or (.c 5 1 (.c 7 1 (.c 8 1 (.c 9 1 (.done))))) (.c 7 1 (.c 5 1 (.c 8 1 (.c 9 1 (.done))))))) (.c 7 1 (.or (.c 5 1 (.c 6 1 (.c 8 1 (.c 9 1 (.done))))) (.c 6 1 (.c 5 1 (.c 8 1 (.c 9 1 (.done)))))))))))))) (by kernel_rfl) ?_
  refine .cut [(0, some _), (1, some _), (2, some _), (3, some _), (4, some _), (6, some _), (7, some _)] ⟨rfl, rfl, rfl, rfl, rfl, rfl, rfl, trivial⟩ (fun rest fr' H' => ∃ g8 g9, Sub ((8, some (.pointer (some ⟨g8, 0, none⟩))) :: (9, some (.pointer (some ⟨g9, 0, none⟩))) :: rest) fr' ∧ H6.Le H' ∧ H6.next ≤ g8 ∧ H6.next ≤ g9 ∧ H'.get g8 = some (.row ([.int .i64 c.obj]) 2 true) ∧ H'.get g9 = some (.row ([.int .i64 (c.src.length:Int)]) 2 true) ∧ g8 ≠ g9) ?_ ?_
  ·
   have u := GHeap.Le.refl H6
   refine .q rfl (.load on_58_F rfl (by first | assumption | exact Mem.of_get e2 0 _ rfl)) ?_
   refine .qB rfl (.refl _) (.nilCheck rfl) (.qB rfl (.refl _) (.fieldAddr fo_27_0_B rfl) ?_)
   refine .q rfl (.load on_2_A rfl (by assumption)) ?_
   refine .q rfl (.load on_58_F rfl (by first | assumption | exact Mem.of_get e2 0 _ rfl)) ?_
   refine .orI ?_ ?_
   ·
    refine .callQ1 rfl rfl rfl rfl rfl @Try.call67 rfl (arrows_c) (.refl _) ?_
    refine .orI ?_ ?_
    ·
     refine .c1 rfl rfl rfl rfl (.allocR rfl ze_2_Pa rfl) ?_
     rintro _ H8x2 ⟨v2, rfl, t3, ge8x2, r8⟩
     have r := t3
     refine ⟨r, ?_⟩
     have lt_at8x2 := GHeap.ltg r8
     replace u := u.trans t3
     refine .c1 rfl rfl rfl rfl (.allocR rfl ze_2_Pa rfl) ?_
     rintro _ H9x2 ⟨x4, rfl, s3, ge9x2, t8⟩
     replace r := r.trans s3
     refine ⟨r, ?_⟩
     replace r8 := s3.2 _ _ r8
     replace u := u.trans s3
     refine .r1 rfl rfl rfl (.storeR rfl sz_2_Tb rfl rfl rfl (by assumption) (by first | exact Nat.le_of_ble_eq_true rfl | (simp; done) | (simp <;> omega))) ?_
     rintro _ H1008 ⟨rfl, p2, l7⟩
     replace r := r.st p2 (fun k hk => ⟨by omega, trivial⟩)
     refine ⟨r, ?_⟩
     have d6 : NE x4 v2 := .a
     replace t8 := p2.s t8 d6.ne
     try simp only [Nat.zero_add, List.set_cons_succ, List.set_cons_zero] at l7
     replace u := u.st p2 (fun k hk => ⟨by omega, trivial⟩)
     refine .r1 rfl rfl rfl (.storeR rfl sz_2_Tb rfl rfl rfl (by assumption) (by first | exact Nat.le_of_ble_eq_true rfl | (simp; done) | (simp <;> omega))) ?_
     rintro _ H1009 ⟨rfl, o7, r5⟩
     replace r := r.st o7 (fun k hk => ⟨by omega, trivial⟩)
     refine ⟨r, ?_⟩
     replace l7 := o7.s l7 (Ne.symm d6.ne)
     try simp only [Nat.zero_add, List.set_cons_succ, List.set_cons_zero] at r5
     replace u := u.st o7 (fun k hk => ⟨by omega, trivial⟩)
     refine .done ?_
     exact ⟨v2, x4, ⟨rfl, rfl, rfl, rfl, rfl, rfl, rfl, rfl, rfl, trivial⟩, u, by omega, by omega, by first | assumption | simpa using l7, by first | assumption | simpa using r5, by omega⟩
    refine .c1 rfl rfl rfl rfl (.allocR rfl ze_2_Pa rfl) ?_
    rintro _ H9x3 ⟨w6, rfl, t7, ge9x3, n6⟩
    have r := t7
    refine ⟨r, ?_⟩
    have lt_at9x3 := GHeap.ltg n6
    replace u := u.trans t7
    refine .c1 rfl rfl rfl rfl (.allocR rfl ze_2_Pa rfl) ?_
    rintro _ H8x3 ⟨v6, rfl, p9, ge8x3, at8x3⟩
    replace r := r.trans p9
    refine ⟨r, ?_⟩
    replace n6 := p9.2 _ _ n6
    replace u := u.trans p9
    refine .r1 rfl rfl rfl (.storeR rfl sz_2_Tb rfl rfl rfl (by assumption) (by first | exact Nat.le_of_ble_eq_true rfl | (simp; done) | (simp <;> omega))) ?_
    rintro _ H1008x2 ⟨rfl, j3, e3⟩
    replace r := r.st j3 (fun k hk => ⟨by omega, trivial⟩)
    refine ⟨r, ?_⟩
    have d4 : NE w6 v6 := .a
    replace n6 := j3.s n6 d4.ne
    try simp only [Nat.zero_add, List.set_cons_succ, List.set_cons_zero] at e3
    replace u := u.st j3 (fun k hk => ⟨by omega, trivial⟩)
    refine .r1 rfl rfl rfl (.storeR rfl sz_2_Tb rfl rfl rfl (by assumption) (by first | exact Nat.le_of_ble_eq_true rfl | (simp; done) | (simp <;> omega))) ?_
    rintro _ H1009x2 ⟨rfl, h6, n2⟩
    replace r := r.st h6 (fun k hk => ⟨by omega, trivial⟩)
    refine ⟨r, ?_⟩
    replace e3 := h6.s e3 (Ne.symm d4.ne)
    try simp only [Nat.zero_add, List.set_cons_succ, List.set_cons_zero] at n2
    replace u := u.st h6 (fun k hk => ⟨by omega, trivial⟩)
    refine .done ?_
    exact ⟨v6, w6, ⟨rfl, rfl, rfl, rfl, rfl, rfl, rfl, rfl, rfl, trivial⟩, u, by omega, by omega, by first | assumption | simpa using e3, by first | assumption | simpa using n2, by omega⟩
   refine .orI ?_ ?_
   ·
    refine .c1 rfl rfl rfl rfl (.allocR rfl ze_2_Pa rfl) ?_
    rintro _ H8x4 ⟨s6, rfl, r6, ge8x4, n7⟩
    have r := r6
    refine ⟨r, ?_⟩
    replace m := m.trans r6
    have lt_at8x4 := GHeap.ltg n7
    replace u := u.trans r6
    refine .orI ?_ ?_
    ·
     replace h := l.mono m
     replace h' := g.mono m
     clear c0 c1 c2 c3 c4 i1 i2 i3 i4 hm hi m4 k5 n8 l0 n3 l8 n4 l6 n1 hmb hib
     obtain ⟨c0, c1, c2, c3, c4, i1, i2, i3, i4⟩ := h.get
     have hm : MemN _ _ _ _ _ := ⟨rfl, h.1⟩
     have hi := h.2
     obtain ⟨m4, k5, n8, l0, n3, l8, n4, l6, n1⟩ := h'.get
     have hmb : MemN _ _ _ _ _ := ⟨rfl, h'.1⟩
     have hib := h'.2
     refine .callQ1 rfl rfl rfl rfl rfl @Try.call67 rfl (arrows_c) r ?_
     refine .c1 rfl rfl rfl rfl (.allocR rfl ze_2_Pa rfl) ?_
     rintro _ H9x4 ⟨w7, rfl, r7, ge9x4, t2⟩
     replace r := r.trans r7
     refine ⟨r, ?_⟩
     replace n7 := r7.2 _ _ n7
     replace u := u.trans r7
     refine .r1 rfl rfl rfl (.storeR rfl sz_2_Tb rfl rfl rfl (by assumption) (by first | exact Nat.le_of_ble_eq_true rfl | (simp; done) | (simp <;> omega))) ?_
     rintro _ H1008x3 ⟨rfl, k0, d7⟩
     replace r := r.st k0 (fun k hk => ⟨by omega, trivial⟩)
     refine ⟨r, ?_⟩
     have d8 : NE w7 s6 := .a
     replace t2 := k0.s t2 d8.ne
     try simp only [Nat.zero_add, List.set_cons_succ, List.set_cons_zero] at d7
     replace u := u.st k0 (fun k hk => ⟨by omega, trivial⟩)
     refine .r1 rfl rfl rfl (.storeR rfl sz_2_Tb rfl rfl rfl (by assumption) (by first | exact Nat.le_of_ble_eq_true rfl | (simp; done) | (simp <;> omega))) ?_
     rintro _ H1009x3 ⟨rfl, j8, n5⟩
     replace r := r.st j8 (fun k hk => ⟨by omega, trivial⟩)
     refine ⟨r, ?_⟩
     replace d7 := j8.s d7 (Ne.symm d8.ne)
     try simp only [Nat.zero_add, List.set_cons_succ, List.set_cons_zero] at n5
     replace u := u.st j8 (fun k hk => ⟨by omega, trivial⟩)
     refine .done ?_
     exact ⟨s6, w7, ⟨rfl, rfl, rfl, rfl, rfl, rfl, rfl, rfl, rfl, trivial⟩, u, by omega, by omega, by first | assumption | simpa using d7, by first | assumption | simpa using n5, by omega⟩
    refine .c1 rfl rfl rfl rfl (.allocR rfl ze_2_Pa rfl) ?_
    rintro _ H9x5 ⟨u7, rfl, p4, ge9x5, t4⟩
    replace r := r.trans p4
    refine ⟨r, ?_⟩
    replace m := m.trans p4
    replace n7 := p4.2 _ _ n7
    replace u := u.trans p4
    replace h := l.mono m
    replace h' := g.mono m
    clear c1
    obtain ⟨c0, c1, c2, c3, c4, i1, i2, i3, i4⟩ := h.get
    have hm : MemN _ _ _ _ _ := ⟨rfl, h.1⟩
    have hi := h.2
    obtain ⟨m4, k5, n8, l0, n3, l8, n4, l6, n1⟩ := h'.get
    have hmb : MemN _ _ _ _ _ := ⟨rfl, h'.1⟩
    have hib := h'.2
    refine .callQ1 rfl rfl rfl rfl rfl @Try.call67 rfl (arrows_c) r ?_
    refine .r1 rfl rfl rfl (.storeR rfl sz_2_Tb rfl rfl rfl (by assumption) (by first | exact Nat.le_of_ble_eq_true rfl | (simp; done) | (simp <;> omega))) ?_
    rintro _ H1008x4 ⟨rfl, k2, d5⟩
    replace r := r.st k2 (fun k hk => ⟨by omega, trivial⟩)
    refine ⟨r, ?_⟩
    have d9 : NE u7 s6 := .a
    replace t4 := k2.s t4 d9.ne
    try simp only [Nat.zero_add, List.set_cons_succ, List.set_cons_zero] at d5
    replace u := u.st k2 (fun k hk => ⟨by omega, trivial⟩)
    refine .r1 rfl rfl rfl (.storeR rfl sz_2_Tb rfl rfl rfl (by assumption) (by first | exact Nat.le_of_ble_eq_true rfl | (simp; done) | (simp <;> omega))) ?_
    rintro _ H1009x4 ⟨rfl, i6, n9⟩
    replace r := r.st i6 (fun k hk => ⟨by omega, trivial⟩)
    refine ⟨r, ?_⟩
    replace d5 := i6.s d5 (Ne.symm d9.ne)
    try simp only [Nat.zero_add, List.set_cons_succ, List.set_cons_zero] at n9
    replace u := u.st i6 (fun k hk => ⟨by omega, trivial⟩)
    refine .done ?_
    exact ⟨s6, u7, ⟨rfl, rfl, rfl, rfl, rfl, rfl, rfl, rfl, rfl, trivial⟩, u, by omega, by omega, by first | assumption | simpa using d5, by first | assumption | simpa using n9, by omega⟩
   refine .c1 rfl rfl rfl rfl (.allocR rfl ze_2_Pa rfl) ?_
   rintro _ H9x6 ⟨s9, rfl, r2, ge9x6, d3⟩
   have r := r2
   refine ⟨r, ?_⟩
   replace m := m.trans r2
   have lt_at9x6 := GHeap.ltg d3
   replace u := u.trans r2
   refine .orI ?_ ?_
   ·
    replace h := l.mono m
    replace h' := g.mono m
    clear c1
    obtain ⟨c0, c1, c2, c3, c4, i1, i2, i3, i4⟩ := h.get
    have hm : MemN _ _ _ _ _ := ⟨rfl, h.1⟩
    have hi := h.2
    obtain ⟨m4, k5, n8, l0, n3, l8, n4, l6, n1⟩ := h'.get
    have hmb : MemN _ _ _ _ _ := ⟨rfl, h'.1⟩
    have hib := h'.2
    refine .callQ1 rfl rfl rfl rfl rfl @Try.call67 rfl (arrows_c) r ?_
    refine .c1 rfl rfl rfl rfl (.allocR rfl ze_2_Pa rfl) ?_
    rintro _ H8x5 ⟨v4, rfl, s0, ge8x5, at8x5⟩
    replace r := r.trans s0
    refine ⟨r, ?_⟩
    replace d3 := s0.2 _ _ d3
    replace u := u.trans s0
    refine .r1 rfl rfl rfl (.storeR rfl sz_2_Tb rfl rfl rfl (by assumption) (by first | exact Nat.le_of_ble_eq_true rfl | (simp; done) | (simp <;> omega))) ?_
    rintro _ H1008x5 ⟨rfl, j5, d2⟩
    replace r := r.st j5 (fun k hk => ⟨by omega, trivial⟩)
    refine ⟨r, ?_⟩
    have e0 : NE s9 v4 := .a
    replace d3 := j5.s d3 e0.ne
    try simp only [Nat.zero_add, List.set_cons_succ, List.set_cons_zero] at d2
    replace u := u.st j5 (fun k hk => ⟨by omega, trivial⟩)
    refine .r1 rfl rfl rfl (.storeR rfl sz_2_Tb rfl rfl rfl (by assumption) (by first | exact Nat.le_of_ble_eq_true rfl | (simp; done) | (simp <;> omega))) ?_
    rintro _ H1009x5 ⟨rfl, h9, m8⟩
    replace r := r.st h9 (fun k hk => ⟨by omega, trivial⟩)
    refine ⟨r, ?_⟩
    replace d2 := h9.s d2 (Ne.symm e0.ne)
    try simp only [Nat.zero_add, List.set_cons_succ, List.set_cons_zero] at m8
    replace u := u.st h9 (fun k hk => ⟨by omega, trivial⟩)
    refine .done ?_
    exact ⟨v4, s9, ⟨rfl, rfl, rfl, rfl, rfl, rfl, rfl, rfl, rfl, trivial⟩, u, by omega, by omega, by first | assumption | simpa using d2, by first | assumption | simpa using m8, by omega⟩
   refine .c1 rfl rfl rfl rfl (.allocR rfl ze_2_Pa rfl) ?_
   rintro _ H8x6 ⟨x5, rfl, p3, ge8x6, at8x6⟩
   replace r := r.trans p3
   refine ⟨r, ?_⟩
   replace m := m.trans p3
   replace d3 := p3.2 _ _ d3
   replace u := u.trans p3
   replace h := l.mono m
   replace h' := g.mono m
   clear c1
   refine .callQ1 rfl rfl rfl rfl rfl @Try.call67 rfl (arrows_c) r ?_
   refine .r1 rfl rfl rfl (.storeR rfl sz_2_Tb rfl rfl rfl (by assumption) (by first | exact Nat.le_of_ble_eq_true rfl | (simp; done) | (simp <;> omega))) ?_
   rintro _ H1008x6 ⟨rfl, i7, e1⟩
   replace r := r.st i7 (fun k hk => ⟨by omega, trivial⟩)
   refine ⟨r, ?_⟩
   have e4 : NE s9 x5 := .a
   replace d3 := i7.s d3 e4.ne
   try simp only [Nat.zero_add, List.set_cons_succ, List.set_cons_zero] at e1
   replace u := u.st i7 (fun k hk => ⟨by omega, trivial⟩)
   refine .r1 rfl rfl rfl (.storeR rfl sz_2_Tb rfl rfl rfl (by assumption) (by first | exact Nat.le_of_ble_eq_true rfl | (simp; done) | (simp <;> omega))) ?_
   rintro _ H1009x6 ⟨rfl, j7, n0⟩
   replace r := r.st j7 (fun k hk => ⟨by omega, trivial⟩)
   refine ⟨r, ?_⟩
   replace e1 := j7.s e1 (Ne.symm e4.ne)
   try simp only [Nat.zero_add, List.set_cons_succ, List.set_cons_zero] at n0
   replace u := u.st j7 (fun k hk => ⟨by omega, trivial⟩)
   refine .done ?_
   exact ⟨x5, s9, ⟨rfl, rfl, rfl, rfl, rfl, rfl, rfl, rfl, rfl, trivial⟩, u, by omega, by omega, by first | assumption | simpa using e1, by first | assumption | simpa using n0, by omega⟩
  rintro fr9 H9 ⟨g8, g9, w2, x6, ge8, ge9, a0, m5, ne9_0⟩
  replace m := m.trans x6
  replace e2 := x6.2 _ _ e2
  replace c9 := x6.2 _ _ c9
  replace o2 := x6.2 _ _ o2
  have lt_at8 := GHeap.ltg a0
  have lt_at9 := GHeap.ltg m5
  replace h := l.mono m
  replace h' := g.mono m
  obtain ⟨-, c1, c2, c3, -, i1, -, -, -⟩ := h.get
  obtain ⟨m4, -, -, -, -, -, -, -, -⟩ := h'.get
  refine aT _ _ ?_
  refine .forget w2 ?_
  refine .seq (fun K3 aU => ?_)
  refine .regionD mo_B (.q 0 (.q 1 (.q 2 (.q 3 (.q 4 (.q 5 (.q 6 (.q 7 (.q 8 (.q 9 (.q 11 (.q 12 (.q 13 (.q 14 (.q 16 (.q 17 (.q 18 (.q 19 (.or (.c 10 1 (.or (.c 15 1 (.or (.c 20 1 (.q 21 (.c 22 1 (.c 23 1 (.done))))) (.c 22 1 (.c 20 1 (.q 21 (.c 23 1 (.done))))))) (.c 22 1 (.c 15 1 (.c 20 1 (.q 21 (.c 23 1 (.done)))))))) (.c 22 1 (.c 10 1 (.c 15 1 (.c 20 1 (.q 21 (.c 23 1 (.done)))))))))))))))))))))))))) (by kernel_rfl) ?_
  refine .cut [(0, some _), (1, some _), (2, some _), (3, some _), (4, some _), (6, some _), (7, some _), (8, some _), (9, some _)] ⟨rfl, rfl, rfl, rfl, rfl, rfl, rfl, rfl, rfl, trivial⟩ (fun rest fr' H' => ∃ o4 p6 m7 h1, Sub ((33, some (.slice (some ⟨o4, 0, none⟩) c.src.length c.src.length)) :: (38, some (.slice (some ⟨p6, 0, none⟩) c.tgt.length c.tgt.length)) :: (43, some (.slice (some ⟨m7, 0, none⟩) c.idn.length c.idn.length)) :: (10, some (.pointer (some ⟨h1, 0, none⟩))) :: rest) fr' ∧ H9.Le H' ∧ H9.next ≤ o4 ∧ H9.next ≤ p6 ∧ H9.next ≤ m7 ∧ H9.next ≤ h1 ∧ H'.get o4 = some (.row (ints c.src) 2 true) ∧ H'.get p6 = some (.row (ints c.tgt) 2 true) ∧ H'.get m7 = some (.row (ints c.idn) 2 true) ∧ H'.get h1 = some (.row ([.int .i64 (c.obj + d.obj), .slice (some ⟨o4, 0, none⟩) c.src.length c.src.length, .slice (some ⟨p6, 0, none⟩) c.tgt.length c.tgt.length, .slice (some ⟨m7, 0, none⟩) c.idn.length c.idn.length, .slice none 0 0]) 27 true) ∧ o4 ≠ p6 ∧ o4 ≠ m7 ∧ o4 ≠ h1 ∧ p6 ≠ m7 ∧ p6 ≠ h1 ∧ m7 ≠ h1) ?_ ?_
  ·
   have u := GHeap.Le.refl H9
   refine .q rfl (.load on_2_A rfl (by first | assumption | exact Mem.of_get a0 0 _ rfl)) ?_
   refine .q rfl (.load on_58_F rfl (by first | assumption | exact Mem.of_get c9 0 _ rfl)) ?_
   refine .qB rfl (.refl _) (.nilCheck rfl) (.qB rfl (.refl _) (.fieldAddr fo_27_0_B rfl) ?_)
   refine .q rfl (.load on_2_A rfl (by assumption)) ?_
   refine .qB rfl (.refl _) (.add rfl rfl rfl (by omega) (by omega)) ?_
   refine .q rfl (.load on_58_F rfl (by first | assumption | exact Mem.of_get e2 0 _ rfl)) ?_
   refine .qB rfl (.refl _) (.nilCheck rfl) (.qB rfl (.refl _) (.fieldAddr fo_27_1_B rfl) ?_)
   refine .q rfl (.load on_24_B rfl (by assumption)) ?_
   refine .q rfl (.load on_58_F rfl (by first | assumption | exact Mem.of_get e2 0 _ rfl)) ?_
   refine .qB rfl (.refl _) (.nilCheck rfl) (.qB rfl (.refl _) (.fieldAddr fo_27_2_B rfl) ?_)
   refine .q rfl (.load on_24_B rfl (by assumption)) ?_
   refine .q rfl (.load on_58_F rfl (by first | assumption | exact Mem.of_get e2 0 _ rfl)) ?_
   refine .qB rfl (.refl _) (.nilCheck rfl) (.qB rfl (.refl _) (.fieldAddr fo_27_3_B rfl) ?_)
   refine .q rfl (.load on_24_B rfl (by assumption)) ?_
   refine .orI ?_ ?_
   ·
    refine .call1 rfl rfl rfl rfl rfl @Try.call77 rfl (clone_c) ?_
    rintro _ H33x2 ⟨l9, r9, rfl, t, ge33x2⟩
    have r := l9
    refine ⟨r, ?_⟩
    replace m := m.trans l9
    replace a0 := l9.2 _ _ a0
    have lt_at33x2 := GHeap.ltg t
    replace u := u.trans l9
    refine .orI ?_ ?_
    ·
     replace h := l.mono m
     replace h' := g.mono m
     clear c1 c2 c3 i1 m4
     obtain ⟨-, -, -, -, -, -, i2, -, -⟩ := h.get
     refine .call1 rfl rfl rfl rfl rfl @Try.call77 rfl (clone_c) ?_
     rintro _ H38x2 ⟨j9, t6, rfl, a2, ge38x2⟩
     replace r := r.trans j9
     refine ⟨r, ?_⟩
     replace m := m.trans j9
     replace a0 := j9.2 _ _ a0
     replace t := j9.2 _ _ t
     have lt_at38x2 := GHeap.ltg a2
     replace u := u.trans j9
     refine .orI ?_ ?_
     ·
      replace h := l.mono m
      replace h' := g.mono m
      clear i2
      obtain ⟨c0, c1, c2, c3, c4, i1, i2, i3, i4⟩ := h.get
      have hm : MemN _ _ _ _ _ := ⟨rfl, h.1⟩
      have hi := h.2
      obtain ⟨m4, k5, n8, l0, n3, l8, n4, l6, n1⟩ := h'.get
      have hmb : MemN _ _ _ _ _ := ⟨rfl, h'.1⟩
      have hib := h'.2
      refine .call1 rfl rfl rfl rfl rfl @Try.call77 rfl (clone_c) ?_
      rintro _ H43x2 ⟨i0, x3, rfl, f9, ge43x2⟩
      replace r := r.trans i0
      refine ⟨r, ?_⟩
      replace a0 := i0.2 _ _ a0
      replace t := i0.2 _ _ t
      replace a2 := i0.2 _ _ a2
      have lt_at43x2 := GHeap.ltg f9
      replace u := u.trans i0
      refine .qB rfl r (.build bt_27_Hj rfl rfl rfl) ?_
      refine .c1 rfl rfl rfl rfl (.allocR rfl ze_27_Hj rfl) ?_
      rintro _ H10x2 ⟨w3, rfl, f3, ge10x2, at10x2⟩
      replace r := r.trans f3
      refine ⟨r, ?_⟩
      replace a0 := f3.2 _ _ a0
      replace t := f3.2 _ _ t
      replace a2 := f3.2 _ _ a2
      replace f9 := f3.2 _ _ f9
      replace u := u.trans f3
      refine .r1 rfl rfl rfl (.fillA rfl sz_27_D rfl rfl rfl rfl) ?_
      rintro _ H2023 ⟨rfl, e8, u3⟩
      replace r := r.st e8 (fun k hk => ⟨by omega, trivial⟩)
      refine ⟨r, ?_⟩
      replace a0 := e8.s a0
      replace t := e8.s t
      replace a2 := e8.s a2
      replace f9 := e8.s f9
      replace u := u.st e8 (fun k hk => ⟨by omega, trivial⟩)
      refine .done ?_
      exact ⟨r9, t6, x3, w3, ⟨rfl, rfl, rfl, rfl, rfl, rfl, rfl, rfl, rfl, rfl, rfl, rfl, rfl, trivial⟩, u, by omega, by omega, by omega, by omega, by first | assumption | simpa using t, by first | assumption | simpa using a2, by first | assumption | simpa using f9, by first | assumption | simpa using u3, by omega, by omega, by omega, by omega, by omega, by omega⟩
     refine .c1 rfl rfl rfl rfl (.allocR rfl ze_27_Hj rfl) ?_
     rintro _ H10x3 ⟨v8, rfl, f5, ge10x3, p0⟩
     replace r := r.trans f5
     refine ⟨r, ?_⟩
     replace m := m.trans f5
     replace a0 := f5.2 _ _ a0
     replace t := f5.2 _ _ t
     replace a2 := f5.2 _ _ a2
     have lt_at10x3 := GHeap.ltg p0
     replace u := u.trans f5
     replace h := l.mono m
     replace h' := g.mono m
     clear c1
     obtain ⟨-, -, -, -, -, -, -, i3, -⟩ := h.get
     refine .call1 rfl rfl rfl rfl rfl @Try.call77 rfl (clone_c) ?_
     rintro _ H43x3 ⟨f4, v5, rfl, p1, ge43x3⟩
     replace r := r.trans f4
     refine ⟨r, ?_⟩
     replace a0 := f4.2 _ _ a0
     replace t := f4.2 _ _ t
     replace a2 := f4.2 _ _ a2
     replace p0 := f4.2 _ _ p0
     replace u := u.trans f4
     refine .qB rfl r (.build bt_27_Hj rfl rfl rfl) ?_
     refine .r1 rfl rfl rfl (.fillA rfl sz_27_D rfl rfl rfl rfl) ?_
     rintro _ H2023x2 ⟨rfl, a9, s2⟩
     replace r := r.st a9 (fun k hk => ⟨by omega, trivial⟩)
     refine ⟨r, ?_⟩
     replace a0 := a9.s a0
     replace t := a9.s t
     replace a2 := a9.s a2
     replace p1 := a9.s p1
     replace u := u.st a9 (fun k hk => ⟨by omega, trivial⟩)
     refine .done ?_
     exact ⟨r9, t6, v5, v8, ⟨rfl, rfl, rfl, rfl, rfl, rfl, rfl, rfl, rfl, rfl, rfl, rfl, rfl, trivial⟩, u, by omega, by omega, by omega, by omega, by first | assumption | simpa using t, by first | assumption | simpa using a2, by first | assumption | simpa using p1, by first | assumption | simpa using s2, by omega, by omega, by omega, by omega, by omega, by omega⟩
    refine .c1 rfl rfl rfl rfl (.allocR rfl ze_27_Hj rfl) ?_
    rintro _ H10x4 ⟨w9, rfl, k1, ge10x4, h8⟩
    replace r := r.trans k1
    refine ⟨r, ?_⟩
    replace m := m.trans k1
    replace a0 := k1.2 _ _ a0
    replace t := k1.2 _ _ t
    have lt_at10x4 := GHeap.ltg h8
    replace u := u.trans k1
    replace h := l.mono m
    replace h' := g.mono m
    clear c1
    obtain ⟨-, -, -, -, -, -, i2, -, -⟩ := h.get
    refine .call1 rfl rfl rfl rfl rfl @Try.call77 rfl (clone_c) ?_
    rintro _ H38x3 ⟨e5, v9, rfl, f0, ge38x3⟩
    replace r := r.trans e5
    refine ⟨r, ?_⟩
    replace m := m.trans e5
    replace a0 := e5.2 _ _ a0
    replace t := e5.2 _ _ t
    replace h8 := e5.2 _ _ h8
    have lt_at38x3 := GHeap.ltg f0
    replace u := u.trans e5
    replace h := l.mono m
    replace h' := g.mono m
    clear i2
    obtain ⟨-, -, -, -, -, -, -, i3, -⟩ := h.get
    refine .call1 rfl rfl rfl rfl rfl @Try.call77 rfl (clone_c) ?_
    rintro _ H43x4 ⟨f2, v0, rfl, o6, ge43x4⟩
    replace r := r.trans f2
    refine ⟨r, ?_⟩
    replace a0 := f2.2 _ _ a0
    replace t := f2.2 _ _ t
    replace h8 := f2.2 _ _ h8
    replace f0 := f2.2 _ _ f0
    replace u := u.trans f2
    refine .qB rfl r (.build bt_27_Hj rfl rfl rfl) ?_
    refine .r1 rfl rfl rfl (.fillA rfl sz_27_D rfl rfl rfl rfl) ?_
    rintro _ H2023x3 ⟨rfl, b0, q0⟩
    replace r := r.st b0 (fun k hk => ⟨by omega, trivial⟩)
    refine ⟨r, ?_⟩
    replace a0 := b0.s a0
    replace t := b0.s t
    replace f0 := b0.s f0
    replace o6 := b0.s o6
    replace u := u.st b0 (fun k hk => ⟨by omega, trivial⟩)
    refine .done ?_
    exact ⟨r9, v9, v0, w9, ⟨rfl, rfl, rfl, rfl, rfl, rfl, rfl, rfl, rfl, rfl, rfl, rfl, rfl, trivial⟩, u, by omega, by omega, by omega, by omega, by first | assumption | simpa using t, by first | assumption | simpa using f0, by first | assumption | simpa using o6, by first | assumption | simpa using q0, by omega, by omega, by omega, by omega, by omega, by omega⟩
   refine .c1 rfl rfl rfl rfl (.allocR rfl ze_27_Hj rfl) ?_
   rintro _ H10x5 ⟨u9, rfl, m6, ge10x5, d0⟩
   have r := m6
   refine ⟨r, ?_⟩
   replace m := m.trans m6
   replace a0 := m6.2 _ _ a0
   have lt_at10x5 := GHeap.ltg d0
   replace u := u.trans m6
   replace h := l.mono m
   replace h' := g.mono m
   clear c1
   obtain ⟨-, -, -, -, -, i1, -, -, -⟩ := h.get
   refine .call1 rfl rfl rfl rfl rfl @Try.call77 rfl (clone_c) ?_
   rintro _ H33x3 ⟨i9, v7, rfl, b9, ge33x3⟩
   replace r := r.trans i9
   refine ⟨r, ?_⟩
   replace m := m.trans i9
   replace a0 := i9.2 _ _ a0
   replace d0 := i9.2 _ _ d0
   have lt_at33x3 := GHeap.ltg b9
   replace u := u.trans i9
   replace h := l.mono m
   replace h' := g.mono m
   clear i1
   obtain ⟨-, -, -, -, -, -, i2, -, -⟩ := h.get
   refine .call1 rfl rfl rfl rfl rfl @Try.call77 rfl (clone_c) ?_
   rintro _ H38x4 ⟨f1, w5, rfl, f7, ge38x4⟩
   replace r := r.trans f1
   refine ⟨r, ?_⟩
   replace m := m.trans f1
   replace a0 := f1.2 _ _ a0
   replace d0 := f1.2 _ _ d0
   replace b9 := f1.2 _ _ b9
   have lt_at38x4 := GHeap.ltg f7
   replace u := u.trans f1
   replace h := l.mono m
   replace h' := g.mono m
   clear i2
   obtain ⟨-, -, -, -, -, -, -, i3, -⟩ := h.get
   refine .call1 rfl rfl rfl rfl rfl @Try.call77 rfl (clone_c) ?_
   rintro _ H43x5 ⟨f8, w4, rfl, o3, ge43x5⟩
   replace r := r.trans f8
   refine ⟨r, ?_⟩
   replace a0 := f8.2 _ _ a0
   replace d0 := f8.2 _ _ d0
   replace b9 := f8.2 _ _ b9
   replace f7 := f8.2 _ _ f7
   replace u := u.trans f8
   refine .qB rfl r (.build bt_27_Hj rfl rfl rfl) ?_
   refine .r1 rfl rfl rfl (.fillA rfl sz_27_D rfl rfl rfl rfl) ?_
   rintro _ H2023x4 ⟨rfl, b3, r3⟩
   replace r := r.st b3 (fun k hk => ⟨by omega, trivial⟩)
   refine ⟨r, ?_⟩
   replace a0 := b3.s a0
   replace b9 := b3.s b9
   replace f7 := b3.s f7
   replace o3 := b3.s o3
   replace u := u.st b3 (fun k hk => ⟨by omega, trivial⟩)
   refine .done ?_
   exact ⟨v7, w5, w4, u9, ⟨rfl, rfl, rfl, rfl, rfl, rfl, rfl, rfl, rfl, rfl, rfl, rfl, rfl, trivial⟩, u, by omega, by omega, by omega, by omega, by first | assumption | simpa using b9, by first | assumption | simpa using f7, by first | assumption | simpa using o3, by first | assumption | simpa using r3, by omega, by omega, by omega, by omega, by omega, by omega⟩
  rintro fr10 y6 ⟨o4, p6, m7, h1, u4, o5, ge33, ge38, ge43, ge10, z1, at38, u5, y2, ne10_0, ne10_1, ne10_2, ne10_3, ne10_4, ne10_5⟩
  have nx_H10 := o5.1
  replace m := m.trans o5
  replace e2 := o5.2 _ _ e2
  replace c9 := o5.2 _ _ c9
  replace o2 := o5.2 _ _ o2
  replace a0 := o5.2 _ _ a0
  replace m5 := o5.2 _ _ m5
  have lt_at33 := GHeap.ltg z1
  have lt_at43 := GHeap.ltg u5
  have lt_at10 := GHeap.ltg y2
  replace h := l.mono m
  replace h' := g.mono m
  obtain ⟨-, k5, -, -, -, -, -, -, -⟩ := h'.get
  refine aU _ _ ?_
  refine .forget u4 ?_
  refine .seq (fun K4 aJ => .seq (fun K5 aK => .region ?_))
  refine .q rfl (.load on_58_F rfl (by first | assumption | exact Mem.of_get c9 0 _ rfl)) ?_
  refine .q rfl (.nilCheck rfl) (.q rfl (.fieldAddr fo_27_1_B rfl) ?_)
  refine .q rfl (.load on_24_B rfl (by assumption)) ?_
  refine .q rfl (.len sl_24_A rfl) (.mv rfl (.nil (aK _ _ ?_)))
  refine .block ?_
  refine .loopR (σ := Nat × Nat × Nat) [(2, some _), (3, some _), (4, some _), (6, some _), (8, some _), (9, some _), (10, some _), (49, some _)] (fun (f, gLF, gLT) => [(50, some (.int .i64 (f : Int)))]) (fun (f, gLF, gLT) H' => St [o4, p6, h1] y6 H' ∧ H'.get gLF = some (.row (ints (plA c.src d.src c.obj f)) 2 true) ∧ PL gLF o4 y6.next ∧ H'.get gLT = some (.row (ints (plA c.tgt d.tgt c.obj f)) 2 true) ∧ PL gLT p6 y6.next ∧ H'.get h1 = some (.row ([.int .i64 (c.obj + d.obj), .slice (some ⟨gLF, 0, none⟩) (plA c.src d.src c.obj f).length (plA c.src d.src c.obj f).length, .slice (some ⟨gLT, 0, none⟩) (plA c.tgt d.tgt c.obj f).length (plA c.tgt d.tgt c.obj f).length, .slice (some ⟨m7, 0, none⟩) c.idn.length c.idn.length, .slice none 0 0]) 27 true) ∧ gLF ≠ gLT ∧ gLF ≠ h1 ∧ gLT ≠ h1 ∧ f ≤ d.src.length) (fun (f, gLF, gLT) => d.src.length - f) ((0, o4, p6)) ⟨rfl, rfl, rfl, rfl, rfl, rfl, rfl, rfl, trivial⟩ ⟨rfl, trivial⟩ ?_ ?_
  ·
   refine ⟨.refl _ _, by first | assumption | (rw [plA_zero]; assumption) | (rw [plA_zero, plA_zero]; assumption), ⟨.inl rfl⟩, by first | assumption | (rw [plA_zero]; assumption) | (rw [plA_zero, plA_zero]; assumption), ⟨.inl rfl⟩, by first | assumption | (rw [plA_zero]; assumption) | (rw [plA_zero, plA_zero]; assumption), by omega, by omega, by omega, ?_⟩
   omega
  rintro ⟨f, gLF, gLT⟩ HL1 ⟨a8, a3, g7, y, j0, o, w1, p8, p5, hI⟩ KL1 y8
  refine .forget (fr' := [(50, some (.int .i64 (f : Int))), (2, some _), (3, some _), (4, some _), (6, some _), (8, some _), (9, some _), (10, some _), (49, some _)]) ⟨rfl, rfl, rfl, rfl, rfl, rfl, rfl, rfl, rfl, trivial⟩ ?_
  have x0 : H.next ≤ gLF := g7.ge (by omega) (by omega)
  have v1 : H.next ≤ gLT := j0.ge (by omega) (by omega)
  have nx_HL1 := a8.nx
  replace m := m.st a8 (fun k hk => ⟨by omega, by omega, by omega, trivial⟩)
  have f6 : NE g3 h1 := .a
  replace e2 := a8.same _ _ ⟨(by first | assumption | omega), (by first | assumption | omega), f6.ne, trivial⟩ e2
  have k7 : NE g4 o4 := .a
  have c6 : NE g4 h1 := .a
  replace c9 := a8.same _ _ ⟨k7.ne, (by first | assumption | omega), c6.ne, trivial⟩ c9
  have c5 : NE g6 o4 := .a
  have c7 : NE g6 p6 := .a
  have b1 : NE g6 h1 := .a
  replace o2 := a8.same _ _ ⟨c5.ne, c7.ne, b1.ne, trivial⟩ o2
  have k6 : NE g8 o4 := .a
  have k8 : NE g8 p6 := .a
  have a7 : NE g8 h1 := .a
  replace a0 := a8.same _ _ ⟨k6.ne, k8.ne, a7.ne, trivial⟩ a0
  have g5 : NE g9 h1 := .a
  replace m5 := a8.same _ _ ⟨(by first | assumption | omega), (by first | assumption | omega), g5.ne, trivial⟩ m5
  have k4 : NE m7 o4 := .a
  have j4 : NE m7 p6 := .a
  replace u5 := a8.same _ _ ⟨k4.ne, j4.ne, (by first | assumption | omega), trivial⟩ u5
  have lt_at_LF := GHeap.ltg a3
  have lt_at_LT := GHeap.ltg y
  have o8 := GHeap.ltg o
  replace h := l.mono m
  replace h' := g.mono m
  clear k5
  obtain ⟨-, k5, -, l0, -, l8, -, -, -⟩ := h'.get
  have l1 := plA_len (xs := c.src) (k := c.obj) hI
  have l2 := plA_len (xs := c.tgt) (ys := d.tgt) (k := c.obj) (f := f) (by omega)
  refine .seq (fun K6 aL => .region (.q rfl (.cmp rfl rfl rfl) (.nil (aL _ _ (.seq (fun K7 aS => ?_))))))
  refine .cond rfl (fun z5 => ?_) (fun z5 => ?_)
  ·
   simp only [sps] at z5
   have eS := plA_succ (xs := c.src) (ys := d.src) (k := c.obj) (f := f) (by omega)
   have eT := plA_succ (xs := c.tgt) (ys := d.tgt) (k := c.obj) (f := f) (by omega)
   have eSl : (plA c.src d.src c.obj (f + 1)).length = (plA c.src d.src c.obj f).length + 1 := by rw [eS, List.length_append]; rfl
   have eTl : (plA c.tgt d.tgt c.obj (f + 1)).length = (plA c.tgt d.tgt c.obj f).length + 1 := by rw [eT, List.length_append]; rfl
   have s1 := sd.src f (by omega)
   have t1 := sd.tgt f (by omega)
   refine .skip ?_
   refine aS _ _ (.seq (fun K8 aI => ?_))
   refine .block ?_
   refine .seq (fun K9 aQ => .region (.mv rfl (.mv rfl (.nil (aQ _ _ (.seq (fun K10 y1 => ?_)))))))
   refine .regionD mo_B (.q 0 (.q 1 (.q 2 (.q 3 (.q 4 (.q 5 (.q 6 (.q 7 (.q 8 (.q 9 (.q 10 (.c 11 1 (.c 12 0 (.q 13 (.c 14 0 (.done)))))))))))))))) (by kernel_rfl) ?_
   refine .q rfl (.fieldAddr fo_27_1_B rfl) ?_
   refine .q rfl (.load on_24_B rfl (by first | assumption | exact Mem.of_get o 1 _ rfl)) ?_
   refine .q rfl (.load on_2_A rfl (by first | assumption | exact Mem.of_get a0 0 _ rfl)) ?_
   refine .q rfl (.load on_58_F rfl (by first | assumption | exact Mem.of_get c9 0 _ rfl)) ?_
   refine .q rfl (.nilCheck rfl) (.q rfl (.fieldAddr fo_27_1_B rfl) ?_)
   refine .q rfl (.load on_24_B rfl (by assumption)) ?_
   refine .mv rfl rfl ?_
   refine .q rfl (.idxN sl_24_A (by assumption) rfl rfl (by omega)) ?_
   refine .q rfl (.loadI on_2_A (by assumption) rfl (by omega)) ?_
   refine .q rfl (.add rfl rfl rfl (by omega) (by omega)) ?_
   refine .c1 rfl rfl rfl rfl (.litA rfl sl_24_A ze_2_Pa rfl rfl rfl rfl) ?_
   rintro _ H64 ⟨g64, rfl, m9, ge64, aD⟩
   have r := m9
   refine ⟨r, ?_⟩
   replace m := m.trans m9
   replace a8 := a8.le m9
   replace c9 := m9.2 _ _ c9
   replace a0 := m9.2 _ _ a0
   replace a3 := m9.2 _ _ a3
   replace y := m9.2 _ _ y
   replace o := m9.2 _ _ o
   have lt_at64 := GHeap.ltg aD
   replace h := l.mono m
   replace h' := g.mono m
   clear c1 k5 l0 l8
   refine .c0 rfl rfl rfl rfl (.appendI rfl sl_24_A ze_2_Pa rfl by_2_Pa sl_24_A rfl rfl (by assumption) (by assumption) (by first | omega | (simp <;> omega)) (by omega) (by omega)) ?_
   rintro _ H65 ⟨aG, rfl, p7, ge65, m0⟩
   replace m := m.st p7 (fun k hk => ⟨by omega, trivial⟩)
   replace a8 := a8.sP p7
   replace c9 := p7.same _ _ ⟨(g7.ne k7.ne (by omega)), trivial⟩ c9
   replace a0 := p7.same _ _ ⟨(g7.ne k6.ne (by omega)), trivial⟩ a0
   replace y := p7.same _ _ ⟨(Ne.symm w1), trivial⟩ y
   replace o := p7.same _ _ ⟨(Ne.symm p8), trivial⟩ o
   have lt_at65 := GHeap.ltg m0
   replace h := l.mono m
   replace h' := g.mono m
   clear c0
   refine .q rfl (.fieldAddr fo_27_1_B rfl) ?_
   refine .r0 rfl rfl rfl (.storeR rfl sz_24_Tb rfl rfl rfl (by assumption) (by first | exact Nat.le_of_ble_eq_true rfl | (simp; done) | (simp <;> omega))) ?_
   rintro _ H6014 ⟨rfl, d1, e7⟩
   have nx_H6014 := d1.nx
   replace m := m.st d1 (fun k hk => ⟨by omega, trivial⟩)
   replace a8 := a8.sA d1
   replace c9 := d1.s c9 c6.ne
   replace a0 := d1.s a0 a7.ne
   replace y := d1.same _ _ ⟨p5, trivial⟩ y
   have k3 : NE aG h1 := .a
   replace m0 := d1.s m0 k3.ne
   replace h := l.mono m
   replace h' := g.mono m
   obtain ⟨c0, c1, c2, c3, c4, i1, i2, i3, i4⟩ := h.get
   have hm : MemN _ _ _ _ _ := ⟨rfl, h.1⟩
   have hi := h.2
   obtain ⟨m4, k5, n8, l0, n3, l8, n4, l6, n1⟩ := h'.get
   have hmb : MemN _ _ _ _ _ := ⟨rfl, h'.1⟩
   have hib := h'.2
   try simp only [Nat.zero_add, List.set_cons_succ, List.set_cons_zero] at e7
   refine .done ?_
   refine y1 _ _ ?_
   refine .regionD mo_B (.q 0 (.q 1 (.q 2 (.q 3 (.q 4 (.q 5 (.q 6 (.q 7 (.q 8 (.q 9 (.q 10 (.c 11 1 (.c 12 0 (.q 13 (.c 14 0 (.done)))))))))))))))) (by kernel_rfl) ?_
   refine .q rfl (.fieldAddr fo_27_2_B rfl) ?_
   refine .q rfl (.load on_24_B rfl (by first | assumption | exact Mem.of_get e7 2 _ rfl)) ?_
   refine .q rfl (.load on_2_A rfl (by first | assumption | exact Mem.of_get a0 0 _ rfl)) ?_
   refine .q rfl (.load on_58_F rfl (by first | assumption | exact Mem.of_get c9 0 _ rfl)) ?_
   refine .q rfl (.nilCheck rfl) (.q rfl (.fieldAddr fo_27_2_B rfl) ?_)
   refine .q rfl (.load on_24_B rfl (by assumption)) ?_
   refine .mv rfl rfl ?_
   refine .q rfl (.idxN sl_24_A (by assumption) rfl rfl (by omega)) ?_
   refine .q rfl (.loadI on_2_A (by assumption) rfl (by omega)) ?_
   refine .q rfl (.add rfl rfl rfl (by omega) (by omega)) ?_
   refine .c1 rfl rfl rfl rfl (.litA rfl sl_24_A ze_2_Pa rfl rfl rfl rfl) ?_
   rintro _ H78 ⟨g78, rfl, o9, ge78, y9⟩
   have r := o9
   refine ⟨r, ?_⟩
   replace m := m.trans o9
   replace a8 := a8.le o9
   replace a0 := o9.2 _ _ a0
   replace y := o9.2 _ _ y
   replace m0 := o9.2 _ _ m0
   replace e7 := o9.2 _ _ e7
   have lt_at78 := GHeap.ltg y9
   replace h := l.mono m
   replace h' := g.mono m
   clear c0 c1 c2 c3 c4 i1 i2 i3 i4 hm hi m4 k5 n8 l0 n3 l8 n4 l6 n1 hmb hib
   obtain ⟨c0, c1, c2, c3, c4, i1, i2, i3, i4⟩ := h.get
   have hm : MemN _ _ _ _ _ := ⟨rfl, h.1⟩
   have hi := h.2
   obtain ⟨m4, k5, n8, l0, n3, l8, n4, l6, n1⟩ := h'.get
   have hmb : MemN _ _ _ _ _ := ⟨rfl, h'.1⟩
   have hib := h'.2
   refine .c0 rfl rfl rfl rfl (.appendI rfl sl_24_A ze_2_Pa rfl by_2_Pa sl_24_A rfl rfl (by assumption) (by assumption) (by first | omega | (simp <;> omega)) (by omega) (by omega)) ?_
   rintro _ H79 ⟨aN, rfl, r4, ge79, x2⟩
   replace m := m.st r4 (fun k hk => ⟨by omega, trivial⟩)
   replace a8 := a8.sP r4
   replace a0 := r4.same _ _ ⟨(j0.ne k8.ne (by omega)), trivial⟩ a0
   replace m0 := r4.s m0
   replace e7 := r4.same _ _ ⟨(Ne.symm p5), trivial⟩ e7
   replace h := l.mono m
   replace h' := g.mono m
   clear c0 c1 c2 c3 c4 i1 i2 i3 i4 hm hi m4 k5 n8 l0 n3 l8 n4 l6 n1 hmb hib
   refine .q rfl (.fieldAddr fo_27_2_B rfl) ?_
   refine .r0 rfl rfl rfl (.storeR rfl sz_24_Tb rfl rfl rfl (by assumption) (by first | exact Nat.le_of_ble_eq_true rfl | (simp; done) | (simp <;> omega))) ?_
   rintro _ H7014 ⟨rfl, j1, u1⟩
   replace m := m.st j1 (fun k hk => ⟨by omega, trivial⟩)
   replace a8 := a8.sA j1
   replace a0 := j1.s a0 a7.ne
   replace m0 := j1.s m0 k3.ne
   replace x2 := j1.s x2
   replace h := l.mono m
   replace h' := g.mono m
   try simp only [Nat.zero_add, List.set_cons_succ, List.set_cons_zero] at u1
   refine .done ?_
   refine aI _ _ (.region ?_)
   refine .q rfl (.add rfl rfl rfl (by omega) (by omega)) ?_
   refine .mv rfl (.nil ?_)
   refine y8 ((f + 1, aG, aN)) _ _ ?_ ?_ ⟨rfl, rfl, rfl, rfl, rfl, rfl, rfl, rfl, rfl, trivial⟩
   ·
    refine ⟨a8, by first | assumption | (rw [eS]; assumption) | (rw [eT]; assumption) | (rw [eSl, eTl]; assumption), by first | assumption | exact ⟨.inr (by omega)⟩ | exact ⟨.inl rfl⟩, by first | assumption | (rw [eS]; assumption) | (rw [eT]; assumption) | (rw [eSl, eTl]; assumption), by first | assumption | exact ⟨.inr (by omega)⟩ | exact ⟨.inl rfl⟩, by first | assumption | (rw [eS]; assumption) | (rw [eT]; assumption) | (rw [eSl, eTl]; assumption), by first | assumption | omega, by first | assumption | omega, by first | assumption | omega, ?_⟩
    omega
   (dsimp only; omega)
  try simp only [sps] at z5
  refine .exit ?_
  refine aJ _ _ (.seq (fun K11 z3 => .seq (fun K12 z2 => .region ?_)))
  refine .q rfl (.load on_58_F rfl (by first | assumption | exact Mem.of_get c9 0 _ rfl)) ?_
  refine .q rfl (.nilCheck rfl) (.q rfl (.fieldAddr fo_27_3_B rfl) ?_)
  refine .q rfl (.load on_24_B rfl (by assumption)) ?_
  refine .q rfl (.len sl_24_A rfl) (.mv rfl (.nil (z2 _ _ ?_)))
  refine .block ?_
  refine .loopR (σ := Nat × Nat) [(2, some _), (3, some _), (4, some _), (6, some _), (8, some _), (9, some _), (10, some _), (85, some _), (86, some _)] (fun (x, gLI) => [(87, some (.int .i64 (x : Int)))]) (fun (x, gLI) H' => St [m7, h1] HL1 H' ∧ H'.get gLI = some (.row (ints (plA c.idn d.idn c.src.length x)) 2 true) ∧ PL gLI m7 HL1.next ∧ H'.get h1 = some (.row ([.int .i64 (c.obj + d.obj), .slice (some ⟨gLF, 0, none⟩) (plA c.src d.src c.obj f).length (plA c.src d.src c.obj f).length, .slice (some ⟨gLT, 0, none⟩) (plA c.tgt d.tgt c.obj f).length (plA c.tgt d.tgt c.obj f).length, .slice (some ⟨gLI, 0, none⟩) (plA c.idn d.idn c.src.length x).length (plA c.idn d.idn c.src.length x).length, .slice none 0 0]) 27 true) ∧ gLI ≠ h1 ∧ x ≤ d.idn.length) (fun (x, gLI) => d.idn.length - x) ((0, m7)) ⟨rfl, rfl, rfl, rfl, rfl, rfl, rfl, rfl, rfl, trivial⟩ ⟨rfl, trivial⟩ ?_ ?_
  ·
   refine ⟨.refl _ _, by first | assumption | (rw [plA_zero]; assumption), ⟨.inl rfl⟩, by first | assumption | (rw [plA_zero]; assumption), by omega, ?_⟩
   omega
  rintro ⟨x, gLI⟩ HL2 ⟨b5, a6, h0, o, t0, hI⟩ KL2 z0
  refine .forget (fr' := [(87, some (.int .i64 (x : Int))), (2, some _), (3, some _), (4, some _), (6, some _), (8, some _), (9, some _), (10, some _), (85, some _), (86, some _)]) ⟨rfl, rfl, rfl, rfl, rfl, rfl, rfl, rfl, rfl, rfl, trivial⟩ ?_
  have x1 : H.next ≤ gLI := h0.ge (by omega) (by omega)
  have nx_HL2 := b5.nx
  replace m := m.st b5 (fun k hk => ⟨by omega, by omega, trivial⟩)
  replace e2 := b5.same _ _ ⟨(by first | assumption | omega), f6.ne, trivial⟩ e2
  replace c9 := b5.same _ _ ⟨(by first | assumption | omega), c6.ne, trivial⟩ c9
  have c8 : NE g6 m7 := .a
  replace o2 := b5.same _ _ ⟨c8.ne, b1.ne, trivial⟩ o2
  have k9 : NE g8 m7 := .a
  replace a0 := b5.same _ _ ⟨k9.ne, a7.ne, trivial⟩ a0
  replace m5 := b5.same _ _ ⟨(by first | assumption | omega), g5.ne, trivial⟩ m5
  have j6 : NE m7 gLF := ⟨g7.ne k4.ne (by omega)⟩
  replace a3 := b5.same _ _ ⟨(Ne.symm j6.ne), p8, trivial⟩ a3
  have h4 : NE m7 gLT := ⟨j0.ne j4.ne (by omega)⟩
  replace y := b5.same _ _ ⟨(Ne.symm h4.ne), p5, trivial⟩ y
  have lt_at_LI := GHeap.ltg a6
  have o8 := GHeap.ltg o
  replace h := l.mono m
  replace h' := g.mono m
  obtain ⟨-, -, -, -, -, -, -, l6, -⟩ := h'.get
  have l3 := plA_len (xs := c.idn) (k := (c.src.length : Int)) hI
  refine .seq (fun K13 z4 => .region (.q rfl (.cmp rfl rfl rfl) (.nil (z4 _ _ (.seq (fun K14 z8 => ?_))))))
  refine .cond rfl (fun x9 => ?_) (fun x9 => ?_)
  ·
   simp only [sps] at x9
   have eI := plA_succ (xs := c.idn) (ys := d.idn) (k := (c.src.length : Int)) (f := x) (by omega)
   have eIl : (plA c.idn d.idn c.src.length (x + 1)).length = (plA c.idn d.idn c.src.length x).length + 1 := by rw [eI, List.length_append]; rfl
   have s1 := sd.idn x (by omega)
   refine .skip ?_
   refine z8 _ _ (.seq (fun K15 x8 => ?_))
   refine .block ?_
   refine .seq (fun K16 z9 => .region ?_)
   refine .q rfl (.idxN sl_24_A (by assumption) rfl rfl (by omega)) ?_
   refine .q rfl (.loadI on_2_A (by assumption) rfl (by omega)) ?_
   refine .mv rfl (.nil (z9 _ _ (.region (.q rfl (.fieldAddr fo_27_3_B rfl) ?_))))
   refine .q rfl (.load on_24_B rfl (by first | assumption | exact Mem.of_get o 3 _ rfl)) ?_
   refine .q rfl (.load on_2_A rfl (by first | assumption | exact Mem.of_get m5 0 _ rfl)) ?_
   refine .mv rfl ?_
   refine .q rfl (.add rfl rfl rfl (by omega) (by omega)) ?_
   refine .R rfl (.litA rfl sl_24_A ze_2_Pa rfl rfl rfl rfl) ?_
   rintro _ H96 ⟨g96, rfl, q9, ge96, aC⟩
   replace m := m.trans q9
   replace b5 := b5.le q9
   replace a0 := q9.2 _ _ a0
   replace a6 := q9.2 _ _ a6
   replace o := q9.2 _ _ o
   have lt_at96 := GHeap.ltg aC
   replace h := l.mono m
   replace h' := g.mono m
   clear l6
   refine .R rfl (.appendI rfl sl_24_A ze_2_Pa rfl by_2_Pa sl_24_A rfl rfl (by assumption) (by assumption) (by first | omega | (simp <;> omega)) (by omega) (by omega)) ?_
   rintro _ H97 ⟨aP, rfl, s5, ge97, w8⟩
   replace m := m.st s5 (fun k hk => ⟨by omega, trivial⟩)
   replace b5 := b5.sP s5
   replace a0 := s5.same _ _ ⟨(h0.ne k9.ne (by omega)), trivial⟩ a0
   replace o := s5.same _ _ ⟨(Ne.symm t0), trivial⟩ o
   replace h := l.mono m
   replace h' := g.mono m
   refine .q rfl (.fieldAddr fo_27_3_B rfl) ?_
   refine .r0 rfl rfl (.storeR rfl sz_24_Tb rfl rfl rfl (by assumption) (by first | exact Nat.le_of_ble_eq_true rfl | (simp; done) | (simp <;> omega))) ?_
   rintro _ H12008 ⟨rfl, h3, s7⟩
   replace m := m.st h3 (fun k hk => ⟨by omega, trivial⟩)
   replace b5 := b5.sA h3
   replace a0 := h3.s a0 a7.ne
   replace w8 := h3.s w8
   replace h := l.mono m
   replace h' := g.mono m
   have hib := h'.2
   try simp only [Nat.zero_add, List.set_cons_succ, List.set_cons_zero] at s7
   refine .nil (x8 _ _ (.region ?_))
   refine .q rfl (.add rfl rfl rfl (by omega) (by omega)) ?_
   refine .mv rfl (.nil ?_)
   refine z0 ((x + 1, aP)) _ _ ?_ ?_ ⟨rfl, rfl, rfl, rfl, rfl, rfl, rfl, rfl, rfl, rfl, trivial⟩
   ·
    refine ⟨b5, by first | assumption | (rw [eI]; assumption) | (rw [eIl]; assumption), by first | assumption | exact ⟨.inr (by omega)⟩ | exact ⟨.inl rfl⟩, by first | assumption | (rw [eI]; assumption) | (rw [eIl]; assumption), by first | assumption | omega, ?_⟩
    omega
   (dsimp only; omega)
  try simp only [sps] at x9
  refine .exit ?_
  refine z3 _ _ (.seq (fun K17 z7 => .region ?_))
  obtain rfl : f = d.src.length := by omega
  obtain rfl : x = d.idn.length := by omega
  have l4 : (plA c.tgt d.tgt c.obj d.src.length).length = (plA c.src d.src c.obj d.src.length).length := by omega
  rw [l4] at o
  refine .callQ rfl rfl rfl rfl @Try.call67 rfl (arrowsN_c (by assumption)) ?_
  refine .R rfl (.allocR rfl ze_2_Pa rfl) ?_
  rintro _ H14 ⟨aF, rfl, h2, ge14, y5⟩
  have nx_H14 := h2.1
  replace m := m.trans h2
  replace b5 := b5.le h2
  replace e2 := h2.2 _ _ e2
  replace c9 := h2.2 _ _ c9
  replace o2 := h2.2 _ _ o2
  replace a0 := h2.2 _ _ a0
  replace m5 := h2.2 _ _ m5
  replace a3 := h2.2 _ _ a3
  replace y := h2.2 _ _ y
  replace a6 := h2.2 _ _ a6
  replace o := h2.2 _ _ o
  have lt_at14 := GHeap.ltg y5
  replace h := l.mono m
  replace h' := g.mono m
  obtain ⟨c0, c1, c2, c3, c4, i1, i2, i3, i4⟩ := h.get
  have hm : MemN _ _ _ _ _ := ⟨rfl, h.1⟩
  have hi := h.2
  obtain ⟨m4, k5, n8, l0, n3, l8, n4, l6, n1⟩ := h'.get
  have hmb : MemN _ _ _ _ _ := ⟨rfl, h'.1⟩
  have hib := h'.2
  refine .r0 rfl rfl (.storeR rfl sz_2_Tb rfl rfl rfl (by assumption) (by first | exact Nat.le_of_ble_eq_true rfl | (simp; done) | (simp <;> omega))) ?_
  rintro _ t9 ⟨rfl, a1, a4⟩
  have nx_H14002 := a1.nx
  replace m := m.st a1 (fun k hk => ⟨by omega, trivial⟩)
  replace b5 := b5.sA a1
  replace e2 := a1.s e2
  replace c9 := a1.s c9
  have e9 : NE g6 aF := .a
  replace o2 := a1.s o2 e9.ne
  replace a0 := a1.s a0
  replace m5 := a1.s m5
  replace a3 := a1.s a3
  replace y := a1.s y
  replace a6 := a1.s a6
  have i8 : NE h1 aF := .a
  replace o := a1.s o i8.ne
  have lt_at14002 := GHeap.ltg a4
  replace h := l.mono m
  replace h' := g.mono m
  clear c0 c1 c2 c3 c4 i1 i2 i3 i4 hm hi m4 k5 n8 l0 n3 l8 n4 l6 n1 hmb hib
  obtain ⟨c0, c1, c2, c3, c4, i1, i2, i3, i4⟩ := h.get
  have hm : MemN _ _ _ _ _ := ⟨rfl, h.1⟩
  have hi := h.2
  obtain ⟨m4, k5, n8, l0, n3, l8, n4, l6, n1⟩ := h'.get
  have hmb : MemN _ _ _ _ _ := ⟨rfl, h'.1⟩
  have hib := h'.2
  try simp only [Nat.zero_add, List.set_cons_succ, List.set_cons_zero] at a4
  refine .nil (z7 _ _ (.seq (fun K18 aE => .seq (fun K19 aB => .region (.mv rfl (.nil (aB _ _ ?_)))))))
  refine .condF rfl ?_
  refine .skip ?_
  refine aE _ _ (.seq (fun K20 z6 => .seq (fun K21 u8 => .region (.q rfl (.fieldAddr fo_27_0_B rfl) ?_))))
  refine .q rfl (.load on_2_A rfl (by first | assumption | exact Mem.of_get o 0 _ rfl)) ?_
  refine .q rfl (.cmp rfl rfl rfl) (.mv rfl ?_)
  refine .split (fun u2 => ?_) (fun u2 => ?_)
  ·
   try simp only [sps] at u2
   refine .z rfl (.z rfl (.q rfl (.pickT rfl rfl) (.nil (u8 _ _ ?_))))
   refine .condT rfl ?_
   refine .seq (fun K22 y7 => .region (.q rfl (.build bt_27_Hj rfl rfl rfl) ?_))
   refine .r0 rfl rfl (.fillA rfl sz_27_D rfl rfl rfl rfl) ?_
   rintro _ H25001 ⟨rfl, b7, l5⟩
   have nx_H25001 := b7.nx
   replace m := m.st b7 (fun k hk => ⟨by omega, trivial⟩)
   have b2 : NE g6 gLF := ⟨g7.ne c5.ne (by omega)⟩
   replace a3 := b7.s a3 (Ne.symm b2.ne)
   have b6 : NE g6 gLT := ⟨j0.ne c7.ne (by omega)⟩
   replace y := b7.s y (Ne.symm b6.ne)
   have b4 : NE g6 gLI := ⟨h0.ne c8.ne (by omega)⟩
   replace a6 := b7.s a6 (Ne.symm b4.ne)
   replace o := b7.s o (Ne.symm b1.ne)
   replace a4 := b7.s a4 (Ne.symm e9.ne)
   have lt_at25001 := GHeap.ltg l5
   replace h := l.mono m
   replace h' := g.mono m
   clear c0 c1 c2 c3 c4 i1 i2 i3 i4 hm hi m4 k5 n8 l0 n3 l8 n4 l6 n1 hmb hib
   obtain ⟨c0, c1, c2, c3, c4, i1, i2, i3, i4⟩ := h.get
   have hm : MemN _ _ _ _ _ := ⟨rfl, h.1⟩
   have hi := h.2
   obtain ⟨m4, k5, n8, l0, n3, l8, n4, l6, n1⟩ := h'.get
   have hmb : MemN _ _ _ _ _ := ⟨rfl, h'.1⟩
   have hib := h'.2
   have mm25001 : MemN _ _ _ _ _ := ⟨rfl, Mem.of_get l5⟩
   refine .mv rfl (.nil (y7 _ _ ?_))
   refine .ret ?_
   refine u0 _ _ ?_
   refine ⟨_, _, _, _, _, rfl, ag_27_D, (by rfl), (Mem.of_get l5), rfl, ?_⟩
   have hn : ¬ c.PlF d := fun q => by have := q.1; omega
   rw [B_false hn, Cat.plR_no hn]
   exact ⟨m, .zero, rfl, .zero _ _⟩
  try simp only [sps] at u2
  refine .callQg rfl rfl rfl rfl rfl rfl @Try.call67 rfl (arrowsN_c (by assumption)) ?_
  refine .qg rfl (.cmp rfl rfl rfl) (.q rfl (.pickF rfl rfl) (.nil (u8 _ _ ?_)))
  refine .cond rfl (fun u6 => ?_) (fun u6 => ?_)
  ·
   try simp only [sps] at u6
   refine .seq (fun K23 y4 => .region (.q rfl (.build bt_27_Hj rfl rfl rfl) ?_))
   refine .r0 rfl rfl (.fillA rfl sz_27_D rfl rfl rfl rfl) ?_
   rintro _ H25001x2 ⟨rfl, w, e6⟩
   have nx_H25001x2 := w.nx
   replace m := m.st w (fun k hk => ⟨by omega, trivial⟩)
   have j2 : NE g3 g6 := .a
   replace e2 := w.s e2 j2.ne
   have h5 : NE g4 g6 := .a
   replace c9 := w.s c9 h5.ne
   have h7 : NE g8 g6 := .a
   replace a0 := w.s a0 h7.ne
   have i5 : NE g9 g6 := .a
   replace m5 := w.s m5 i5.ne
   have b2 : NE g6 gLF := ⟨g7.ne c5.ne (by omega)⟩
   replace a3 := w.s a3 (Ne.symm b2.ne)
   have b6 : NE g6 gLT := ⟨j0.ne c7.ne (by omega)⟩
   replace y := w.s y (Ne.symm b6.ne)
   have b4 : NE g6 gLI := ⟨h0.ne c8.ne (by omega)⟩
   replace a6 := w.s a6 (Ne.symm b4.ne)
   replace o := w.s o (Ne.symm b1.ne)
   replace a4 := w.s a4 (Ne.symm e9.ne)
   have lt_at25001x2 := GHeap.ltg e6
   replace h := l.mono m
   replace h' := g.mono m
   obtain ⟨c0, c1, c2, c3, c4, i1, i2, i3, i4⟩ := h.get
   have hm : MemN _ _ _ _ _ := ⟨rfl, h.1⟩
   have hi := h.2
   obtain ⟨m4, k5, n8, l0, n3, l8, n4, l6, n1⟩ := h'.get
   have hmb : MemN _ _ _ _ _ := ⟨rfl, h'.1⟩
   have hib := h'.2
   have mm25001x2 : MemN _ _ _ _ _ := ⟨rfl, Mem.of_get e6⟩
   refine .mv rfl (.nil (y4 _ _ ?_))
   refine .ret ?_
   refine u0 _ _ ?_
   refine ⟨_, _, _, _, _, rfl, ag_27_D, (by rfl), (Mem.of_get e6), rfl, ?_⟩
   have hn : ¬ c.PlF d := fun q => by have := q.2; omega
   rw [B_false hn, Cat.plR_no hn]
   exact ⟨m, .zero, rfl, .zero _ _⟩
  try simp only [sps] at u6
  refine .skip ?_
  refine z6 _ _ (.seq (fun K24 y3 => .region ?_))
  have hfit : c.PlF d := ⟨by omega, by omega⟩
  rw [plA_all] at a6 a3
  rw [← q5, plA_all] at y
  rw [l1] at o a4
  have nFT : gLF ≠ gLT := by first | assumption | omega | exact (show NE gLF gLT by assumption).ne
  have nFI : gLF ≠ gLI := h0.ne (Ne.symm j6.ne) (by omega)
  have nTI : gLT ≠ gLI := h0.ne (Ne.symm h4.ne) (by omega)
  have m1 : gLF ≠ h1 := Ne.symm (g7.ne (by omega) (by omega))
  have m2 : gLT ≠ h1 := Ne.symm (j0.ne (by omega) (by omega))
  have m3 : gLI ≠ h1 := Ne.symm (h0.ne (by omega) (by omega))
  refine .q rfl (.makeFunc rfl) ?_
  refine .call rfl rfl rfl rfl @Try.call44 rfl (tableO_c (src := (c.pls d).src) (tgt := (c.pls d).tgt) (n := c.src.length + d.src.length) (X := c.plX d) o Cat.pls_len (by show (c.tgt ++ d.tgt.map (c.obj + ·)).length = _; rw [List.length_append, List.length_map]; omega) (by omega) (fun H' s => Ints.of_get (s.same _ _ ⟨m1, trivial⟩ a3)) (fun H' s => Ints.of_get (s.same _ _ ⟨m2, trivial⟩ y)) @Try.call107 (fun H' v s hrow i j hi hj e => added1_c (go := h1) (gn := g8) (s.same _ _ ⟨by omega, trivial⟩ m5) (s.same _ _ ⟨by omega, trivial⟩ e2) (s.same _ _ ⟨by omega, trivial⟩ a4) (s.same _ _ ⟨by omega, trivial⟩ c9) (l.mono (m.st s (fun k hk => ⟨by omega, trivial⟩))) (g.mono (m.st s (fun k hk => ⟨by omega, trivial⟩))) sc sd rfl hi hj (Cat.pls_part sc sd hi hj e))) ?_
  rintro _ H138 ⟨b8, w0, v3, t5, ge138, aA, s4⟩
  have nx_H138 := b8.nx
  replace m := m.st b8 (fun k hk => ⟨by omega, trivial⟩)
  replace e2 := b8.s e2 f6.ne
  replace c9 := b8.s c9 c6.ne
  replace o2 := b8.s o2 b1.ne
  replace a0 := b8.s a0 a7.ne
  replace m5 := b8.s m5 g5.ne
  replace a3 := b8.same _ _ ⟨p8, trivial⟩ a3
  replace y := b8.same _ _ ⟨p5, trivial⟩ y
  replace a6 := b8.same _ _ ⟨t0, trivial⟩ a6
  replace a4 := b8.s a4 (Ne.symm i8.ne)
  have lt_at138 := GHeap.ltg t5
  replace h := l.mono m
  replace h' := g.mono m
  clear hi
  obtain ⟨c0, c1, c2, c3, c4, i1, i2, i3, i4⟩ := h.get
  have hm : MemN _ _ _ _ _ := ⟨rfl, h.1⟩
  have hi := h.2
  obtain ⟨m4, k5, n8, l0, n3, l8, n4, l6, n1⟩ := h'.get
  have hmb : MemN _ _ _ _ _ := ⟨rfl, h'.1⟩
  have hib := h'.2
  refine .nil (y3 _ _ (.seq (fun K25 y0 => .region ?_)))
  refine .q rfl (.loadM ag_27_D rfl ⟨rfl, Mem.of_get t5⟩) ?_
  refine .r0 rfl rfl (.fillA rfl sz_27_D rfl rfl rfl rfl) ?_
  rintro _ H27001 ⟨rfl, a5, s8⟩
  have nx_H27001 := a5.nx
  replace m := m.st a5 (fun k hk => ⟨by omega, trivial⟩)
  have j2 : NE g3 g6 := .a
  replace e2 := a5.s e2 j2.ne
  have h5 : NE g4 g6 := .a
  replace c9 := a5.s c9 h5.ne
  have h7 : NE g8 g6 := .a
  replace a0 := a5.s a0 h7.ne
  have i5 : NE g9 g6 := .a
  replace m5 := a5.s m5 i5.ne
  have b2 : NE g6 gLF := ⟨g7.ne c5.ne (by omega)⟩
  replace a3 := a5.s a3 (Ne.symm b2.ne)
  have b6 : NE g6 gLT := ⟨j0.ne c7.ne (by omega)⟩
  replace y := a5.s y (Ne.symm b6.ne)
  have b4 : NE g6 gLI := ⟨h0.ne c8.ne (by omega)⟩
  replace a6 := a5.s a6 (Ne.symm b4.ne)
  replace h := l.mono m
  replace h' := g.mono m
  clear c0 c1 c2 c3 c4 i1 i2 i3 i4 hm hi m4 k5 n8 l0 n3 l8 n4 l6 n1 hmb hib
  refine .mv rfl (.nil (y0 _ _ ?_))
  refine .ret ?_
  refine u0 _ _ ?_
  refine ⟨_, _, _, _, _, rfl, ag_27_D, (by rfl), (Mem.of_get s8), rfl, ?_⟩
  rw [B_true hfit, Cat.plR_ok hfit]
  have hT : (c.pls d).tgt.length = c.src.length + d.src.length := by show (c.tgt ++ d.tgt.map (c.obj + ·)).length = _; rw [List.length_append, List.length_map]; omega
  have aO : (c.pls d).idn.length = (plA c.idn d.idn c.src.length d.idn.length).length := by rw [plA_all]; rfl
  have hC : (c.pls d).comp.length = c.src.length + d.src.length := by show (tabL _ _ _ _).length = _; unfold tabL; rw [length_rowsOf]; exact Cat.pls_len
  have hv := aA.keep (a5.keep (b := t9.next) (fun k hk => ⟨by omega, trivial⟩)) (Nat.le_refl _)
  refine ⟨m, ⟨some ⟨gLF, 0, none⟩, some ⟨gLT, 0, none⟩, some ⟨gLI, 0, none⟩, some ⟨w0, 0, none⟩, v3⟩, by unfold Cat.cells; rw [Cat.pls_len, hT, aO, hC]; rfl, ?_⟩
  refine .mk (.of_at a3 x0) (.of_at y v1) (.of_at a6 x1) (by rw [← Cat.pls_len] at hv; exact hv.keep (.of_le (.refl _)) (by omega)) (g1 := gLF) (g2 := gLT) (g3 := gLI) (.inr rfl) (.inr rfl) (.inr rfl) nFT nFI nTI (fun i hi => ?_)
  rw [hC] at hi
  exact ⟨fun e => by have := s4 i hi _ e; omega, fun e => by have := s4 i hi _ e; omega, fun e => by have := s4 i hi _ e; omega⟩
end Go.Proofs.Ytfanjkbaemhbmaa
