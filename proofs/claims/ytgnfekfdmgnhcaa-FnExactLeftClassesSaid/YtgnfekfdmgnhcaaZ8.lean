/- Functors and transformations, in the reference. No condition but those of each statement. -/
import Derived.Test.YtgnfekfdmgnhcaaZ7
import Derived.Deep.Slices
namespace Go.Proofs.Ytgnfekfdmgnhcaa
open Go Go.GL Go.RowKit Go.Proofs
theorem l06Is_c {f : Fun} {p : FunP} {H : GHeap} (hin : f.In H p := by assumption) (hsm : f.Small := by assumption) : GCalls Try.prog 125 [.agg (f.cells p).toArray] H (Ret (.bool (B f.Is)) H) := by
  refine GCalls.ret rfl ?_
  obtain ⟨m1, m2, m3, m4⟩ := hsm
  have m1' := m1
  have m2' := m2
  obtain ⟨n1, n2, n3, n4, n5, n6⟩ := m1'
  obtain ⟨k1, k2, k3, k4, k5, k6⟩ := m2'
  refine GCalls.body (N := 181) (rs := [.tmp 2]) Try.func125 rfl rfl rfl rfl (fun Qx hret hend => ?_)
  refine .forget (fr' := [(0, some _)]) ⟨rfl, trivial⟩ ?_
  refine .seq (fun K1 hK1 => ?_)
  refine .region (.d rfl rfl rfl (.box rfl sz_62_E rfl CIs.mk) ?_)
  show GRun _ _ _ _ _ _ (H.push (.row (f.cells p) 62 true))
  have hle := GHeap.le_push H (.row (f.cells p) 62 true)
  have hb : Fun.At (H.push (.row (f.cells p) 62 true)) H.next 0 f p := ⟨Mem.new _ _ _ _, hin.mono hle⟩
  generalize H.push (.row (f.cells p) 62 true) = H1 at *
  generalize H.next = g at *
  obtain ⟨fs, ft, c10, c11, j1, j2⟩ := hb.get
  have hm : MemN _ _ _ _ _ := ⟨rfl, hb.1⟩
  have hin1 := hb.2
  have hms : MemN _ _ _ _ _ := ⟨rfl, fs.1⟩
  have hins1 := fs.2
  have hmt : MemN _ _ _ _ _ := ⟨rfl, ft.1⟩
  have hint1 := ft.2
  refine .m rfl rfl rfl (.assign rfl) (.nil ?_)
  refine hK1 _ _ ?_
  refine .seq (fun K2 hK2 => ?_)
  refine .regionD mixed_orders_B (.q 0 (.q 1 (.q 2 (.q 3 (.or (.c 4 1 (.c 5 1 (.c 6 1 (.c 7 0 .done)))) (.c 5 1 (.c 4 1 (.c 6 1 (.c 7 0 .done))))))))) (by kernel_rfl) ?_
  refine .m rfl rfl rfl rfl (.refl _) (.fieldAddr fo_62_0_E rfl) ?_
  refine .m rfl rfl rfl rfl (.refl _) (.loadM ag_27_D rfl (by assumption)) ?_
  refine .m rfl rfl rfl rfl (.refl _) (.fieldAddr fo_62_1_E rfl) ?_
  refine .m rfl rfl rfl rfl (.refl _) (.loadM ag_27_D rfl (by assumption)) ?_
  refine .two [(1, some _), (2, some _)] rfl rfl rfl rfl rfl rfl rfl rfl rfl rfl rfl rfl rfl rfl rfl rfl rfl rfl ze_27_E rfl sz_27_D rfl rfl rfl rfl rfl (by rfl) (by rfl) rfl rfl rfl rfl rfl ⟨rfl, rfl, trivial⟩ rfl rfl (.refl _) ?_
  intro g3 g4 H2 fr2 hle2 hga hgb hg3 hg4 hsub
  replace hle := hle.trans hle2
  obtain ⟨fs, ft, c10, c11, j1, j2⟩ := (hb.mono hle2).get
  have k3 : Cat.At H2 g3 0 f.s p.s := ⟨Mem.of_get hg3, fs.2⟩
  have k4 : Cat.At H2 g4 0 f.t p.t := ⟨Mem.of_get hg4, ft.2⟩
  have hm3 : MemN _ _ _ _ _ := ⟨rfl, k3.1⟩
  have hm4 : MemN _ _ _ _ _ := ⟨rfl, k4.1⟩
  have im3 := k3.2
  have im4 := k4.2
  obtain ⟨c0, c1, c2, c3, c4, i1, i2, i3, i4⟩ := k3.get
  obtain ⟨x0, x1, x2, x3, x4, y1, y2, y3, y4⟩ := k4.get
  refine hK2 _ _ ?_
  refine .forget hsub ?_
  refine .seq (fun K3 hK3 => ?_)
  refine .seq (fun K4 hK4 => ?_)
  refine .region ?_
  refine .m rfl rfl rfl (.loadM ag_27_D rfl (by assumption)) ?_
  refine .callQ rfl rfl rfl rfl @Try.call46 rfl (l02Is_c) ?_
  refine .m rfl rfl rfl (.not rfl) (.m rfl rfl rfl (.move rfl) ?_)
  refine .split (fun h16 => ?_) (fun h16 => ?_)
  ·
   try simp only [sps] at h16
   refine .sg rfl rfl rfl rfl rfl (.sg rfl rfl rfl rfl rfl (.sg rfl rfl rfl rfl rfl (.m rfl rfl rfl (.pickT rfl rfl) ?_)))
   refine .m rfl rfl rfl (.move rfl) (.sg rfl rfl rfl rfl rfl (.sg rfl rfl rfl rfl rfl (.sg rfl rfl rfl rfl rfl ?_)))
   refine .sg rfl rfl rfl rfl rfl (.sg rfl rfl rfl rfl rfl (.sg rfl rfl rfl rfl rfl (.m rfl rfl rfl (.pickT rfl rfl) ?_)))
   refine .m rfl rfl rfl (.move rfl) (.sg rfl rfl rfl rfl rfl (.sg rfl rfl rfl rfl rfl (.sg rfl rfl rfl rfl rfl ?_)))
   refine .sg rfl rfl rfl rfl rfl (.sg rfl rfl rfl rfl rfl (.sg rfl rfl rfl rfl rfl (.sg rfl rfl rfl rfl rfl ?_)))
   refine .m rfl rfl rfl (.pickT rfl rfl) (.nil ?_)
   refine hK4 _ _ ?_
   refine .condT rfl ?_
   refine .seq (fun K5 hK5 => ?_)
   refine .region (.m rfl rfl rfl (.assign rfl) (.nil ?_))
   refine hK5 _ _ ?_
   refine .ret ?_
   refine hret _ _ ?_
   refine ⟨_, rfl, ?_⟩
   exact ⟨congrArg _ (B_false fun hI => h16 hI.1), hle⟩
  try simp only [sps] at h16
  refine .mg rfl rfl rfl rfl rfl (.loadM ag_27_D rfl (by assumption)) ?_
  refine .callQg rfl rfl rfl rfl rfl rfl @Try.call46 rfl (l02Is_c) ?_
  refine .mg rfl rfl rfl rfl rfl (.not rfl) (.m rfl rfl rfl (.pickF rfl rfl) (.m rfl rfl rfl (.move rfl) ?_))
  refine .split (fun h21 => ?_) (fun h21 => ?_)
  ·
   try simp only [sps] at h21
   refine .sg rfl rfl rfl rfl rfl (.sg rfl rfl rfl rfl rfl (.sg rfl rfl rfl rfl rfl (.sg rfl rfl rfl rfl rfl ?_)))
   refine .sg rfl rfl rfl rfl rfl (.sg rfl rfl rfl rfl rfl (.m rfl rfl rfl (.pickT rfl rfl) (.m rfl rfl rfl (.move rfl) ?_)))
   refine .sg rfl rfl rfl rfl rfl (.sg rfl rfl rfl rfl rfl (.sg rfl rfl rfl rfl rfl (.sg rfl rfl rfl rfl rfl ?_)))
   refine .sg rfl rfl rfl rfl rfl (.sg rfl rfl rfl rfl rfl (.sg rfl rfl rfl rfl rfl (.m rfl rfl rfl (.pickT rfl rfl) ?_)))
   refine .nil ?_
   refine hK4 _ _ ?_
   refine .condT rfl ?_
   refine .seq (fun K6 hK6 => ?_)
   refine .region (.m rfl rfl rfl (.assign rfl) (.nil ?_))
   refine hK6 _ _ ?_
   refine .ret ?_
   refine hret _ _ ?_
   refine ⟨_, rfl, ?_⟩
   exact ⟨congrArg _ (B_false fun hI => h21 hI.2.1), hle⟩
  simp only [B_iff, Bool.not_eq_false', Bool.not_eq_true'] at h21
  have hS := h16.1
  have hT := h21.1
  have qs1 := hS.tl
  have qs2 := hS.n40
  have qs3 := hS.il
  have qs4 := hS.obj
  have qs5 := hS.cl
  have qt1 := hT.tl
  have qt2 := hT.n40
  have qt3 := hT.il
  have qt4 := hT.obj
  have qt5 := hT.cl
  refine .mg rfl rfl rfl rfl rfl (.fieldAddr fo_62_2_E rfl) ?_
  refine .mg rfl rfl rfl rfl rfl (.load on_22_B rfl (by assumption)) ?_
  refine .mg rfl rfl rfl rfl rfl (.len sl_22_A rfl) (.mg rfl rfl rfl rfl rfl (.fieldAddr fo_27_0_B rfl) ?_)
  refine .mg rfl rfl rfl rfl rfl (.load on_2_A rfl (by assumption)) ?_
  refine .mg rfl rfl rfl rfl rfl (.cmp rfl rfl rfl) (.m rfl rfl rfl (.pickF rfl rfl) (.m rfl rfl rfl (.move rfl) ?_))
  refine .split (fun h29 => ?_) (fun h29 => ?_)
  ·
   try simp only [sps] at h29
   refine .sg rfl rfl rfl rfl rfl (.sg rfl rfl rfl rfl rfl (.sg rfl rfl rfl rfl rfl (.sg rfl rfl rfl rfl rfl ?_)))
   refine .sg rfl rfl rfl rfl rfl (.sg rfl rfl rfl rfl rfl (.sg rfl rfl rfl rfl rfl (.m rfl rfl rfl (.pickT rfl rfl) ?_)))
   refine .nil ?_
   refine hK4 _ _ ?_
   refine .condT rfl ?_
   refine .seq (fun K7 hK7 => ?_)
   refine .region (.m rfl rfl rfl (.assign rfl) (.nil ?_))
   refine hK7 _ _ ?_
   refine .ret ?_
   refine hret _ _ ?_
   refine ⟨_, rfl, ?_⟩
   exact ⟨congrArg _ (B_false fun hI => by have := hI.2.2.ol; omega), hle⟩
  try simp only [sps] at h29
  refine .mg rfl rfl rfl rfl rfl (.fieldAddr fo_62_3_E rfl) ?_
  refine .mg rfl rfl rfl rfl rfl (.load on_22_B rfl (by assumption)) ?_
  refine .mg rfl rfl rfl rfl rfl (.len sl_22_A rfl) (.mg rfl rfl rfl rfl rfl (.fieldAddr fo_27_1_B rfl) ?_)
  refine .mg rfl rfl rfl rfl rfl (.load on_22_B rfl (by assumption)) ?_
  refine .mg rfl rfl rfl rfl rfl (.len sl_22_A rfl) (.mg rfl rfl rfl rfl rfl (.cmp rfl rfl rfl) (.m rfl rfl rfl (.pickF rfl rfl) (.nil ?_)))
  refine hK4 _ _ ?_
  refine .cond rfl (fun h37 => ?_) (fun h37 => ?_)
  ·
   try simp only [sps] at h37
   refine .seq (fun K8 hK8 => ?_)
   refine .region (.m rfl rfl rfl (.assign rfl) (.nil ?_))
   refine hK8 _ _ ?_
   refine .ret ?_
   refine hret _ _ ?_
   refine ⟨_, rfl, ?_⟩
   exact ⟨congrArg _ (B_false fun hI => by have := hI.2.2.al; omega), hle⟩
  try simp only [sps] at h37
  refine .skip ?_
  refine hK3 _ _ ?_
  refine .seq (fun K9 hK9 => ?_)
  refine .seq (fun K10 hK10 => ?_)
  refine .region (.m rfl rfl rfl (.fieldAddr fo_27_0_B rfl) ?_)
  refine .m rfl rfl rfl (.load on_2_A rfl (by assumption)) ?_
  refine .m rfl rfl rfl (.fieldAddr fo_62_2_E rfl) ?_
  refine .m rfl rfl rfl (.load on_22_B rfl (by assumption)) ?_
  refine .callQ rfl rfl rfl rfl @Try.call141 rfl (l01Map_c) ?_
  refine .m rfl rfl rfl (.not rfl) (.m rfl rfl rfl (.move rfl) ?_)
  refine .split (fun h44 => ?_) (fun h44 => ?_)
  ·
   try simp only [sps] at h44
   refine .sg rfl rfl rfl rfl rfl (.sg rfl rfl rfl rfl rfl (.sg rfl rfl rfl rfl rfl (.sg rfl rfl rfl rfl rfl ?_)))
   refine .sg rfl rfl rfl rfl rfl (.sg rfl rfl rfl rfl rfl (.sg rfl rfl rfl rfl rfl (.m rfl rfl rfl (.pickT rfl rfl) ?_)))
   refine .nil ?_
   refine hK10 _ _ ?_
   refine .condT rfl ?_
   refine .seq (fun K11 hK11 => ?_)
   refine .region (.m rfl rfl rfl (.assign rfl) (.nil ?_))
   refine hK11 _ _ ?_
   refine .ret ?_
   refine hret _ _ ?_
   refine ⟨_, rfl, ?_⟩
   exact ⟨congrArg _ (B_false fun hI => by rw [allIn_iff.2 hI.2.2.ob] at h44; cases h44), hle⟩
  try simp only [sps] at h44
  refine .mg rfl rfl rfl rfl rfl (.fieldAddr fo_27_1_B rfl) ?_
  refine .mg rfl rfl rfl rfl rfl (.load on_22_B rfl (by assumption)) ?_
  refine .mg rfl rfl rfl rfl rfl (.len sl_22_A rfl) (.mg rfl rfl rfl rfl rfl (.fieldAddr fo_62_3_E rfl) ?_)
  refine .mg rfl rfl rfl rfl rfl (.load on_22_B rfl (by assumption)) ?_
  refine .callQg rfl rfl rfl rfl rfl rfl @Try.call141 rfl (l01Map_c) ?_
  refine .mg rfl rfl rfl rfl rfl (.not rfl) (.m rfl rfl rfl (.pickF rfl rfl) (.nil ?_))
  refine hK10 _ _ ?_
  refine .cond rfl (fun h52 => ?_) (fun h52 => ?_)
  ·
   try simp only [sps] at h52
   refine .seq (fun K12 hK12 => ?_)
   refine .region (.m rfl rfl rfl (.assign rfl) (.nil ?_))
   refine hK12 _ _ ?_
   refine .ret ?_
   refine hret _ _ ?_
   refine ⟨_, rfl, ?_⟩
   exact ⟨congrArg _ (B_false fun hI => by rw [allIn_iff.2 hI.2.2.ar] at h52; cases h52), hle⟩
  try simp only [sps] at h52
  refine .skip ?_
  refine hK9 _ _ ?_
  refine .seq (fun K13 hK13 => ?_)
  refine .seq (fun K14 hK14 => ?_)
  refine .region (.m rfl rfl rfl (.assign rfl) (.nil ?_))
  refine hK14 _ _ ?_
  refine .block ?_
  refine .loopR (σ := Nat) [(1, some _), (3, some _), (4, some _)] (fun k => [(5, some (.int .i64 (k : Int)))]) (fun k H' => H2 = H' ∧ k ≤ f.s.src.length ∧ ∀ a, a < k → f.t.src.getD (f.ar.getD a 0).toNat 0 = f.ob.getD (f.s.src.getD a 0).toNat 0 ∧ f.t.tgt.getD (f.ar.getD a 0).toNat 0 = f.ob.getD (f.s.tgt.getD a 0).toNat 0) (fun k => f.s.src.length - k) (0) ⟨rfl, rfl, rfl, trivial⟩ ⟨rfl, trivial⟩ ?_ ?_
  ·
   refine ⟨rfl, ?_⟩
   exact ⟨by omega, fun x hx => by omega⟩
  rintro k _ ⟨rfl, hI⟩ KL1 hKL1
  refine .forget (fr' := [(5, some (.int .i64 (k : Int))), (1, some _), (3, some _), (4, some _)]) ⟨rfl, rfl, rfl, rfl, trivial⟩ ?_
  obtain ⟨hk1, ha1⟩ := hI
  refine .seq (fun K15 hK15 => ?_)
  refine .seq (fun K16 hK16 => ?_)
  refine .region (.m rfl rfl rfl (.move rfl) (.m rfl rfl rfl (.fieldAddr fo_27_1_B rfl) ?_))
  refine .m rfl rfl rfl (.load on_22_B rfl (by assumption)) ?_
  refine .m rfl rfl rfl (.len sl_22_A rfl) (.m rfl rfl rfl (.cmp rfl rfl rfl) (.nil ?_))
  refine hK16 _ _ ?_
  refine .cond rfl (fun h57 => ?_) (fun h57 => ?_)
  ·
   try simp only [sps] at h57
   refine .skip ?_
   refine hK15 _ _ ?_
   refine .seq (fun K17 hK17 => ?_)
   refine .block ?_
   refine .seq (fun K18 hK18 => ?_)
   refine .regionD mixed_orders_B (.q 0 (.q 1 (.q 2 (.q 3 (.q 4 (.q 5 (.q 6 (.q 7 (.q 8 (.q 9 (.q 10 (.q 11 (.q 12 (.q 13 (.q 14 (.q 15 (.q 16 (.q 17 (.q 18 (.q 19 (.q 20 (.q 21 (.q 22 (.q 23 (.q 24 (.q 25 (.q 26 (.q 27 (.q 28 (.q 29 (.q 30 (.q 31 (.q 32 (.q 33 (.q 34 (.q 35 (.q 36 (.q 37 (.q 38 (.q 39 (.done))))))))))))))))))))))))))))))))))))))))) (by kernel_rfl) ?_
   have q1 := h52 k (by omega)
   have q2 := hS.src k (by omega)
   have q3 := hS.tgt k (by omega)
   refine .m rfl rfl rfl rfl (.refl _) (.fieldAddr fo_27_1_B rfl) ?_
   refine .m rfl rfl rfl rfl (.refl _) (.load on_22_B rfl (by assumption)) ?_
   refine .m rfl rfl rfl rfl (.refl _) (.fieldAddr fo_62_3_E rfl) ?_
   refine .m rfl rfl rfl rfl (.refl _) (.load on_22_B rfl (by assumption)) ?_
   refine .m rfl rfl rfl rfl (.refl _) (.move rfl) ?_
   refine .m rfl rfl rfl rfl (.refl _) (.idxN sl_22_A (by assumption) rfl rfl (by omega)) ?_
   refine .m rfl rfl rfl rfl (.refl _) (.loadI on_2_A (by assumption) rfl (by omega)) ?_
   refine .m rfl rfl rfl rfl (.refl _) (.idx1 sl_22_A (by assumption) rfl rfl (by omega) (by omega)) ?_
   refine .m rfl rfl rfl rfl (.refl _) (.loadI on_2_A (by assumption) rfl (by omega)) ?_
   refine .m rfl rfl rfl rfl (.refl _) (.fieldAddr fo_62_2_E rfl) ?_
   refine .m rfl rfl rfl rfl (.refl _) (.load on_22_B rfl (by assumption)) ?_
   refine .m rfl rfl rfl rfl (.refl _) (.fieldAddr fo_27_1_B rfl) ?_
   refine .m rfl rfl rfl rfl (.refl _) (.load on_22_B rfl (by assumption)) ?_
   refine .m rfl rfl rfl rfl (.refl _) (.move rfl) ?_
   refine .m rfl rfl rfl rfl (.refl _) (.idxN sl_22_A (by assumption) rfl rfl (by omega)) ?_
   refine .m rfl rfl rfl rfl (.refl _) (.loadI on_2_A (by assumption) rfl (by omega)) ?_
   refine .m rfl rfl rfl rfl (.refl _) (.idx1 sl_22_A (by assumption) rfl rfl (by omega) (by omega)) ?_
   refine .m rfl rfl rfl rfl (.refl _) (.loadI on_2_A (by assumption) rfl (by omega)) ?_
   refine .m rfl rfl rfl rfl (.refl _) (.cmp rfl rfl rfl) (.m rfl rfl rfl rfl (.refl _) (.move rfl) ?_)
   refine .split (fun h79 => ?_) (fun h79 => ?_)
   ·
    try simp only [sps] at h79
    refine .sg rfl rfl rfl rfl rfl rfl (.sg rfl rfl rfl rfl rfl rfl (.sg rfl rfl rfl rfl rfl rfl (.sg rfl rfl rfl rfl rfl rfl ?_)))
    refine .sg rfl rfl rfl rfl rfl rfl (.sg rfl rfl rfl rfl rfl rfl (.sg rfl rfl rfl rfl rfl rfl (.sg rfl rfl rfl rfl rfl rfl ?_)))
    refine .sg rfl rfl rfl rfl rfl rfl (.sg rfl rfl rfl rfl rfl rfl (.sg rfl rfl rfl rfl rfl rfl (.sg rfl rfl rfl rfl rfl rfl ?_)))
    refine .sg rfl rfl rfl rfl rfl rfl (.sg rfl rfl rfl rfl rfl rfl (.sg rfl rfl rfl rfl rfl rfl (.sg rfl rfl rfl rfl rfl rfl ?_)))
    refine .sg rfl rfl rfl rfl rfl rfl (.sg rfl rfl rfl rfl rfl rfl (.sg rfl rfl rfl rfl rfl rfl (.m rfl rfl rfl rfl (.refl _) (.pickT rfl rfl) ?_)))
    refine .done ?_
    refine hK18 _ _ ?_
    refine .condT rfl ?_
    refine .seq (fun K19 hK19 => ?_)
    refine .region (.m rfl rfl rfl (.assign rfl) (.nil ?_))
    refine hK19 _ _ ?_
    refine .ret ?_
    refine hret _ _ ?_
    refine ⟨_, rfl, ?_⟩
    exact ⟨congrArg _ (B_false fun hI => h79 (hI.2.2.ends k (by omega)).1), hle⟩
   try simp only [sps] at h79
   refine .mg rfl rfl rfl rfl rfl rfl (.refl _) (.fieldAddr fo_27_2_B rfl) ?_
   refine .mg rfl rfl rfl rfl rfl rfl (.refl _) (.load on_22_B rfl (by assumption)) ?_
   refine .mg rfl rfl rfl rfl rfl rfl (.refl _) (.fieldAddr fo_62_3_E rfl) ?_
   refine .mg rfl rfl rfl rfl rfl rfl (.refl _) (.load on_22_B rfl (by assumption)) ?_
   refine .mg rfl rfl rfl rfl rfl rfl (.refl _) (.move rfl) ?_
   refine .mg rfl rfl rfl rfl rfl rfl (.refl _) (.idxN sl_22_A (by assumption) rfl rfl (by omega)) ?_
   refine .mg rfl rfl rfl rfl rfl rfl (.refl _) (.loadI on_2_A (by assumption) rfl (by omega)) ?_
   refine .mg rfl rfl rfl rfl rfl rfl (.refl _) (.idx1 sl_22_A (by assumption) rfl rfl (by omega) (by omega)) ?_
   refine .mg rfl rfl rfl rfl rfl rfl (.refl _) (.loadI on_2_A (by assumption) rfl (by omega)) ?_
   refine .mg rfl rfl rfl rfl rfl rfl (.refl _) (.fieldAddr fo_62_2_E rfl) ?_
   refine .mg rfl rfl rfl rfl rfl rfl (.refl _) (.load on_22_B rfl (by assumption)) ?_
   refine .mg rfl rfl rfl rfl rfl rfl (.refl _) (.fieldAddr fo_27_2_B rfl) ?_
   refine .mg rfl rfl rfl rfl rfl rfl (.refl _) (.load on_22_B rfl (by assumption)) ?_
   refine .mg rfl rfl rfl rfl rfl rfl (.refl _) (.move rfl) ?_
   refine .mg rfl rfl rfl rfl rfl rfl (.refl _) (.idxN sl_22_A (by assumption) rfl rfl (by omega)) ?_
   refine .mg rfl rfl rfl rfl rfl rfl (.refl _) (.loadI on_2_A (by assumption) rfl (by omega)) ?_
   refine .mg rfl rfl rfl rfl rfl rfl (.refl _) (.idx1 sl_22_A (by assumption) rfl rfl (by omega) (by omega)) ?_
   refine .mg rfl rfl rfl rfl rfl rfl (.refl _) (.loadI on_2_A (by assumption) rfl (by omega)) ?_
   refine .mg rfl rfl rfl rfl rfl rfl (.refl _) (.cmp rfl rfl rfl) (.m rfl rfl rfl rfl (.refl _) (.pickF rfl rfl) ?_)
   refine .done ?_
   refine hK18 _ _ ?_
   refine .cond rfl (fun h99 => ?_) (fun h99 => ?_)
   ·
    try simp only [sps] at h99
    refine .seq (fun K20 hK20 => ?_)
    refine .region (.m rfl rfl rfl (.assign rfl) (.nil ?_))
    refine hK20 _ _ ?_
    refine .ret ?_
    refine hret _ _ ?_
    refine ⟨_, rfl, ?_⟩
    exact ⟨congrArg _ (B_false fun hI => h99 (hI.2.2.ends k (by omega)).2), hle⟩
   try simp only [sps] at h99
   refine .skip ?_
   refine hK17 _ _ ?_
   refine .region (.m rfl rfl rfl (.move rfl) ?_)
   refine .m rfl rfl rfl (.add rfl rfl rfl (by omega) (by omega)) ?_
   refine .m rfl rfl rfl (.assign rfl) (.nil ?_)
   refine hKL1 (k + 1) _ _ ?_ ?_ ⟨rfl, rfl, rfl, rfl, trivial⟩
   ·
    refine ⟨rfl, ?_⟩
    refine ⟨by omega, fun x hx => ?_⟩
    by_cases e : x < k
    · exact ha1 x e
    · obtain rfl : x = k := by omega
      exact ⟨h79, h99⟩
   omega
  try simp only [sps] at h57
  refine .exit ?_
  refine hK13 _ _ ?_
  refine .seq (fun K21 hK21 => ?_)
  refine .seq (fun K22 hK22 => ?_)
  refine .region (.m rfl rfl rfl (.assign rfl) (.nil ?_))
  refine hK22 _ _ ?_
  refine .block ?_
  refine .loopR (σ := Nat) [(1, some _), (3, some _), (4, some _)] (fun k => [(6, some (.int .i64 (k : Int)))]) (fun k H' => H2 = H' ∧ (k : Int) ≤ f.s.obj ∧ ∀ x, x < k → f.ar.getD (f.s.idn.getD x 0).toNat 0 = f.t.idn.getD (f.ob.getD x 0).toNat 0) (fun k => f.s.idn.length - k) (0) ⟨rfl, rfl, rfl, trivial⟩ ⟨rfl, trivial⟩ ?_ ?_
  ·
   refine ⟨rfl, ?_⟩
   exact ⟨by omega, fun x hx => by omega⟩
  rintro k _ ⟨rfl, hI⟩ KL2 hKL2
  refine .forget (fr' := [(6, some (.int .i64 (k : Int))), (1, some _), (3, some _), (4, some _)]) ⟨rfl, rfl, rfl, rfl, trivial⟩ ?_
  obtain ⟨hk2, ha2⟩ := hI
  refine .seq (fun K23 hK23 => ?_)
  refine .seq (fun K24 hK24 => ?_)
  refine .region (.m rfl rfl rfl (.move rfl) (.m rfl rfl rfl (.fieldAddr fo_27_0_B rfl) ?_))
  refine .m rfl rfl rfl (.load on_2_A rfl (by assumption)) ?_
  refine .m rfl rfl rfl (.cmp rfl rfl rfl) (.nil ?_)
  refine hK24 _ _ ?_
  refine .cond rfl (fun h103 => ?_) (fun h103 => ?_)
  ·
   try simp only [sps] at h103
   refine .skip ?_
   refine hK23 _ _ ?_
   refine .seq (fun K25 hK25 => ?_)
   refine .block ?_
   refine .seq (fun K26 hK26 => ?_)
   refine .regionD mixed_orders_B (.q 0 (.q 1 (.q 2 (.q 3 (.q 4 (.q 5 (.q 6 (.q 7 (.q 8 (.q 9 (.q 10 (.q 11 (.q 12 (.q 13 (.q 14 (.q 15 (.q 16 (.q 17 (.q 18 (.done)))))))))))))))))))) (by kernel_rfl) ?_
   have q1 := hS.idn k (by omega)
   have q2 := h44 k (by omega)
   refine .m rfl rfl rfl rfl (.refl _) (.fieldAddr fo_62_3_E rfl) ?_
   refine .m rfl rfl rfl rfl (.refl _) (.load on_22_B rfl (by assumption)) ?_
   refine .m rfl rfl rfl rfl (.refl _) (.fieldAddr fo_27_3_B rfl) ?_
   refine .m rfl rfl rfl rfl (.refl _) (.load on_22_B rfl (by assumption)) ?_
   refine .m rfl rfl rfl rfl (.refl _) (.move rfl) ?_
   refine .m rfl rfl rfl rfl (.refl _) (.idxN sl_22_A (by assumption) rfl rfl (by omega)) ?_
   refine .m rfl rfl rfl rfl (.refl _) (.loadI on_2_A (by assumption) rfl (by omega)) ?_
   refine .m rfl rfl rfl rfl (.refl _) (.idx1 sl_22_A (by assumption) rfl rfl (by omega) (by omega)) ?_
   refine .m rfl rfl rfl rfl (.refl _) (.loadI on_2_A (by assumption) rfl (by omega)) ?_
   refine .m rfl rfl rfl rfl (.refl _) (.fieldAddr fo_27_3_B rfl) ?_
   refine .m rfl rfl rfl rfl (.refl _) (.load on_22_B rfl (by assumption)) ?_
   refine .m rfl rfl rfl rfl (.refl _) (.fieldAddr fo_62_2_E rfl) ?_
   refine .m rfl rfl rfl rfl (.refl _) (.load on_22_B rfl (by assumption)) ?_
   refine .m rfl rfl rfl rfl (.refl _) (.move rfl) ?_
   refine .m rfl rfl rfl rfl (.refl _) (.idxN sl_22_A (by assumption) rfl rfl (by omega)) ?_
   refine .m rfl rfl rfl rfl (.refl _) (.loadI on_2_A (by assumption) rfl (by omega)) ?_
   refine .m rfl rfl rfl rfl (.refl _) (.idx1 sl_22_A (by assumption) rfl rfl (by omega) (by omega)) ?_
   refine .m rfl rfl rfl rfl (.refl _) (.loadI on_2_A (by assumption) rfl (by omega)) ?_
   refine .m rfl rfl rfl rfl (.refl _) (.cmp rfl rfl rfl) ?_
   refine .done ?_
   refine hK26 _ _ ?_
   refine .cond rfl (fun h124 => ?_) (fun h124 => ?_)
   ·
    try simp only [sps] at h124
    refine .seq (fun K27 hK27 => ?_)
    refine .region (.m rfl rfl rfl (.assign rfl) (.nil ?_))
    refine hK27 _ _ ?_
    refine .ret ?_
    refine hret _ _ ?_
    refine ⟨_, rfl, ?_⟩
    exact ⟨congrArg _ (B_false fun hI => h124 (hI.2.2.ids k (by omega))), hle⟩
   try simp only [sps] at h124
   refine .skip ?_
   refine hK25 _ _ ?_
   refine .region (.m rfl rfl rfl (.move rfl) ?_)
   refine .m rfl rfl rfl (.add rfl rfl rfl (by omega) (by omega)) ?_
   refine .m rfl rfl rfl (.assign rfl) (.nil ?_)
   refine hKL2 (k + 1) _ _ ?_ ?_ ⟨rfl, rfl, rfl, rfl, trivial⟩
   ·
    refine ⟨rfl, ?_⟩
    refine ⟨by omega, fun x hx => ?_⟩
    by_cases e : x < k
    · exact ha2 x e
    · obtain rfl : x = k := by omega
      exact h124
   omega
  try simp only [sps] at h103
  refine .exit ?_
  refine hK21 _ _ ?_
  refine .seq (fun K28 hK28 => ?_)
  refine .seq (fun K29 hK29 => ?_)
  refine .region (.m rfl rfl rfl (.assign rfl) (.nil ?_))
  refine hK29 _ _ ?_
  refine .block ?_
  refine .loopR (σ := Nat) [(1, some _), (3, some _), (4, some _)] (fun k => [(7, some (.int .i64 (k : Int)))]) (fun k H' => H2 = H' ∧ k ≤ f.s.src.length ∧ ∀ a, a < k → ∀ b, b < f.s.src.length → f.s.tgt.getD a 0 = f.s.src.getD b 0 → f.A (f.s.th a b) = f.t.th (f.ar.getD a 0) (f.ar.getD b 0)) (fun k => f.s.src.length - k) (0) ⟨rfl, rfl, rfl, trivial⟩ ⟨rfl, trivial⟩ ?_ ?_
  ·
   refine ⟨rfl, ?_⟩
   exact ⟨by omega, fun x hx => by omega⟩
  rintro k _ ⟨rfl, hI⟩ KL3 hKL3
  refine .forget (fr' := [(7, some (.int .i64 (k : Int))), (1, some _), (3, some _), (4, some _)]) ⟨rfl, rfl, rfl, rfl, trivial⟩ ?_
  obtain ⟨hk3, ha3⟩ := hI
  refine .seq (fun K30 hK30 => ?_)
  refine .seq (fun K31 hK31 => ?_)
  refine .region (.m rfl rfl rfl (.move rfl) (.m rfl rfl rfl (.fieldAddr fo_27_1_B rfl) ?_))
  refine .m rfl rfl rfl (.load on_22_B rfl (by assumption)) ?_
  refine .m rfl rfl rfl (.len sl_22_A rfl) (.m rfl rfl rfl (.cmp rfl rfl rfl) (.nil ?_))
  refine hK31 _ _ ?_
  refine .cond rfl (fun h129 => ?_) (fun h129 => ?_)
  ·
   try simp only [sps] at h129
   refine .skip ?_
   refine hK30 _ _ ?_
   refine .seq (fun K32 hK32 => ?_)
   refine .block ?_
   refine .seq (fun K33 hK33 => ?_)
   refine .region (.m rfl rfl rfl (.assign rfl) (.nil ?_))
   refine hK33 _ _ ?_
   refine .block ?_
   refine .loopR (σ := Nat) [(1, some _), (3, some _), (4, some _), (7, some _)] (fun j => [(8, some (.int .i64 (j : Int)))]) (fun j H' => H2 = H' ∧ j ≤ f.s.src.length ∧ ∀ b, b < j → f.s.tgt.getD k 0 = f.s.src.getD b 0 → f.A (f.s.th k b) = f.t.th (f.ar.getD k 0) (f.ar.getD b 0)) (fun j => f.s.src.length - j) (0) ⟨rfl, rfl, rfl, rfl, trivial⟩ ⟨rfl, trivial⟩ ?_ ?_
   ·
    refine ⟨rfl, ?_⟩
    exact ⟨by omega, fun x hx => by omega⟩
   rintro j _ ⟨rfl, hI⟩ KL4 hKL4
   refine .forget (fr' := [(8, some (.int .i64 (j : Int))), (1, some _), (3, some _), (4, some _), (7, some _)]) ⟨rfl, rfl, rfl, rfl, rfl, trivial⟩ ?_
   obtain ⟨hk4, ha4⟩ := hI
   refine .seq (fun K34 hK34 => ?_)
   refine .seq (fun K35 hK35 => ?_)
   refine .region (.m rfl rfl rfl (.move rfl) (.m rfl rfl rfl (.fieldAddr fo_27_1_B rfl) ?_))
   refine .m rfl rfl rfl (.load on_22_B rfl (by assumption)) ?_
   refine .m rfl rfl rfl (.len sl_22_A rfl) (.m rfl rfl rfl (.cmp rfl rfl rfl) (.nil ?_))
   refine hK35 _ _ ?_
   refine .cond rfl (fun h136 => ?_) (fun h136 => ?_)
   ·
    try simp only [sps] at h136
    refine .skip ?_
    refine hK34 _ _ ?_
    refine .seq (fun K36 hK36 => ?_)
    refine .block ?_
    refine .seq (fun K37 hK37 => ?_)
    refine .regionD mixed_orders_B (.q 0 (.q 1 (.q 2 (.q 3 (.q 4 (.q 5 (.q 6 (.q 7 (.q 8 (.q 9 (.q 10 (.q 11 (.q 12 (.q 13 (.q 14 (.q 15 (.q 16 (.q 17 (.q 18 (.q 19 (.q 20 (.q 21 (.q 22 (.q 23 (.q 24 (.q 25 (.q 26 (.q 27 (.q 28 (.q 29 (.q 30 (.q 31 (.q 32 (.q 33 (.q 34 (.q 35 (.q 36 (.q 37 (.q 38 (.q 39 (.q 40 (.q 41 (.done))))))))))))))))))))))))))))))))))))))))))) (by kernel_rfl) ?_
    have r1 := i4.2 k (by omega)
    have r1l := hS.row k (by omega)
    have q5 := hS.th_lt (f := k) (g := j) (by omega) (by omega)
    have q6 := hS.th_ge (f := k) (g := j) (by omega) (by omega)
    rw [Cat.th_nat] at q5 q6
    have r2 := h52 k (by omega)
    have r3 := h52 j (by omega)
    have r4 := hT.row (f.ar.getD k 0).toNat (by omega)
    have r5 := y4.2 (f.ar.getD k 0).toNat (by omega)
    refine .m rfl rfl rfl rfl (.refl _) (.fieldAddr fo_27_2_B rfl) ?_
    refine .m rfl rfl rfl rfl (.refl _) (.load on_22_B rfl (by assumption)) ?_
    refine .m rfl rfl rfl rfl (.refl _) (.move rfl) ?_
    refine .m rfl rfl rfl rfl (.refl _) (.idxN sl_22_A (by assumption) rfl rfl (by omega)) ?_
    refine .m rfl rfl rfl rfl (.refl _) (.loadI on_2_A (by assumption) rfl (by omega)) ?_
    refine .m rfl rfl rfl rfl (.refl _) (.fieldAddr fo_27_1_B rfl) ?_
    refine .m rfl rfl rfl rfl (.refl _) (.load on_22_B rfl (by assumption)) ?_
    refine .m rfl rfl rfl rfl (.refl _) (.move rfl) ?_
    refine .m rfl rfl rfl rfl (.refl _) (.idxN sl_22_A (by assumption) rfl rfl (by omega)) ?_
    refine .m rfl rfl rfl rfl (.refl _) (.loadI on_2_A (by assumption) rfl (by omega)) ?_
    refine .m rfl rfl rfl rfl (.refl _) (.cmp rfl rfl rfl) (.m rfl rfl rfl rfl (.refl _) (.move rfl) ?_)
    refine .split (fun h150 => ?_) (fun h150 => ?_)
    ·
     simp only [beq_iff_eq] at h150
     have q7 := q6.2 h150
     refine .mg rfl rfl rfl rfl rfl rfl (.refl _) (.fieldAddr fo_62_3_E rfl) ?_
     refine .mg rfl rfl rfl rfl rfl rfl (.refl _) (.load on_22_B rfl (by assumption)) ?_
     refine .mg rfl rfl rfl rfl rfl rfl (.refl _) (.fieldAddr fo_27_4_B rfl) ?_
     refine .mg rfl rfl rfl rfl rfl rfl (.refl _) (.load on_23_B rfl (by assumption)) ?_
     refine .mg rfl rfl rfl rfl rfl rfl (.refl _) (.move rfl) ?_
     refine .mg rfl rfl rfl rfl rfl rfl (.refl _) (.idxN sl_23_B (Intss.sl (by assumption)) rfl rfl (by omega)) ?_
     refine .mg rfl rfl rfl rfl rfl rfl (.refl _) (.loadR on_22_B (by assumption) rfl (by omega)) ?_
     refine .mg rfl rfl rfl rfl rfl rfl (.refl _) (.move rfl) ?_
     refine .mg rfl rfl rfl rfl rfl rfl (.refl _) (.idxN sl_22_A (by assumption) rfl rfl (by omega)) ?_
     refine .mg rfl rfl rfl rfl rfl rfl (.refl _) (.loadI on_2_A (by assumption) rfl (by omega)) ?_
     refine .mg rfl rfl rfl rfl rfl rfl (.refl _) (.idx1 sl_22_A (by assumption) rfl rfl (by omega) (by omega)) ?_
     refine .mg rfl rfl rfl rfl rfl rfl (.refl _) (.loadI on_2_A (by assumption) rfl (by omega)) ?_
     refine .mg rfl rfl rfl rfl rfl rfl (.refl _) (.fieldAddr fo_27_4_B rfl) ?_
     refine .mg rfl rfl rfl rfl rfl rfl (.refl _) (.load on_23_B rfl (by assumption)) ?_
     refine .mg rfl rfl rfl rfl rfl rfl (.refl _) (.fieldAddr fo_62_3_E rfl) ?_
     refine .mg rfl rfl rfl rfl rfl rfl (.refl _) (.load on_22_B rfl (by assumption)) ?_
     refine .mg rfl rfl rfl rfl rfl rfl (.refl _) (.move rfl) ?_
     refine .mg rfl rfl rfl rfl rfl rfl (.refl _) (.idxN sl_22_A (by assumption) rfl rfl (by omega)) ?_
     refine .mg rfl rfl rfl rfl rfl rfl (.refl _) (.loadI on_2_A (by assumption) rfl (by omega)) ?_
     refine .mg rfl rfl rfl rfl rfl rfl (.refl _) (.idx1 sl_23_B (Intss.sl (by assumption)) rfl rfl (by omega) (by omega)) ?_
     refine .mg rfl rfl rfl rfl rfl rfl (.refl _) (.loadR on_22_B (by assumption) rfl (by omega)) ?_
     refine .mg rfl rfl rfl rfl rfl rfl (.refl _) (.fieldAddr fo_62_3_E rfl) ?_
     refine .mg rfl rfl rfl rfl rfl rfl (.refl _) (.load on_22_B rfl (by assumption)) ?_
     refine .mg rfl rfl rfl rfl rfl rfl (.refl _) (.move rfl) ?_
     refine .mg rfl rfl rfl rfl rfl rfl (.refl _) (.idxN sl_22_A (by assumption) rfl rfl (by omega)) ?_
     refine .mg rfl rfl rfl rfl rfl rfl (.refl _) (.loadI on_2_A (by assumption) rfl (by omega)) ?_
     refine .mg rfl rfl rfl rfl rfl rfl (.refl _) (.idx1 sl_22_A (by assumption) rfl rfl (by omega) (by omega)) ?_
     refine .mg rfl rfl rfl rfl rfl rfl (.refl _) (.loadI on_2_A (by assumption) rfl (by omega)) ?_
     refine .mg rfl rfl rfl rfl rfl rfl (.refl _) (.cmp rfl rfl rfl) (.m rfl rfl rfl rfl (.refl _) (.pickT rfl rfl) ?_)
     refine .done ?_
     refine hK37 _ _ ?_
     refine .cond rfl (fun h180 => ?_) (fun h180 => ?_)
     ·
      try simp only [sps] at h180
      refine .seq (fun K38 hK38 => ?_)
      refine .region (.m rfl rfl rfl (.assign rfl) (.nil ?_))
      refine hK38 _ _ ?_
      refine .ret ?_
      refine hret _ _ ?_
      refine ⟨_, rfl, ?_⟩
      exact ⟨congrArg _ (B_false fun hI => h180 (hI.2.2.th k (by omega) j (by omega) h150)), hle⟩
     try simp only [sps] at h180
     refine .skip ?_
     refine hK36 _ _ ?_
     refine .region (.m rfl rfl rfl (.move rfl) ?_)
     refine .m rfl rfl rfl (.add rfl rfl rfl (by omega) (by omega)) ?_
     refine .m rfl rfl rfl (.assign rfl) (.nil ?_)
     refine hKL4 (j + 1) _ _ ?_ ?_ ⟨rfl, rfl, rfl, rfl, rfl, trivial⟩
     ·
      refine ⟨rfl, ?_⟩
      refine ⟨by omega, fun x hx => ?_⟩
      by_cases e : x < j
      · exact ha4 x e
      · obtain rfl : x = j := by omega
        first
          | exact fun _ => h180
          | exact fun e => absurd e h150
     omega
    try simp only [sps] at h150
    refine .sg rfl rfl rfl rfl rfl rfl (.sg rfl rfl rfl rfl rfl rfl (.sg rfl rfl rfl rfl rfl rfl (.sg rfl rfl rfl rfl rfl rfl ?_)))
    refine .sg rfl rfl rfl rfl rfl rfl (.sg rfl rfl rfl rfl rfl rfl (.sg rfl rfl rfl rfl rfl rfl (.sg rfl rfl rfl rfl rfl rfl ?_)))
    refine .sg rfl rfl rfl rfl rfl rfl (.sg rfl rfl rfl rfl rfl rfl (.sg rfl rfl rfl rfl rfl rfl (.sg rfl rfl rfl rfl rfl rfl ?_)))
    refine .sg rfl rfl rfl rfl rfl rfl (.sg rfl rfl rfl rfl rfl rfl (.sg rfl rfl rfl rfl rfl rfl (.sg rfl rfl rfl rfl rfl rfl ?_)))
    refine .sg rfl rfl rfl rfl rfl rfl (.sg rfl rfl rfl rfl rfl rfl (.sg rfl rfl rfl rfl rfl rfl (.sg rfl rfl rfl rfl rfl rfl ?_)))
    refine .sg rfl rfl rfl rfl rfl rfl (.sg rfl rfl rfl rfl rfl rfl (.sg rfl rfl rfl rfl rfl rfl (.sg rfl rfl rfl rfl rfl rfl ?_)))
    refine .sg rfl rfl rfl rfl rfl rfl (.sg rfl rfl rfl rfl rfl rfl (.sg rfl rfl rfl rfl rfl rfl (.sg rfl rfl rfl rfl rfl rfl ?_)))
    refine .sg rfl rfl rfl rfl rfl rfl (.m rfl rfl rfl rfl (.refl _) (.pickF rfl rfl) ?_)
    refine .done ?_
    refine hK37 _ _ ?_
    refine .condF rfl ?_
    refine .skip ?_
    refine hK36 _ _ ?_
    refine .region (.m rfl rfl rfl (.move rfl) ?_)
    refine .m rfl rfl rfl (.add rfl rfl rfl (by omega) (by omega)) ?_
    refine .m rfl rfl rfl (.assign rfl) (.nil ?_)
    refine hKL4 (j + 1) _ _ ?_ ?_ ⟨rfl, rfl, rfl, rfl, rfl, trivial⟩
    ·
     refine ⟨rfl, ?_⟩
     refine ⟨by omega, fun x hx => ?_⟩
     by_cases e : x < j
     · exact ha4 x e
     · obtain rfl : x = j := by omega
       first
         | exact fun _ => h180
         | exact fun e => absurd e h150
    omega
   try simp only [sps] at h136
   refine .exit ?_
   refine hK32 _ _ ?_
   refine .region (.m rfl rfl rfl (.move rfl) ?_)
   refine .m rfl rfl rfl (.add rfl rfl rfl (by omega) (by omega)) ?_
   refine .m rfl rfl rfl (.assign rfl) (.nil ?_)
   refine hKL3 (k + 1) _ _ ?_ ?_ ⟨rfl, rfl, rfl, rfl, trivial⟩
   ·
    refine ⟨rfl, ?_⟩
    refine ⟨by omega, fun x hx => ?_⟩
    by_cases e : x < k
    · exact ha3 x e
    · obtain rfl : x = k := by omega
      exact fun b hb => ha4 b (by omega)
   omega
  try simp only [sps] at h129
  refine .exit ?_
  refine hK28 _ _ ?_
  refine .seq (fun K39 hK39 => ?_)
  refine .region (.m rfl rfl rfl (.assign rfl) (.nil ?_))
  refine hK39 _ _ ?_
  refine .ret ?_
  refine hret _ _ ?_
  refine ⟨_, rfl, ?_⟩
  exact ⟨congrArg _ (B_true ⟨h16, h21, by omega, by omega, h44, h52, fun a ha => ha1 a (by omega), fun x hx => ha2 x (by omega), fun a ha => ha3 a (by omega)⟩), hle⟩
end Go.Proofs.Ytgnfekfdmgnhcaa
/- Steps that make or write memory, told by what holds behind them; lists that are gathered in loops. No condition. -/
namespace Go.GL
open Go.RowKit

/-- Not among these. -/
def out : List Nat → Nat → Prop
  | [], _ => True
  | g :: r, k => k ≠ g ∧ out r k
/-- All but some rows stay. -/
structure St (bs : List Nat) (H H' : GHeap) : Prop where
  nx : H.next ≤ H'.next
  same : ∀ k o, out bs k → H.get k = some o → H'.get k = some o
theorem St.refl (bs : List Nat) (H : GHeap) : St bs H H := ⟨Nat.le_refl _, fun _ _ _ h => h⟩
theorem GHeap.Le.st {H0 H H' : GHeap} {bs : List Nat} (h : H0.Le H) (s : St bs H H') (hg : ∀ k, k < H0.next → out bs k) : H0.Le H' :=
  ⟨Nat.le_trans h.1 s.nx, fun k o hk => s.same k o (hg k (GHeap.lt_of_get hk)) (h.2 k o hk)⟩
theorem St.le {bs : List Nat} {H0 H H' : GHeap} (s : St bs H0 H) (h : H.Le H') : St bs H0 H' := ⟨Nat.le_trans s.nx h.1, fun k o hk hg => h.2 k o (s.same k o hk hg)⟩
theorem St.st {bs cs : List Nat} {H0 H H' : GHeap} (s : St bs H0 H) (h : St cs H H') (hg : ∀ k, k < H0.next → out bs k → out cs k) : St bs H0 H' :=
  ⟨Nat.le_trans s.nx h.nx, fun k o hk h1 => h.same k o (hg k (GHeap.lt_of_get h1) hk) (s.same k o hk h1)⟩
theorem St.of_le {bs : List Nat} {H H' : GHeap} (h : H.Le H') : St bs H H' := ⟨h.1, fun k o _ hg => h.2 k o hg⟩
theorem St.keep {bs : List Nat} {b : Nat} {H H' : GHeap} (s : St bs H H') (hg : ∀ k, b ≤ k → out bs k) : Keep b H H' := fun k o hk h => s.same k o (hg k hk) h
theorem Keep.le {b : Nat} {H0 H H' : GHeap} (k : Keep b H0 H) (h : H.Le H') : Keep b H0 H' := fun g o hb hg => h.2 g o (k g o hb hg)
theorem Keep.st {bs : List Nat} {b : Nat} {H0 H H' : GHeap} (k : Keep b H0 H) (h : St bs H H') (hg : ∀ k, b ≤ k → k < H0.next → out bs k) : Keep b H0 H' := fun g o hb h1 => h.same g o (hg g hb (GHeap.lt_of_get h1)) (k g o hb h1)
theorem St.of_set {g : Nat} {H : GHeap} {o : Option GObj} : St [g] H (H.set g o) := ⟨by rw [GHeap.next_set]; exact Nat.le_refl _, fun k x hk h => by rw [GHeap.get_set_ne (Ne.symm hk.1)]; exact h⟩
theorem St.push {bs : List Nat} {H H' : GHeap} {o : GObj} (s : St bs H H') : St bs H (H'.push o) := ⟨by rw [GHeap.next_push]; have := s.nx; omega, fun k x hk h => GHeap.get_push_of (s.same k x hk h)⟩

section
variable {P : Program} {N : Nat} {ops : Array Oper} {Q : Slots → GHeap → Prop} {L : List (Oper × Nat)} {fr : Slots} {H Hb : GHeap} {o : Oper} {i : Nat} {t : Tree}
theorem CDo.mono {R R' : Option Value → GHeap → Prop} (h : CDo P o fr H R) (hi : ∀ v H', R v H' → R' v H') : CDo P o fr H R' :=
  .mk fun B w0 ρ a w hs hf next Qx hn => h.run B w0 ρ a w hs hf next Qx fun ρ' v c H' w' hR => hn ρ' v c H' w' (hi v H' hR)
theorem GTree.mono {Q' : Slots → GHeap → Prop} (hq : ∀ fr H, Q' fr H → Q fr H) : ∀ {t : Tree} {fr : Slots} {Hb H : GHeap}, GTree P N ops Q' t fr Hb H → GTree P N ops Q t fr Hb H
  | .done, _, _, _, h => hq _ _ h
  | .q i t, fr, Hb, H, h => by
    unfold GTree at h ⊢
    obtain ⟨o, h1, h2, h3⟩ := h
    refine ⟨o, h1, h2, ?_⟩
    split
    · rename_i hg
      rw [hg] at h3
      obtain ⟨v, Hq, k1, k2, k3, k4⟩ := h3
      exact ⟨v, Hq, k1, k2, k3, GTree.mono hq k4⟩
    · rename_i j want hg
      rw [hg] at h3
      obtain ⟨s, c, k1, k2, k3, k4⟩ := h3
      exact ⟨s, c, k1, k2, fun e => let ⟨v, Hq, l1, l2, l3, l4⟩ := k3 e; ⟨v, Hq, l1, l2, l3, GTree.mono hq l4⟩, fun e => GTree.mono hq (k4 e)⟩
  | .c i k t, fr, Hb, H, h => by
    unfold GTree at h ⊢
    obtain ⟨o, h1, h2, h3⟩ := h
    refine ⟨o, h1, h2, ?_⟩
    split
    · rename_i hg
      rw [hg] at h3
      exact h3.mono fun v H' ⟨l1, l2⟩ => ⟨l1, GTree.mono hq l2⟩
    · rename_i j want hg
      rw [hg] at h3
      obtain ⟨s, c, k1, k2, k3, k4⟩ := h3
      exact ⟨s, c, k1, k2, fun e => (k3 e).mono fun v H' ⟨l1, l2⟩ => ⟨l1, GTree.mono hq l2⟩, fun e => GTree.mono hq (k4 e)⟩
  | .or s t, fr, Hb, H, h => by
    unfold GTree at h ⊢
    exact ⟨GTree.mono hq h.1, GTree.mono hq h.2⟩
theorem GTree.cut (rest : Slots) (hr : Sub rest fr) (R : Slots → Slots → GHeap → Prop) (h : GTree P N ops (R rest) t fr Hb H) (hq : ∀ fr' H', R rest fr' H' → Q fr' H') : GTree P N ops Q t fr Hb H := h.mono hq
theorem GTree.mB {d : Tmp} {v : Value} (hi : ops[i]? = some o) (hd : o.dst = some d) (hN : Nat.blt d N = true) (hg : o.guard = none) (hle : Hb.Le H) (hm : MStep P fr Hb o.op v) (h : GTree P N ops Q t ((d, some v) :: fr) Hb H) : GTree P N ops Q (.q i t) fr Hb H := by
  unfold GTree
  refine ⟨o, hi, by unfold dstOk; rw [hd]; exact hN, ?_⟩
  rw [hg]
  exact ⟨v, Hb, .refl _, hle, hm, by rw [hd]; exact h⟩
theorem GTree.orI {s : Tree} (h : GTree P N ops Q s fr Hb H) (h' : GTree P N ops Q t fr Hb H) : GTree P N ops Q (.or s t) fr Hb H := by unfold GTree; exact ⟨h, h'⟩
theorem GRun.r {d : Tmp} {R : Option Value → GHeap → Prop} (hd : o.dst = some d) (hN : Nat.blt d N = true) (hg : o.guard = none) (hc : CDo P o fr H R) (h : ∀ v H', R v H' → GRun P N ops Q L ((d, v) :: fr) H') : GRun P N ops Q ((o, 0) :: L) fr H :=
  .c hd hN hg (by simp) hc fun v H' hR => ⟨fun e => (by cases e), h v H' hR⟩
theorem GRun.r0 {R : Option Value → GHeap → Prop} (hd : o.dst = none) (hg : o.guard = none) (hc : CDo P o fr H R) (h : ∀ v H', R v H' → GRun P N ops Q L fr H') : GRun P N ops Q ((o, 0) :: L) fr H :=
  .c0 hd hg (by simp) hc fun v H' hR => ⟨fun e => (by cases e), h v H' hR⟩
theorem GTree.r0 {R : Option Value → GHeap → Prop} (hi : ops[i]? = some o) (hd : o.dst = none) (hg : o.guard = none) (hc : CDo P o fr H R) (h : ∀ v H', R v H' → GTree P N ops Q t fr H' H') : GTree P N ops Q (.c i 0 t) fr Hb H := by
  unfold GTree
  refine ⟨o, hi, by unfold dstOk; rw [hd], ?_⟩
  rw [hg]
  refine .mk fun B w0 ρ a w hs hf next Qx hn => ?_
  exact hc.run B w0 ρ a w hs hf next Qx fun ρ' v c H' w' hR => hn ρ' v c H' w' ⟨fun e => (by cases e), by rw [hd, if_neg (by simp)]; exact h v H' hR⟩
theorem GTree.r1 {R : Option Value → GHeap → Prop} (hi : ops[i]? = some o) (hd : o.dst = none) (hg : o.guard = none) (hc : CDo P o fr H R) (h : ∀ v H', R v H' → Hb.Le H' ∧ GTree P N ops Q t fr Hb H') : GTree P N ops Q (.c i 1 t) fr Hb H := by
  unfold GTree
  refine ⟨o, hi, by unfold dstOk; rw [hd], ?_⟩
  rw [hg]
  refine .mk fun B w0 ρ a w hs hf next Qx hn => ?_
  exact hc.run B w0 ρ a w hs hf next Qx fun ρ' v c H' w' hR => hn ρ' v c H' w' ⟨fun _ => (h v H' hR).1, by rw [hd, if_pos rfl]; exact (h v H' hR).2⟩
end

section
variable {P : Program} {H : GHeap} {fr : Slots} {o : Oper}
theorem CDo.boxR {e : TypeId} {x : Operand} {v : Value} {n : Nat} (ho : o.op = .box e x) (he : (P.info? e).map (·.size) = some n) (hx : ev fr x = some v) :
    CDo P o fr H (fun r H' => ∃ g, r = some (.pointer (some ⟨g, 0, none⟩)) ∧ H.Le H' ∧ H.next ≤ g ∧ H'.get g = some (.row v.cells.toList e true)) :=
  .box ho he hx ⟨_, rfl, GHeap.le_push _ _, Nat.le_refl _, GHeap.get_push_new _ _⟩
theorem CDo.allocR {e : TypeId} {z : List Value} {n : Nat} (ho : o.op = .alloc e) (hz : zeroT P e = some (z, n)) (hfl : z.all flat1 = true) :
    CDo P o fr H (fun r H' => ∃ g, r = some (.pointer (some ⟨g, 0, none⟩)) ∧ H.Le H' ∧ H.next ≤ g ∧ H'.get g = some (.row z e true)) :=
  .alloc ho hz hfl ⟨_, rfl, GHeap.le_push _ _, Nat.le_refl _, GHeap.get_push_new _ _⟩
theorem CDo.litR {t e : TypeId} {len n : Nat} {parts : Array (Nat × Operand)} {z vs cs : List Value} (ho : o.op = .buildSlice t len parts) (ht : sliceT P t = some (e, n)) (hz : zeroT P e = some (z, n)) (hfl : z.all flat1 = true) (hzn : z.length = n) (h0 : 0 < n)
    (hsm : len * n ≤ 16777216) (hv : evs fr (parts.toList.map (·.2)) = some vs) (hc : fillL (fun i => some (i * n, n)) (madeL z (len * n)) ((parts.toList.map (·.1)).zip vs) = some cs) :
    CDo P o fr H (fun r H' => ∃ g, r = some (.slice (some ⟨g, 0, none⟩) len len) ∧ H.Le H' ∧ H.next ≤ g ∧ H'.get g = some (.row cs e true)) :=
  .buildSlice ho ht hz hfl hzn h0 hsm hv hc ⟨_, rfl, GHeap.le_push _ _, Nat.le_refl _, GHeap.get_push_new _ _⟩
/-- A new list whose elements are of one cell; j, c: its length and room, as numbers of the program. -/
theorem CDo.makeV {t e : TypeId} {x y : Operand} {k k' : IntKind} {j c : Int} {bytes : Nat} {z : Value} (ho : o.op = .makeSlice t x y) (ht : sliceT P t = some (e, 1)) (hz : zeroT P e = some ([z], 1)) (hb : (P.info? e).map (·.bytes) = some bytes)
    (hfl : [z].all flat1 = true) (hx : ev fr x = some (.int k j)) (hy : ev fr y = some (.int k' c)) (h0 : 0 ≤ j) (hlc : j ≤ c) (hsm : bytes * c ≤ 281474976710656) (hsc : c ≤ 9223372036854775807) :
    CDo P o fr H (fun r H' => ∃ g, r = some (.slice (some ⟨g, 0, none⟩) j.toNat j.toNat) ∧ H.Le H' ∧ H.next ≤ g ∧ H'.get g = some (.row (List.replicate j.toNat z) e true)) := by
  have e1 : (j.toNat : Int) = j := Int.toNat_of_nonneg h0
  have e2 : (c.toNat : Int) = c := Int.toNat_of_nonneg (by omega)
  have e3 : bytes * c.toNat ≤ 281474976710656 := by
    have : ((bytes * c.toNat : Nat) : Int) ≤ 281474976710656 := by rw [Int.natCast_mul, e2]; exact hsm
    omega
  refine .makeSlice (l := j.toNat) (c := c.toNat) ho ht hz hb hfl rfl (by omega) (by rw [e1]; exact hx) (by rw [e2]; exact hy) (by omega) e3 (by omega) ⟨_, rfl, GHeap.le_push _ _, Nat.le_refl _, ?_⟩
  rw [GHeap.get_push_new, madeL_one, Nat.mul_one]
theorem CDo.makeI {t e : TypeId} {x y : Operand} {k k' : IntKind} {j c : Int} {bytes : Nat} (ho : o.op = .makeSlice t x y) (ht : sliceT P t = some (e, 1)) (hz : zeroT P e = some ([.int .i64 0], 1)) (hb : (P.info? e).map (·.bytes) = some bytes)
    (hx : ev fr x = some (.int k j)) (hy : ev fr y = some (.int k' c)) (h0 : 0 ≤ j) (hlc : j ≤ c) (hsm : bytes * c ≤ 281474976710656) (hsc : c ≤ 9223372036854775807) :
    CDo P o fr H (fun r H' => ∃ g, r = some (.slice (some ⟨g, 0, none⟩) j.toNat j.toNat) ∧ H.Le H' ∧ H.next ≤ g ∧ H'.get g = some (.row (ints (List.replicate j.toNat 0)) e true)) := by
  have : ints (List.replicate j.toNat 0) = List.replicate j.toNat (Value.int .i64 0) := by simp [ints]
  rw [this]
  exact .makeV ho ht hz hb rfl hx hy h0 hlc hsm hsc
theorem CDo.storeR {t : TypeId} {x y : Operand} {g off : Nat} {v : Value} {cs : List Value} {e : TypeId} (ho : o.op = .store t x y) (ht : (P.info? t).map (·.size) = some 1) (hx : ev fr x = some (.pointer (some ⟨g, off, none⟩))) (hy : ev fr y = some v)
    (h1 : v.oneCell' = true) (hg : H.get g = some (.row cs e true)) (hoff : off < cs.length) :
    CDo P o fr H (fun r H' => r = none ∧ St [g] H H' ∧ H'.get g = some (.row (cs.set off v) e true)) :=
  .store ho ht hx hy h1 hg hoff ⟨rfl, .of_set, GHeap.get_set_eq (GHeap.lt_of_get hg)⟩
theorem CDo.storeI {t : TypeId} {x y : Operand} {g off : Nat} {m : Int} {ys : List Int} {e : TypeId} (ho : o.op = .store t x y) (ht : (P.info? t).map (·.size) = some 1) (hx : ev fr x = some (.pointer (some ⟨g, off, none⟩))) (hy : ev fr y = some (.int .i64 m))
    (hg : H.get g = some (.row (ints ys) e true)) (hoff : off < ys.length) :
    CDo P o fr H (fun r H' => r = none ∧ St [g] H H' ∧ H'.get g = some (.row (ints (ys.set off m)) e true)) := by
  rw [← ints_set]; exact .storeR ho ht hx hy rfl hg (by simpa using hoff)
theorem CDo.storeNR {t : TypeId} {x y : Operand} {g off n : Nat} {vs : Array Value} {cs : List Value} {e : TypeId} (ho : o.op = .store t x y) (ht : (P.info? t).map (·.size) = some n) (hx : ev fr x = some (.pointer (some ⟨g, off, none⟩))) (hy : ev fr y = some (.agg vs))
    (hn : vs.size = n) (h1 : vs.toList.all (·.oneCell') = true) (hg : H.get g = some (.row cs e true)) (hoff : off + n ≤ cs.length) :
    CDo P o fr H (fun r H' => r = none ∧ St [g] H H' ∧ H'.get g = some (.row (setAll cs off vs.toList) e true)) :=
  .storeN ho ht hx hy hn h1 hg hoff ⟨rfl, .of_set, GHeap.get_set_eq (GHeap.lt_of_get hg)⟩
/-- A struct's row is filled whole. -/
theorem CDo.fillR {t : TypeId} {x y : Operand} {g n : Nat} {vs : Array Value} {cs : List Value} {e : TypeId} (ho : o.op = .store t x y) (ht : (P.info? t).map (·.size) = some n) (hx : ev fr x = some (.pointer (some ⟨g, 0, none⟩))) (hy : ev fr y = some (.agg vs))
    (hn : vs.size = n) (h1 : vs.toList.all (·.oneCell') = true) (hg : H.get g = some (.row cs e true)) (hoff : cs.length = n) :
    CDo P o fr H (fun r H' => r = none ∧ St [g] H H' ∧ H'.get g = some (.row vs.toList e true)) := by
  have : setAll cs 0 vs.toList = vs.toList := setAll_all _ _ (by simp [hoff, hn])
  have h := CDo.storeNR (P := P) (H := H) ho ht hx hy hn h1 hg (by omega)
  rw [this] at h
  exact h
theorem CDo.appendR {t tx e : TypeId} {s x : Operand} {g off n m sz bytes : Nat} {z cs news : List Value} (ho : o.op = .call { callee := .builtin .append, args := #[s, x], argTypes := #[t, tx] }) (ht : sliceT P t = some (e, sz)) (hz : zeroT P e = some (z, sz)) (hzn : z.length = sz)
    (hb : (P.info? e).map (·.bytes) = some bytes) (hsv : ev fr s = some (.slice (some ⟨g, off, none⟩) n n)) (hg : H.get g = some (.row cs e true)) (hend : off + n * sz = cs.length) (hsrc : SrcG P fr H sz tx x m news)
    (hN : n + m ≤ 16777216) (hB : (n + m) * bytes ≤ 140737488355328) :
    CDo P o fr H (fun r H' => ∃ g', r = some (.slice (some ⟨g', 0, none⟩) (n + m) (n + m)) ∧ St [g] H H' ∧ H.next ≤ g' ∧ H'.get g' = some (.row (cs.drop off ++ news) e true)) :=
  .append ho ht hz hzn hb hsv hg hend hsrc (by unfold maxLen; omega) hB ⟨_, rfl, .push .of_set, Nat.le_refl _, by have := GHeap.get_push_new (H.set g none) (.row (cs.drop off ++ news) e true); rwa [GHeap.next_set] at this⟩
/-- One value more, that lies in a row of its own. -/
theorem CDo.appendV {t tx e e' : TypeId} {s x : Operand} {g g1 n sz bytes : Nat} {z cs vs : List Value} (ho : o.op = .call { callee := .builtin .append, args := #[s, x], argTypes := #[t, tx] }) (ht : sliceT P t = some (e, sz)) (hz : zeroT P e = some (z, sz)) (hzn : z.length = sz)
    (hb : (P.info? e).map (·.bytes) = some bytes) (htx : sliceT P tx = some (e', sz)) (hsv : ev fr s = some (.slice (some ⟨g, 0, none⟩) n n)) (hx : ev fr x = some (.slice (some ⟨g1, 0, none⟩) 1 1)) (hg : H.get g = some (.row cs e true)) (hg1 : H.get g1 = some (.row vs e' true)) (hend : n * sz = cs.length)
    (hv : vs.length = sz) (hone : vs.all (·.oneCell') = true) (hN : n + 1 ≤ 16777216) (hB : (n + 1) * bytes ≤ 140737488355328) :
    CDo P o fr H (fun r H' => ∃ g', r = some (.slice (some ⟨g', 0, none⟩) (n + 1) (n + 1)) ∧ St [g] H H' ∧ H.next ≤ g' ∧ H'.get g' = some (.row (cs ++ vs) e true)) :=
  .appendR (cs := cs) (news := vs) ho ht hz hzn hb hsv hg (by omega) (.slice htx hx (by omega) (fun i v hv => by rw [GHeap.cell_of hg1, Nat.zero_add]; exact hv) (fun v hv => List.all_eq_true.1 hone v hv)) hN hB
theorem CDo.appendI {t tx e e' : TypeId} {s x : Operand} {g g1 n bytes : Nat} {z : List Value} {ys : List Int} {m : Int} (ho : o.op = .call { callee := .builtin .append, args := #[s, x], argTypes := #[t, tx] }) (ht : sliceT P t = some (e, 1)) (hz : zeroT P e = some (z, 1)) (hzn : z.length = 1)
    (hb : (P.info? e).map (·.bytes) = some bytes) (htx : sliceT P tx = some (e', 1)) (hsv : ev fr s = some (.slice (some ⟨g, 0, none⟩) n n)) (hx : ev fr x = some (.slice (some ⟨g1, 0, none⟩) 1 1)) (hg : H.get g = some (.row (ints ys) e true)) (hg1 : H.get g1 = some (.row [.int .i64 m] e' true)) (hend : n = ys.length)
    (hN : n + 1 ≤ 16777216) (hB : (n + 1) * bytes ≤ 140737488355328) :
    CDo P o fr H (fun r H' => ∃ g', r = some (.slice (some ⟨g', 0, none⟩) (n + 1) (n + 1)) ∧ St [g] H H' ∧ H.next ≤ g' ∧ H'.get g' = some (.row (ints (ys ++ [m])) e true)) := by
  have e1 : ints (ys ++ [m]) = ints ys ++ [.int .i64 m] := by simp [ints]
  rw [e1]
  exact .appendV ho ht hz hzn hb htx hsv hx hg hg1 (by simp; omega) rfl rfl hN hB
end

/-- The numbers below n with a property, in order. -/
def filtN (n : Nat) (p : Nat → Bool) : List Int := ((List.range n).filter p).map fun (i : Nat) => (i : Int)
theorem filtN_T {n : Nat} {p : Nat → Bool} (h : p n = true) : filtN (n + 1) p = filtN n p ++ [(n : Int)] := by simp [filtN, List.range_succ, h]
theorem filtN_F {n : Nat} {p : Nat → Bool} (h : p n = false) : filtN (n + 1) p = filtN n p := by simp [filtN, List.range_succ, h]
theorem filtN_le (n : Nat) (p : Nat → Bool) : (filtN n p).length ≤ n := by
  unfold filtN; rw [List.length_map]; exact Nat.le_trans (List.length_filter_le _ _) (by simp)
theorem mem_filtN {n : Nat} {p : Nat → Bool} {x : Int} : x ∈ filtN n p ↔ ∃ i, i < n ∧ p i = true ∧ x = i := by
  simp only [filtN, List.mem_map, List.mem_filter, List.mem_range]
  exact ⟨fun ⟨i, ⟨h1, h2⟩, h3⟩ => ⟨i, h1, h2, h3.symm⟩, fun ⟨i, h1, h2, h3⟩ => ⟨i, ⟨h1, h2⟩, h3.symm⟩⟩
theorem getD_mem {xs : List Int} {i : Nat} (h : i < xs.length) : xs.getD i 0 ∈ xs := by
  rw [List.getD_eq_getElem?_getD, List.getElem?_eq_getElem h]; exact List.getElem_mem h
theorem filtN_get {n : Nat} {p : Nat → Bool} {i : Nat} (h : i < (filtN n p).length) : ∃ j, j < n ∧ p j = true ∧ (filtN n p).getD i 0 = j := mem_filtN.1 (getD_mem h)

/-- The first of a list with a property, or -1. -/
def firstIn (xs : List Int) (p : Int → Bool) : Int := (xs.find? p).getD (-1)
theorem firstIn_ge {xs : List Int} {p : Int → Bool} (h0 : ∀ x ∈ xs, 0 ≤ x) : 0 ≤ firstIn xs p ↔ ∃ x ∈ xs, p x = true := by
  unfold firstIn
  cases e : xs.find? p with
  | none =>
    rw [List.find?_eq_none] at e
    simp only [Option.getD_none]
    exact ⟨fun h => by omega, fun ⟨x, hx, hp⟩ => absurd hp (e x hx)⟩
  | some y =>
    have h1 := List.mem_of_find?_eq_some e
    have h2 := List.find?_some e
    exact ⟨fun _ => ⟨y, h1, h2⟩, fun _ => h0 y h1⟩
end Go.GL
/- Hom sets and inverses: plain laws. No condition. -/
namespace Go.GL

def Cat.hom (c : Cat) (x y : Int) : List Int := filtN c.src.length fun f => decide (c.src.getD f 0 = x) && decide (c.tgt.getD f 0 = y)
/-- g is the inverse of f, for f; g and g; f that are there. -/
def Cat.invB (c : Cat) (f g : Int) : Bool := decide (c.th f g = c.idn.getD (c.src.getD f.toNat 0).toNat 0) && decide (c.th g f = c.idn.getD (c.tgt.getD f.toNat 0).toNat 0)
/-- The inverse of an arrow, or -1. -/
def Cat.inv (c : Cat) (f : Int) : Int := firstIn (c.hom (c.tgt.getD f.toNat 0) (c.src.getD f.toNat 0)) (c.invB f)
theorem Cat.hom_get {c : Cat} {x y : Int} {i : Nat} (h : i < (c.hom x y).length) : ∃ f : Nat, f < c.src.length ∧ c.src.getD f 0 = x ∧ c.tgt.getD f 0 = y ∧ (c.hom x y).getD i 0 = f := by
  obtain ⟨j, h1, h2, h3⟩ := filtN_get h
  simp only [sps] at h2
  exact ⟨j, h1, h2.1, h2.2, h3⟩
theorem Cat.mem_hom {c : Cat} {x y g : Int} : g ∈ c.hom x y ↔ ∃ f : Nat, f < c.src.length ∧ c.src.getD f 0 = x ∧ c.tgt.getD f 0 = y ∧ g = f := by
  unfold Cat.hom
  rw [mem_filtN]
  simp only [sps]
  exact ⟨fun ⟨f, h1, h2, h3⟩ => ⟨f, h1, h2.1, h2.2, h3⟩, fun ⟨f, h1, h2, h3, h4⟩ => ⟨f, h1, ⟨h2, h3⟩, h4⟩⟩
theorem Cat.hom_le (c : Cat) (x y : Int) : (c.hom x y).length ≤ c.src.length := filtN_le _ _

end Go.GL
/- Hom sets and inverses. No condition but those of each statement. -/
namespace Go.Proofs.Ytgnfekfdmgnhcaa
open Go Go.GL Go.RowKit Go.Proofs
theorem hom_c {g o : Nat} {c : Cat} {p : CatP} {x y : Int} {H : GHeap} (h : Cat.At H g o c p := by assumption) (hS : c.Shape := by assumption) :
    GCalls Try.prog 94 [.pointer (some ⟨g, o, none⟩), .int .i64 x, .int .i64 y] H (NewInts 2 H (c.hom x y)) := by
  refine GCalls.body (N := 44) (rs := [.tmp 6]) Try.func94 rfl rfl rfl rfl (fun Qx hret hend => ?_)
  refine .forget (fr' := [(0, some _), (1, some _), (2, some _)]) ⟨rfl, rfl, rfl, trivial⟩ ?_
  have hle := GHeap.Le.refl H
  have base_h := h
  obtain ⟨c0, c1, c2, c3, c4, i1, i2, i3, i4⟩ := h.get
  have hm : MemN _ _ _ _ _ := ⟨rfl, h.1⟩
  have hi := h.2
  have q1 := hS.tl
  have q2 := hS.n40
  refine .seq (fun K1 hK1 => ?_)
  refine .region (.m rfl rfl rfl (.assign rfl) (.nil ?_))
  refine hK1 _ _ ?_
  refine .seq (fun K2 hK2 => ?_)
  refine .region ?_
  refine .r rfl rfl rfl (.litR rfl sl_22_A ze_2_E rfl rfl (by omega) (by omega) rfl rfl) ?_
  rintro _ H9 ⟨g9, rfl, le9, ge9, at9⟩
  have nx_H9 := le9.1
  replace hle := hle.trans le9
  have lt_at9 := GHeap.lt_of_get at9
  replace h := base_h.mono hle
  clear c0 c1 c2 c3 c4 i1 i2 i3 i4 hm hi
  obtain ⟨c0, c1, c2, c3, c4, i1, i2, i3, i4⟩ := h.get
  have hm : MemN _ _ _ _ _ := ⟨rfl, h.1⟩
  have hi := h.2
  replace at9 : GHeap.get H9 g9 = some (.row (ints []) 2 true) := at9
  refine .m rfl rfl rfl (.assign rfl) (.nil ?_)
  refine hK2 _ _ ?_
  refine .seq (fun K3 hK3 => ?_)
  refine .seq (fun K4 hK4 => ?_)
  refine .region (.m rfl rfl rfl (.move rfl) (.m rfl rfl rfl (.nilCheck rfl) (.m rfl rfl rfl (.fieldAddr fo_27_1_B rfl) ?_)))
  refine .m rfl rfl rfl (.load on_22_B rfl (by assumption)) ?_
  refine .m rfl rfl rfl (.len sl_22_A rfl) (.m rfl rfl rfl (.move rfl) (.nil ?_))
  refine hK4 _ _ ?_
  refine .block ?_
  refine .loopR (σ := Nat × Nat × Nat) [(0, some _), (1, some _), (2, some _), (14, some _)] (fun (k, gL7, nL7) => [(15, some (.int .i64 (k : Int))), (7, some (.slice (some ⟨gL7, 0, none⟩) nL7 nL7))]) (fun (k, gL7, nL7) H' => St [g9] H9 H' ∧ H'.get gL7 = some (.row (ints (filtN k fun f => decide (c.src.getD f 0 = x) && decide (c.tgt.getD f 0 = y))) 2 true) ∧ (gL7 = g9 ∨ H9.next ≤ gL7) ∧ nL7 = (filtN k fun f => decide (c.src.getD f 0 = x) && decide (c.tgt.getD f 0 = y)).length ∧ k ≤ c.src.length) (fun (k, gL7, nL7) => c.src.length - k) ((0, _, _)) ⟨rfl, rfl, rfl, rfl, trivial⟩ ⟨rfl, rfl, trivial⟩ ?_ ?_
  ·
   refine ⟨.refl _ _, by first | assumption | exact at9 | simpa using at9, .inl rfl, by first | rfl | assumption | simp | omega, ?_⟩
   omega
  rintro ⟨k, gL7, nL7⟩ HL1 ⟨lst1, at_L7, pl_L7, ln_L7, hI⟩ KL1 hKL1
  refine .forget (fr' := [(15, some (.int .i64 (k : Int))), (7, some (.slice (some ⟨gL7, 0, none⟩) nL7 nL7)), (0, some _), (1, some _), (2, some _), (14, some _)]) ⟨rfl, rfl, rfl, rfl, rfl, rfl, trivial⟩ ?_
  have ge_L7 : H.next ≤ gL7 := by omega
  have nx_HL1 := lst1.nx
  replace hle := hle.st lst1 (fun k hk => ⟨by omega, trivial⟩)
  have lt_at_L7 := GHeap.lt_of_get at_L7
  replace h := base_h.mono hle
  clear c0 c1 c2 c3 c4 i1 i2 i3 i4 hm hi
  obtain ⟨c0, c1, c2, c3, c4, i1, i2, i3, i4⟩ := h.get
  have hm : MemN _ _ _ _ _ := ⟨rfl, h.1⟩
  have hi := h.2
  have hfl := filtN_le k fun f => decide (c.src.getD f 0 = x) && decide (c.tgt.getD f 0 = y)
  refine .seq (fun K5 hK5 => ?_)
  refine .region (.m rfl rfl rfl (.cmp rfl rfl rfl) (.nil ?_))
  refine hK5 _ _ ?_
  refine .seq (fun K6 hK6 => ?_)
  refine .cond rfl (fun h16 => ?_) (fun h16 => ?_)
  ·
   try simp only [sps] at h16
   refine .skip ?_
   refine hK6 _ _ ?_
   refine .seq (fun K7 hK7 => ?_)
   refine .block ?_
   refine .seq (fun K8 hK8 => ?_)
   refine .region (.m rfl rfl rfl (.move rfl) (.m rfl rfl rfl (.assign rfl) (.nil ?_)))
   refine hK8 _ _ ?_
   refine .seq (fun K9 hK9 => ?_)
   refine .region (.m rfl rfl rfl (.move rfl) (.m rfl rfl rfl (.nilCheck rfl) (.m rfl rfl rfl (.fieldAddr fo_27_1_B rfl) ?_)))
   refine .m rfl rfl rfl (.load on_22_B rfl (by assumption)) ?_
   refine .m rfl rfl rfl (.move rfl) ?_
   refine .m rfl rfl rfl (.idxN sl_22_A (by assumption) rfl rfl (by omega)) ?_
   refine .m rfl rfl rfl (.loadI on_2_A (by assumption) rfl (by omega)) ?_
   refine .m rfl rfl rfl (.move rfl) (.m rfl rfl rfl (.cmp rfl rfl rfl) (.m rfl rfl rfl (.move rfl) ?_))
   refine .split (fun h27 => ?_) (fun h27 => ?_)
   ·
    try simp only [sps] at h27
    refine .mg rfl rfl rfl rfl rfl (.move rfl) (.mg rfl rfl rfl rfl rfl (.nilCheck rfl) (.mg rfl rfl rfl rfl rfl (.fieldAddr fo_27_2_B rfl) ?_))
    refine .mg rfl rfl rfl rfl rfl (.load on_22_B rfl (by assumption)) ?_
    refine .mg rfl rfl rfl rfl rfl (.move rfl) ?_
    refine .mg rfl rfl rfl rfl rfl (.idxN sl_22_A (by assumption) rfl rfl (by omega)) ?_
    refine .mg rfl rfl rfl rfl rfl (.loadI on_2_A (by assumption) rfl (by omega)) ?_
    refine .mg rfl rfl rfl rfl rfl (.move rfl) (.mg rfl rfl rfl rfl rfl (.cmp rfl rfl rfl) (.m rfl rfl rfl (.pickT rfl rfl) (.nil ?_)))
    refine hK9 _ _ ?_
    refine .cond rfl (fun h37 => ?_) (fun h37 => ?_)
    ·
     try simp only [sps] at h37
     refine .region (.m rfl rfl rfl (.move rfl) (.m rfl rfl rfl (.move rfl) ?_))
     refine .r rfl rfl rfl (.litR rfl sl_22_A ze_2_E rfl rfl (by omega) (by omega) rfl rfl) ?_
     rintro _ H40 ⟨g40, rfl, le40, ge40, at40⟩
     have nx_H40 := le40.1
     replace hle := hle.trans le40
     replace lst1 := lst1.le le40
     replace at_L7 := le40.2 _ _ at_L7
     have lt_at40 := GHeap.lt_of_get at40
     replace h := base_h.mono hle
     clear c0 c1 c2 c3 c4 i1 i2 i3 i4 hm hi
     obtain ⟨c0, c1, c2, c3, c4, i1, i2, i3, i4⟩ := h.get
     have hm : MemN _ _ _ _ _ := ⟨rfl, h.1⟩
     have hi := h.2
     refine .r rfl rfl rfl (.appendI rfl sl_22_A ze_2_E rfl by_2_E sl_22_A rfl rfl (by assumption) (by assumption) (by first | omega | (simp <;> omega)) (by omega) (by omega)) ?_
     rintro _ H41 ⟨g41, rfl, st41, ge41, at41⟩
     have nx_H41 := st41.nx
     replace hle := hle.st st41 (fun k hk => ⟨by omega, trivial⟩)
     replace lst1 := lst1.st st41 (fun k hk ho => by simp only [out, and_true] at ho ⊢ <;> first | exact ho | exact ho.1 | exact ho.2 | exact ho.2.1 | exact ho.2.2 | exact ho.2.2.1 | exact ho.2.2.2 | omega)
     have ne_g40_gL7 : g40 ≠ gL7 := by omega
     replace at40 := st41.same _ _ ⟨ne_g40_gL7, trivial⟩ at40
     have lt_at41 := GHeap.lt_of_get at41
     replace h := base_h.mono hle
     clear c0 c1 c2 c3 c4 i1 i2 i3 i4 hm hi
     obtain ⟨c0, c1, c2, c3, c4, i1, i2, i3, i4⟩ := h.get
     have hm : MemN _ _ _ _ _ := ⟨rfl, h.1⟩
     have hi := h.2
     refine .m rfl rfl rfl (.assign rfl) (.nil ?_)
     refine hK7 _ _ ?_
     refine .region ?_
     refine .m rfl rfl rfl (.add rfl rfl rfl (by omega) (by omega)) ?_
     refine .m rfl rfl rfl (.move rfl) (.nil ?_)
     refine hKL1 ((k + 1, _, _)) _ _ ?_ ?_ ⟨rfl, rfl, rfl, rfl, rfl, rfl, trivial⟩
     ·
      refine ⟨lst1, by first | assumption | (rw [filtN_T (by simp only [sps]; omega)]; assumption) | (rw [filtN_F (by simp only [sps]; omega)]; assumption), by omega, by first | omega | (simp only [List.length_append, List.length_cons, List.length_nil] <;> omega) | (rw [filtN_T (by simp only [sps]; omega)] <;> (first | omega | (simp only [List.length_append, List.length_cons, List.length_nil] <;> omega))) | (rw [filtN_F (by simp only [sps]; omega)] <;> (first | omega | (simp only [List.length_append, List.length_cons, List.length_nil] <;> omega))), ?_⟩
      omega
     (dsimp only; omega)
    try simp only [sps] at h37
    refine .skip ?_
    refine hK7 _ _ ?_
    refine .region ?_
    refine .m rfl rfl rfl (.add rfl rfl rfl (by omega) (by omega)) ?_
    refine .m rfl rfl rfl (.move rfl) (.nil ?_)
    refine hKL1 ((k + 1, _, _)) _ _ ?_ ?_ ⟨rfl, rfl, rfl, rfl, rfl, rfl, trivial⟩
    ·
     refine ⟨lst1, by first | assumption | (rw [filtN_T (by simp only [sps]; omega)]; assumption) | (rw [filtN_F (by simp only [sps]; omega)]; assumption), by omega, by first | omega | (simp only [List.length_append, List.length_cons, List.length_nil] <;> omega) | (rw [filtN_T (by simp only [sps]; omega)] <;> (first | omega | (simp only [List.length_append, List.length_cons, List.length_nil] <;> omega))) | (rw [filtN_F (by simp only [sps]; omega)] <;> (first | omega | (simp only [List.length_append, List.length_cons, List.length_nil] <;> omega))), ?_⟩
     omega
    (dsimp only; omega)
   try simp only [sps] at h27
   refine .sg rfl rfl rfl rfl rfl (.sg rfl rfl rfl rfl rfl (.sg rfl rfl rfl rfl rfl (.sg rfl rfl rfl rfl rfl ?_)))
   refine .sg rfl rfl rfl rfl rfl (.sg rfl rfl rfl rfl rfl (.sg rfl rfl rfl rfl rfl (.sg rfl rfl rfl rfl rfl ?_)))
   refine .sg rfl rfl rfl rfl rfl (.m rfl rfl rfl (.pickF rfl rfl) (.nil ?_))
   refine hK9 _ _ ?_
   refine .condF rfl ?_
   refine .skip ?_
   refine hK7 _ _ ?_
   refine .region ?_
   refine .m rfl rfl rfl (.add rfl rfl rfl (by omega) (by omega)) ?_
   refine .m rfl rfl rfl (.move rfl) (.nil ?_)
   refine hKL1 ((k + 1, _, _)) _ _ ?_ ?_ ⟨rfl, rfl, rfl, rfl, rfl, rfl, trivial⟩
   ·
    refine ⟨lst1, by first | assumption | (rw [filtN_T (by simp only [sps]; omega)]; assumption) | (rw [filtN_F (by simp only [sps]; omega)]; assumption), by omega, by first | omega | (simp only [List.length_append, List.length_cons, List.length_nil] <;> omega) | (rw [filtN_T (by simp only [sps]; omega)] <;> (first | omega | (simp only [List.length_append, List.length_cons, List.length_nil] <;> omega))) | (rw [filtN_F (by simp only [sps]; omega)] <;> (first | omega | (simp only [List.length_append, List.length_cons, List.length_nil] <;> omega))), ?_⟩
    omega
   (dsimp only; omega)
  try simp only [sps] at h16
  refine .exit ?_
  refine hK3 _ _ ?_
  refine .seq (fun K10 hK10 => ?_)
  refine .region (.m rfl rfl rfl (.move rfl) (.m rfl rfl rfl (.assign rfl) (.nil ?_)))
  refine hK10 _ _ ?_
  refine .ret ?_
  refine hret _ _ ?_
  refine ⟨_, rfl, ?_⟩
  obtain rfl : k = c.src.length := by omega
  exact ⟨hle, _, by rw [ln_L7]; rfl, at_L7, ge_L7⟩
end Go.Proofs.Ytgnfekfdmgnhcaa
/- Maps behind maps; full, faithful and essentially surjective functors. No condition. -/
namespace Go.GL
open Go.RowKit

theorem CDo.makeIN {P : Program} {H : GHeap} {fr : Slots} {o : Oper} {t e : TypeId} {x y : Operand} {k k' : IntKind} {l c bytes : Nat} (ho : o.op = .makeSlice t x y) (ht : sliceT P t = some (e, 1)) (hz : zeroT P e = some ([.int .i64 0], 1)) (hb : (P.info? e).map (·.bytes) = some bytes)
    (hx : ev fr x = some (.int k (l : Int))) (hy : ev fr y = some (.int k' (c : Int))) (hlc : l ≤ c) (hsm : bytes * c ≤ 281474976710656) (hsc : c ≤ 9223372036854775807) :
    CDo P o fr H (fun r H' => ∃ g, r = some (.slice (some ⟨g, 0, none⟩) l l) ∧ H.Le H' ∧ H.next ≤ g ∧ H'.get g = some (.row (ints (List.replicate l 0)) e true)) := by
  have := CDo.makeI (P := P) (H := H) (fr := fr) (o := o) ho ht hz hb hx hy (by omega) (by omega) (by omega) (by omega)
  simpa using this

/-- f then g. -/
def thenL (f g : List Int) : List Int := f.map fun y => g.getD y.toNat 0
@[simp] theorem length_thenL (f g : List Int) : (thenL f g).length = f.length := by simp [thenL]
/-- There is an isomorphism from x to y. -/
def Cat.Alike (c : Cat) (x y : Int) : Prop := ∃ g ∈ c.hom x y, 0 ≤ c.inv g
end Go.GL
/- Equivalences. No condition but those of each statement. -/
namespace Go.Proofs.Ytgnfekfdmgnhcaa
open Go Go.GL Go.RowKit Go.Proofs
theorem l02Hom_c {c : Cat} {p : CatP} {x y : Int} {H : GHeap} (hin : c.In H p := by assumption) (hS : c.Shape := by assumption) :
    GCalls Try.prog 86 [.agg (c.cells p).toArray, .int .i64 x, .int .i64 y] H (NewInts 2 H (c.hom x y)) := by
  refine GCalls.body (N := 38) (rs := [.tmp 6]) Try.func86 rfl rfl rfl rfl (fun Qx hret hend => ?_)
  refine .forget (fr' := [(0, some _), (1, some _), (2, some _)]) ⟨rfl, rfl, rfl, trivial⟩ ?_
  have hle := GHeap.Le.refl H
  have base_hin := hin
  have q1 := hS.tl
  have q2 := hS.n40
  refine .seq (fun K1 hK1 => ?_)
  refine .region ?_
  refine .r rfl rfl rfl (.boxR rfl sz_27_D rfl) ?_
  rintro _ H3 ⟨g3, rfl, le3, ge3, at3⟩
  have nx_H3 := le3.1
  replace hle := hle.trans le3
  have lt_at3 := GHeap.lt_of_get at3
  replace hin := base_hin.mono hle
  have hb3 : Cat.At _ g3 0 c p := ⟨Mem.of_get at3, hin⟩
  obtain ⟨c03, c13, c23, c33, c43, i13, i23, i33, i43⟩ := hb3.get
  have hm3 : MemN _ _ _ _ _ := ⟨rfl, hb3.1⟩
  have hi3 := hb3.2
  refine .m rfl rfl rfl (.assign rfl) (.nil ?_)
  refine hK1 _ _ ?_
  refine .seq (fun K2 hK2 => ?_)
  refine .region ?_
  refine .r rfl rfl rfl (.litR rfl sl_22_A ze_2_E rfl rfl (by omega) (by omega) rfl rfl) ?_
  rintro _ H9 ⟨g9, rfl, le9, ge9, at9⟩
  have nx_H9 := le9.1
  replace hle := hle.trans le9
  replace at3 := le9.2 _ _ at3
  have lt_at9 := GHeap.lt_of_get at9
  replace hin := base_hin.mono hle
  clear hb3 c03 c13 c23 c33 c43 i13 i23 i33 i43 hm3 hi3
  have hb3 : Cat.At _ g3 0 c p := ⟨Mem.of_get at3, hin⟩
  obtain ⟨c03, c13, c23, c33, c43, i13, i23, i33, i43⟩ := hb3.get
  have hm3 : MemN _ _ _ _ _ := ⟨rfl, hb3.1⟩
  have hi3 := hb3.2
  replace at9 : GHeap.get H9 g9 = some (.row (ints []) 2 true) := at9
  refine .m rfl rfl rfl (.assign rfl) (.nil ?_)
  refine hK2 _ _ ?_
  refine .seq (fun K3 hK3 => ?_)
  refine .seq (fun K4 hK4 => ?_)
  refine .region (.m rfl rfl rfl (.assign rfl) (.nil ?_))
  refine hK4 _ _ ?_
  refine .block ?_
  refine .loopR (σ := Nat × Nat × Nat) [(1, some _), (2, some _), (3, some _)] (fun (k, gL7, nL7) => [(8, some (.int .i64 (k : Int))), (7, some (.slice (some ⟨gL7, 0, none⟩) nL7 nL7))]) (fun (k, gL7, nL7) H' => St [g9] H9 H' ∧ H'.get gL7 = some (.row (ints (filtN k fun f => decide (c.src.getD f 0 = x) && decide (c.tgt.getD f 0 = y))) 2 true) ∧ (gL7 = g9 ∨ H9.next ≤ gL7) ∧ nL7 = (filtN k fun f => decide (c.src.getD f 0 = x) && decide (c.tgt.getD f 0 = y)).length ∧ k ≤ c.src.length) (fun (k, gL7, nL7) => c.src.length - k) ((0, _, _)) ⟨rfl, rfl, rfl, trivial⟩ ⟨rfl, rfl, trivial⟩ ?_ ?_
  ·
   refine ⟨.refl _ _, by first | assumption | exact at9 | simpa using at9, .inl rfl, by first | rfl | assumption | simp | omega, ?_⟩
   omega
  rintro ⟨k, gL7, nL7⟩ HL1 ⟨lst1, at_L7, pl_L7, ln_L7, hI⟩ KL1 hKL1
  refine .forget (fr' := [(8, some (.int .i64 (k : Int))), (7, some (.slice (some ⟨gL7, 0, none⟩) nL7 nL7)), (1, some _), (2, some _), (3, some _)]) ⟨rfl, rfl, rfl, rfl, rfl, trivial⟩ ?_
  have ge_L7 : H.next ≤ gL7 := by omega
  have nx_HL1 := lst1.nx
  replace hle := hle.st lst1 (fun k hk => ⟨by omega, trivial⟩)
  have ne_g3_g9 : g3 ≠ g9 := by omega
  replace at3 := lst1.same _ _ ⟨ne_g3_g9, trivial⟩ at3
  have lt_at_L7 := GHeap.lt_of_get at_L7
  replace hin := base_hin.mono hle
  clear hb3 c03 c13 c23 c33 c43 i13 i23 i33 i43 hm3 hi3
  have hb3 : Cat.At _ g3 0 c p := ⟨Mem.of_get at3, hin⟩
  obtain ⟨c03, c13, c23, c33, c43, i13, i23, i33, i43⟩ := hb3.get
  have hm3 : MemN _ _ _ _ _ := ⟨rfl, hb3.1⟩
  have hi3 := hb3.2
  have hfl := filtN_le k fun f => decide (c.src.getD f 0 = x) && decide (c.tgt.getD f 0 = y)
  refine .seq (fun K5 hK5 => ?_)
  refine .seq (fun K6 hK6 => ?_)
  refine .region (.m rfl rfl rfl (.move rfl) (.m rfl rfl rfl (.fieldAddr fo_27_1_B rfl) ?_))
  refine .m rfl rfl rfl (.load on_22_B rfl (by first | assumption | exact Mem.of_get at3 1 _ rfl)) ?_
  refine .m rfl rfl rfl (.len sl_22_A rfl) (.m rfl rfl rfl (.cmp rfl rfl rfl) (.nil ?_))
  refine hK6 _ _ ?_
  refine .cond rfl (fun h14 => ?_) (fun h14 => ?_)
  ·
   try simp only [sps] at h14
   refine .skip ?_
   refine hK5 _ _ ?_
   refine .seq (fun K7 hK7 => ?_)
   refine .block ?_
   refine .seq (fun K8 hK8 => ?_)
   refine .region (.m rfl rfl rfl (.fieldAddr fo_27_1_B rfl) ?_)
   refine .m rfl rfl rfl (.load on_22_B rfl (by first | assumption | exact Mem.of_get at3 1 _ rfl)) ?_
   refine .m rfl rfl rfl (.move rfl) ?_
   refine .m rfl rfl rfl (.idxN sl_22_A (by assumption) rfl rfl (by omega)) ?_
   refine .m rfl rfl rfl (.loadI on_2_A (by assumption) rfl (by omega)) ?_
   refine .m rfl rfl rfl (.move rfl) (.m rfl rfl rfl (.cmp rfl rfl rfl) (.m rfl rfl rfl (.move rfl) ?_))
   refine .split (fun h24 => ?_) (fun h24 => ?_)
   ·
    try simp only [sps] at h24
    refine .mg rfl rfl rfl rfl rfl (.fieldAddr fo_27_2_B rfl) ?_
    refine .mg rfl rfl rfl rfl rfl (.load on_22_B rfl (by first | assumption | exact Mem.of_get at3 2 _ rfl)) ?_
    refine .mg rfl rfl rfl rfl rfl (.move rfl) ?_
    refine .mg rfl rfl rfl rfl rfl (.idxN sl_22_A (by assumption) rfl rfl (by omega)) ?_
    refine .mg rfl rfl rfl rfl rfl (.loadI on_2_A (by assumption) rfl (by omega)) ?_
    refine .mg rfl rfl rfl rfl rfl (.move rfl) (.mg rfl rfl rfl rfl rfl (.cmp rfl rfl rfl) (.m rfl rfl rfl (.pickT rfl rfl) (.nil ?_)))
    refine hK8 _ _ ?_
    refine .cond rfl (fun h32 => ?_) (fun h32 => ?_)
    ·
     try simp only [sps] at h32
     refine .region (.m rfl rfl rfl (.move rfl) (.m rfl rfl rfl (.move rfl) ?_))
     refine .r rfl rfl rfl (.litR rfl sl_22_A ze_2_E rfl rfl (by omega) (by omega) rfl rfl) ?_
     rintro _ H35 ⟨g35, rfl, le35, ge35, at35⟩
     have nx_H35 := le35.1
     replace hle := hle.trans le35
     replace lst1 := lst1.le le35
     replace at3 := le35.2 _ _ at3
     replace at_L7 := le35.2 _ _ at_L7
     have lt_at35 := GHeap.lt_of_get at35
     replace hin := base_hin.mono hle
     clear hb3 c03 c13 c23 c33 c43 i13 i23 i33 i43 hm3 hi3
     have hb3 : Cat.At _ g3 0 c p := ⟨Mem.of_get at3, hin⟩
     obtain ⟨c03, c13, c23, c33, c43, i13, i23, i33, i43⟩ := hb3.get
     have hm3 : MemN _ _ _ _ _ := ⟨rfl, hb3.1⟩
     have hi3 := hb3.2
     refine .r rfl rfl rfl (.appendI rfl sl_22_A ze_2_E rfl by_2_E sl_22_A rfl rfl (by assumption) (by assumption) (by first | omega | (simp <;> omega)) (by omega) (by omega)) ?_
     rintro _ H36 ⟨g36, rfl, st36, ge36, at36⟩
     have nx_H36 := st36.nx
     replace hle := hle.st st36 (fun k hk => ⟨by omega, trivial⟩)
     replace lst1 := lst1.st st36 (fun k hk ho => by simp only [out, and_true] at ho ⊢ <;> first | exact ho | exact ho.1 | exact ho.2 | exact ho.2.1 | exact ho.2.2 | exact ho.2.2.1 | exact ho.2.2.2 | omega)
     have ne_g3_gL7 : g3 ≠ gL7 := by omega
     replace at3 := st36.same _ _ ⟨ne_g3_gL7, trivial⟩ at3
     have ne_g35_gL7 : g35 ≠ gL7 := by omega
     replace at35 := st36.same _ _ ⟨ne_g35_gL7, trivial⟩ at35
     have lt_at36 := GHeap.lt_of_get at36
     replace hin := base_hin.mono hle
     clear hb3 c03 c13 c23 c33 c43 i13 i23 i33 i43 hm3 hi3
     have hb3 : Cat.At _ g3 0 c p := ⟨Mem.of_get at3, hin⟩
     obtain ⟨c03, c13, c23, c33, c43, i13, i23, i33, i43⟩ := hb3.get
     have hm3 : MemN _ _ _ _ _ := ⟨rfl, hb3.1⟩
     have hi3 := hb3.2
     refine .m rfl rfl rfl (.assign rfl) (.nil ?_)
     refine hK7 _ _ ?_
     refine .region (.m rfl rfl rfl (.move rfl) ?_)
     refine .m rfl rfl rfl (.add rfl rfl rfl (by omega) (by omega)) ?_
     refine .m rfl rfl rfl (.assign rfl) (.nil ?_)
     refine hKL1 ((k + 1, _, _)) _ _ ?_ ?_ ⟨rfl, rfl, rfl, rfl, rfl, trivial⟩
     ·
      refine ⟨lst1, by first | assumption | (rw [filtN_T (by simp only [sps]; omega)]; assumption) | (rw [filtN_F (by simp only [sps]; omega)]; assumption), by omega, by first | omega | (simp only [List.length_append, List.length_cons, List.length_nil] <;> omega) | (rw [filtN_T (by simp only [sps]; omega)] <;> (first | omega | (simp only [List.length_append, List.length_cons, List.length_nil] <;> omega))) | (rw [filtN_F (by simp only [sps]; omega)] <;> (first | omega | (simp only [List.length_append, List.length_cons, List.length_nil] <;> omega))), ?_⟩
      omega
     (dsimp only; omega)
    try simp only [sps] at h32
    refine .skip ?_
    refine hK7 _ _ ?_
    refine .region (.m rfl rfl rfl (.move rfl) ?_)
    refine .m rfl rfl rfl (.add rfl rfl rfl (by omega) (by omega)) ?_
    refine .m rfl rfl rfl (.assign rfl) (.nil ?_)
    refine hKL1 ((k + 1, _, _)) _ _ ?_ ?_ ⟨rfl, rfl, rfl, rfl, rfl, trivial⟩
    ·
     refine ⟨lst1, by first | assumption | (rw [filtN_T (by simp only [sps]; omega)]; assumption) | (rw [filtN_F (by simp only [sps]; omega)]; assumption), by omega, by first | omega | (simp only [List.length_append, List.length_cons, List.length_nil] <;> omega) | (rw [filtN_T (by simp only [sps]; omega)] <;> (first | omega | (simp only [List.length_append, List.length_cons, List.length_nil] <;> omega))) | (rw [filtN_F (by simp only [sps]; omega)] <;> (first | omega | (simp only [List.length_append, List.length_cons, List.length_nil] <;> omega))), ?_⟩
     omega
    (dsimp only; omega)
   try simp only [sps] at h24
   refine .sg rfl rfl rfl rfl rfl (.sg rfl rfl rfl rfl rfl (.sg rfl rfl rfl rfl rfl (.sg rfl rfl rfl rfl rfl ?_)))
   refine .sg rfl rfl rfl rfl rfl (.sg rfl rfl rfl rfl rfl (.sg rfl rfl rfl rfl rfl (.m rfl rfl rfl (.pickF rfl rfl) ?_)))
   refine .nil ?_
   refine hK8 _ _ ?_
   refine .condF rfl ?_
   refine .skip ?_
   refine hK7 _ _ ?_
   refine .region (.m rfl rfl rfl (.move rfl) ?_)
   refine .m rfl rfl rfl (.add rfl rfl rfl (by omega) (by omega)) ?_
   refine .m rfl rfl rfl (.assign rfl) (.nil ?_)
   refine hKL1 ((k + 1, _, _)) _ _ ?_ ?_ ⟨rfl, rfl, rfl, rfl, rfl, trivial⟩
   ·
    refine ⟨lst1, by first | assumption | (rw [filtN_T (by simp only [sps]; omega)]; assumption) | (rw [filtN_F (by simp only [sps]; omega)]; assumption), by omega, by first | omega | (simp only [List.length_append, List.length_cons, List.length_nil] <;> omega) | (rw [filtN_T (by simp only [sps]; omega)] <;> (first | omega | (simp only [List.length_append, List.length_cons, List.length_nil] <;> omega))) | (rw [filtN_F (by simp only [sps]; omega)] <;> (first | omega | (simp only [List.length_append, List.length_cons, List.length_nil] <;> omega))), ?_⟩
    omega
   (dsimp only; omega)
  try simp only [sps] at h14
  refine .exit ?_
  refine hK3 _ _ ?_
  refine .seq (fun K9 hK9 => ?_)
  refine .region (.m rfl rfl rfl (.move rfl) (.m rfl rfl rfl (.assign rfl) (.nil ?_)))
  refine hK9 _ _ ?_
  refine .ret ?_
  refine hret _ _ ?_
  refine ⟨_, rfl, ?_⟩
  obtain rfl : k = c.src.length := by omega
  exact ⟨hle, _, by rw [ln_L7]; rfl, at_L7, ge_L7⟩
theorem l02Then_c {c : Cat} {p : CatP} {f k : Int} {H : GHeap} (hin : c.In H p := by assumption) (hS : c.Shape := by assumption) (h0 : 0 ≤ f := by omega) (h1 : f < c.src.length := by omega) (h2 : 0 ≤ k := by omega) (h3 : k < c.src.length := by omega) :
    GCalls Try.prog 88 [.agg (c.cells p).toArray, .int .i64 f, .int .i64 k] H (Ret (.int .i64 (c.th f k)) H) := by
  refine GCalls.ret rfl ?_
  refine GCalls.body (N := 15) (rs := [.tmp 6]) Try.func88 rfl rfl rfl rfl (fun Qx hret hend => ?_)
  refine .forget (fr' := [(0, some _), (1, some _), (2, some _)]) ⟨rfl, rfl, rfl, trivial⟩ ?_
  have hle := GHeap.Le.refl H
  have base_hin := hin
  have q6 := hS.cl
  have q7 := hS.row f.toNat (by omega)
  refine .seq (fun K1 hK1 => ?_)
  refine .region ?_
  refine .r rfl rfl rfl (.boxR rfl sz_27_D rfl) ?_
  rintro _ H3 ⟨g3, rfl, le3, ge3, at3⟩
  have nx_H3 := le3.1
  replace hle := hle.trans le3
  have lt_at3 := GHeap.lt_of_get at3
  replace hin := base_hin.mono hle
  have hb3 : Cat.At _ g3 0 c p := ⟨Mem.of_get at3, hin⟩
  obtain ⟨c03, c13, c23, c33, c43, i13, i23, i33, i43⟩ := hb3.get
  have hm3 : MemN _ _ _ _ _ := ⟨rfl, hb3.1⟩
  have hi3 := hb3.2
  refine .m rfl rfl rfl (.assign rfl) (.nil ?_)
  refine hK1 _ _ ?_
  refine .seq (fun K2 hK2 => ?_)
  refine .region ?_
  have q8 := i43.2 f.toNat (by omega)
  refine .m rfl rfl rfl (.fieldAddr fo_27_4_B rfl) ?_
  refine .m rfl rfl rfl (.load on_23_B rfl (by first | assumption | exact Mem.of_get at3 4 _ rfl)) ?_
  refine .m rfl rfl rfl (.move rfl) ?_
  refine .m rfl rfl rfl (.idx1 sl_23_B (Intss.sl (by assumption)) rfl rfl (by omega) (by omega)) ?_
  refine .m rfl rfl rfl (.loadR on_22_B (by assumption) rfl (by omega)) ?_
  refine .m rfl rfl rfl (.move rfl) ?_
  refine .m rfl rfl rfl (.idx1 sl_22_A (by assumption) rfl rfl (by omega) (by omega)) ?_
  refine .m rfl rfl rfl (.loadI on_2_A (by assumption) rfl (by omega)) ?_
  refine .m rfl rfl rfl (.assign rfl) (.nil ?_)
  refine hK2 _ _ ?_
  refine .ret ?_
  refine hret _ _ ?_
  refine ⟨_, rfl, ?_⟩
  exact ⟨rfl, hle⟩
end Go.Proofs.Ytgnfekfdmgnhcaa
/- Lists of lists of lists. No condition. -/
namespace Go.GL
open Go.RowKit Go.WideShapes Go.ChangeShapes Go.Deep

def Intsss (H : GHeap) (a : Option Addr) (x : List (List (List Int))) (r : Nat → Option Addr) (s : Nat → Nat → Option Addr) : Prop :=
  SlA H a x.length (fun i => .slice (r i) (x.getD i []).length (x.getD i []).length) ∧ ∀ i, i < x.length → Intss H (r i) (x.getD i []) (s i)
theorem Intsss.mono {H H' : GHeap} {a : Option Addr} {x : List (List (List Int))} {r : Nat → Option Addr} {s : Nat → Nat → Option Addr} (h : Intsss H a x r s) (hle : H.Le H') : Intsss H' a x r s := ⟨SlA.mono h.1 hle, fun i hi => (h.2 i hi).mono hle⟩
theorem Intsss.sl {H : GHeap} {a : Option Addr} {x : List (List (List Int))} {r : Nat → Option Addr} {s : Nat → Nat → Option Addr} (h : Intsss H a x r s) : SlA H a x.length (fun i => .slice (r i) (x.getD i []).length (x.getD i []).length) := h.1
def IntsssAt (b : Nat) (H : GHeap) (a : Option Addr) (x : List (List (List Int))) (r : Nat → Option Addr) (s : Nat → Nat → Option Addr) : Prop :=
  ∃ g e cs, a = some ⟨g, 0, none⟩ ∧ b ≤ g ∧ H.get g = some (.row cs e true) ∧ cs.length = x.length ∧ (∀ i, i < x.length → cs[i]? = some (.slice (r i) (x.getD i []).length (x.getD i []).length)) ∧ ∀ i, i < x.length → IntssAt b H (r i) (x.getD i []) (s i)
theorem IntsssAt.keep {b b' : Nat} {H H' : GHeap} {a : Option Addr} {x : List (List (List Int))} {r : Nat → Option Addr} {s : Nat → Nat → Option Addr} (h : IntsssAt b H a x r s) (hk : Keep b' H H') (hb : b' ≤ b) : IntsssAt b' H' a x r s :=
  let ⟨g, e, cs, h1, h2, h3, h4, h5, h6⟩ := h; ⟨g, e, cs, h1, by omega, hk g _ (by omega) h3, h4, h5, fun i hi => (h6 i hi).keep hk hb⟩
theorem IntsssAt.intsss {b : Nat} {H : GHeap} {a : Option Addr} {x : List (List (List Int))} {r : Nat → Option Addr} {s : Nat → Nat → Option Addr} (h : IntsssAt b H a x r s) : Intsss H a x r s := by
  obtain ⟨g, e, cs, rfl, _, h3, h4, h5, h6⟩ := h
  exact ⟨.inr ⟨g, 0, rfl, fun i hi => by rw [GHeap.cell_of h3, Nat.zero_add]; exact h5 i hi⟩, fun i hi => (h6 i hi).intss⟩
def Wd2 (xss : List (List Int)) : Prop := xss.length ≤ 9223372036854775807 ∧ ∀ i, I64s (xss.getD i [])
def Wd3 (x : List (List (List Int))) : Prop := x.length ≤ 9223372036854775807 ∧ ∀ i, Wd2 (x.getD i [])
def Sm3 (x : List (List (List Int))) : Prop := x.length ≤ 1048576 ∧ ∀ i, (x.getD i []).length ≤ 1048576 ∧ ∀ j, ((x.getD i []).getD j []).length ≤ 1048576
def RIntsss (ρ : Place) (H : GHeap) (cs : List Value) : Prop := ∃ a x r s c, cs = [c] ∧ VRel ρ (.slice a x.length x.length) c ∧ Intsss H a x r s ∧ Wd3 x
theorem RIntsss.mono {ρ ρ' : Place} {H H' : GHeap} {cs : List Value} (h : RIntsss ρ H cs) (he : Ext ρ ρ') (hl : H.Le H') : RIntsss ρ' H' cs :=
  let ⟨a, x, r, s, c, h1, h2, h3, h4⟩ := h; ⟨a, x, r, s, c, h1, h2.mono he, h3.mono hl, h4⟩
theorem Wd2.nil : Wd2 [] := ⟨by simp, fun i => by simp [I64s, I64]⟩
end Go.GL
/- Structs of lists, as they lie in a ghost heap. No condition. -/
namespace Go.GL
open Go.RowKit
structure SFun where
  sh : Cat
  sz : List Int
  ac : List (List Int)
structure SFunP where
  sh : CatP
  a1 : Option Addr
  a2 : Option Addr
  r2 : Nat → Option Addr
def SFun.cells (c : SFun) (p : SFunP) : List Value := c.sh.cells p.sh ++ ([.slice p.a1 c.sz.length c.sz.length] ++ ([.slice p.a2 c.ac.length c.ac.length]))
def SFun.In (H : GHeap) (c : SFun) (p : SFunP) : Prop := c.sh.In H p.sh ∧ Ints H p.a1 c.sz ∧ Intss H p.a2 c.ac p.r2
theorem SFun.In.mono {H H' : GHeap} {c : SFun} {p : SFunP} (h : c.In H p) (hle : H.Le H') : c.In H' p := ⟨Cat.In.mono (h.1) hle, Ints.mono (h.2.1) hle, Intss.mono (h.2.2) hle⟩
def SFun.At (H : GHeap) (g o : Nat) (c : SFun) (p : SFunP) : Prop := Mem H g o (c.cells p) ∧ c.In H p
theorem SFun.At.mono {H H' : GHeap} {g o : Nat} {c : SFun} {p : SFunP} (h : SFun.At H g o c p) (hle : H.Le H') : SFun.At H' g o c p := ⟨h.1.mono hle, SFun.In.mono h.2 hle⟩
theorem SFun.At.get {H : GHeap} {g o : Nat} {c : SFun} {p : SFunP} (h : SFun.At H g o c p) : Cat.At H g (o + 0) c.sh p.sh ∧ H.cell g (o + 5) = some (.slice p.a1 c.sz.length c.sz.length) ∧ H.cell g (o + 6) = some (.slice p.a2 c.ac.length c.ac.length) ∧ Ints H p.a1 c.sz ∧ Intss H p.a2 c.ac p.r2 :=
  ⟨⟨h.1.left, h.2.1⟩, (h.1.right (n := 5) rfl).left 0 _ rfl, ((h.1.right (n := 5) rfl).right (n := 1) rfl) 0 _ rfl, h.2.2.1, h.2.2.2⟩
def SFun.Small (c : SFun) : Prop := c.sh.Small ∧ c.sz.length ≤ 1048576 ∧ (c.ac.length ≤ 1048576 ∧ ∀ i, (c.ac.getD i []).length ≤ 1048576)
def SFun.Wide (c : SFun) : Prop := c.sh.Wide ∧ I64s c.sz ∧ (c.ac.length ≤ 9223372036854775807 ∧ ∀ i, I64s (c.ac.getD i []))
def SFunAt (b : Nat) (H : GHeap) (c : SFun) (p : SFunP) : Prop := CatAt b H c.sh p.sh ∧ IntsAt b H p.a1 c.sz ∧ IntssAt b H p.a2 c.ac p.r2
theorem SFunAt.keep {b b' : Nat} {H H' : GHeap} {c : SFun} {p : SFunP} (h : SFunAt b H c p) (hk : Keep b' H H') (hb : b' ≤ b) : SFunAt b' H' c p := ⟨CatAt.keep (h.1) hk hb, IntsAt.keep (h.2.1) hk hb, IntssAt.keep (h.2.2) hk hb⟩
theorem SFunAt.inn {b : Nat} {H : GHeap} {c : SFun} {p : SFunP} (h : SFunAt b H c p) : c.In H p := ⟨CatAt.inn (h.1), IntsAt.ints (h.2.1), IntssAt.intss (h.2.2)⟩
def NewSFun (H : GHeap) (c : SFun) (v : Value) (H' : GHeap) : Prop := H.Le H' ∧ ∃ p, v = .agg (c.cells p).toArray ∧ SFunAt H.next H' c p
def sfunT (P : Program) (t : TypeId) : Bool := structIs P t 7 3 fun fs => fieldIs P fs 0 0 5 catT && fieldIs P fs 1 5 1 intsT && fieldIs P fs 2 6 1 intssT
def RSFun (ρ : Place) (H : GHeap) (cs : List Value) : Prop := ∃ (c : SFun) (p : SFunP), LRel ρ (c.cells p) cs ∧ c.In H p ∧ c.Wide
theorem import_sfun {P : Program} {t : TypeId} (ht : sfunT P t = true) : Imports P t RSFun := by
  intro T enc B w0 ρ H w held fuel cs x hs hB h
  obtain ⟨fs, g1, g2, g3, g4⟩ := structIs_run ht
  simp only [Bool.and_eq_true] at g4
  obtain ⟨⟨q0, q1⟩, q2⟩ := g4
  obtain ⟨xs, n, _, _, hl, hx, hf⟩ := DataW.trod_struct g1 h
  obtain ⟨ρ0, H0, s0, e0, l0, y0, p0, v0, i0, w0⟩ := import_field (fun _ h => import_cat h) q0 hx hf hs hB
  obtain ⟨ρ1, H1, s1, e1, l1, a1, x1, c1, z1, v1, i1, w1⟩ := import_field (fun _ h => import_ints h) q1 hx hf s0 hB
  obtain ⟨ρ2, H2, s2, e2, l2, a2, x2, r2, c2, z2, v2, i2, w2⟩ := import_field (fun _ h => import_intss h) q2 hx hf s1 hB
  refine ⟨ρ2, H2, s2, e0.trans (e1.trans (e2)), l0.trans (l1.trans (l2)), ⟨y0, x1, x2⟩, ⟨p0, a1, a2, r2⟩, ?_, ⟨Cat.In.mono i0 (l1.trans (l2)), i1.mono (l2), i2⟩, ⟨w0, w1, w2⟩⟩
  have hlen : cs.length = 7 := by rw [hl, g2]
  have e : cs = (cs.drop 0).take 5 ++ ((cs.drop 5).take 1 ++ ((cs.drop 6).take 1)) := by
    match cs, hlen with
    | [_, _, _, _, _, _, _], _ => rfl
  rw [e, z1, z2]
  exact (LRel.append (v0.mono (e1.trans (e2))) (LRel.append (.cons (v1.mono (e2)) (.nil _)) (.cons (v2) (.nil _))))
structure SMap where
  s : SFun
  t : SFun
  pa : List (List Int)
structure SMapP where
  s : SFunP
  t : SFunP
  a2 : Option Addr
  r2 : Nat → Option Addr
def SMap.cells (c : SMap) (p : SMapP) : List Value := c.s.cells p.s ++ (c.t.cells p.t ++ ([.slice p.a2 c.pa.length c.pa.length]))
def SMap.In (H : GHeap) (c : SMap) (p : SMapP) : Prop := c.s.In H p.s ∧ c.t.In H p.t ∧ Intss H p.a2 c.pa p.r2
theorem SMap.In.mono {H H' : GHeap} {c : SMap} {p : SMapP} (h : c.In H p) (hle : H.Le H') : c.In H' p := ⟨SFun.In.mono (h.1) hle, SFun.In.mono (h.2.1) hle, Intss.mono (h.2.2) hle⟩
def SMap.At (H : GHeap) (g o : Nat) (c : SMap) (p : SMapP) : Prop := Mem H g o (c.cells p) ∧ c.In H p
theorem SMap.At.mono {H H' : GHeap} {g o : Nat} {c : SMap} {p : SMapP} (h : SMap.At H g o c p) (hle : H.Le H') : SMap.At H' g o c p := ⟨h.1.mono hle, SMap.In.mono h.2 hle⟩
theorem SMap.At.get {H : GHeap} {g o : Nat} {c : SMap} {p : SMapP} (h : SMap.At H g o c p) : SFun.At H g (o + 0) c.s p.s ∧ SFun.At H g (o + 7) c.t p.t ∧ H.cell g (o + 14) = some (.slice p.a2 c.pa.length c.pa.length) ∧ Intss H p.a2 c.pa p.r2 :=
  ⟨⟨h.1.left, h.2.1⟩, ⟨(h.1.right (n := 7) rfl).left, h.2.2.1⟩, ((h.1.right (n := 7) rfl).right (n := 7) rfl) 0 _ rfl, h.2.2.2⟩
def SMap.Small (c : SMap) : Prop := c.s.Small ∧ c.t.Small ∧ (c.pa.length ≤ 1048576 ∧ ∀ i, (c.pa.getD i []).length ≤ 1048576)
def SMap.Wide (c : SMap) : Prop := c.s.Wide ∧ c.t.Wide ∧ (c.pa.length ≤ 9223372036854775807 ∧ ∀ i, I64s (c.pa.getD i []))
def SMapAt (b : Nat) (H : GHeap) (c : SMap) (p : SMapP) : Prop := SFunAt b H c.s p.s ∧ SFunAt b H c.t p.t ∧ IntssAt b H p.a2 c.pa p.r2
theorem SMapAt.keep {b b' : Nat} {H H' : GHeap} {c : SMap} {p : SMapP} (h : SMapAt b H c p) (hk : Keep b' H H') (hb : b' ≤ b) : SMapAt b' H' c p := ⟨SFunAt.keep (h.1) hk hb, SFunAt.keep (h.2.1) hk hb, IntssAt.keep (h.2.2) hk hb⟩
theorem SMapAt.inn {b : Nat} {H : GHeap} {c : SMap} {p : SMapP} (h : SMapAt b H c p) : c.In H p := ⟨SFunAt.inn (h.1), SFunAt.inn (h.2.1), IntssAt.intss (h.2.2)⟩
structure Con where
  ap : Int
  lg : List Int
structure ConP where
  a1 : Option Addr
def Con.cells (c : Con) (p : ConP) : List Value := [.int .i64 c.ap] ++ ([.slice p.a1 c.lg.length c.lg.length])
def Con.In (H : GHeap) (c : Con) (p : ConP) : Prop := Ints H p.a1 c.lg
theorem Con.In.mono {H H' : GHeap} {c : Con} {p : ConP} (h : c.In H p) (hle : H.Le H') : c.In H' p := Ints.mono (h) hle
def Con.At (H : GHeap) (g o : Nat) (c : Con) (p : ConP) : Prop := Mem H g o (c.cells p) ∧ c.In H p
theorem Con.At.mono {H H' : GHeap} {g o : Nat} {c : Con} {p : ConP} (h : Con.At H g o c p) (hle : H.Le H') : Con.At H' g o c p := ⟨h.1.mono hle, Con.In.mono h.2 hle⟩
theorem Con.At.get {H : GHeap} {g o : Nat} {c : Con} {p : ConP} (h : Con.At H g o c p) : H.cell g (o + 0) = some (.int .i64 c.ap) ∧ H.cell g (o + 1) = some (.slice p.a1 c.lg.length c.lg.length) ∧ Ints H p.a1 c.lg :=
  ⟨h.1.left 0 _ rfl, (h.1.right (n := 1) rfl) 0 _ rfl, h.2⟩
def Con.Small (c : Con) : Prop := (-9223372036854775808 ≤ c.ap ∧ c.ap ≤ 9223372036854775807) ∧ c.lg.length ≤ 1048576
def Con.Wide (c : Con) : Prop := I64 c.ap ∧ I64s c.lg
def ConAt (b : Nat) (H : GHeap) (c : Con) (p : ConP) : Prop := IntsAt b H p.a1 c.lg
theorem ConAt.keep {b b' : Nat} {H H' : GHeap} {c : Con} {p : ConP} (h : ConAt b H c p) (hk : Keep b' H H') (hb : b' ≤ b) : ConAt b' H' c p := IntsAt.keep (h) hk hb
theorem ConAt.inn {b : Nat} {H : GHeap} {c : Con} {p : ConP} (h : ConAt b H c p) : c.In H p := IntsAt.ints (h)
structure Prt where
  me : List (List Int)
structure PrtP where
  a0 : Option Addr
  r0 : Nat → Option Addr
def Prt.cells (c : Prt) (p : PrtP) : List Value := [.slice p.a0 c.me.length c.me.length]
def Prt.In (H : GHeap) (c : Prt) (p : PrtP) : Prop := Intss H p.a0 c.me p.r0
theorem Prt.In.mono {H H' : GHeap} {c : Prt} {p : PrtP} (h : c.In H p) (hle : H.Le H') : c.In H' p := Intss.mono (h) hle
def Prt.At (H : GHeap) (g o : Nat) (c : Prt) (p : PrtP) : Prop := Mem H g o (c.cells p) ∧ c.In H p
theorem Prt.At.mono {H H' : GHeap} {g o : Nat} {c : Prt} {p : PrtP} (h : Prt.At H g o c p) (hle : H.Le H') : Prt.At H' g o c p := ⟨h.1.mono hle, Prt.In.mono h.2 hle⟩
theorem Prt.At.get {H : GHeap} {g o : Nat} {c : Prt} {p : PrtP} (h : Prt.At H g o c p) : H.cell g (o + 0) = some (.slice p.a0 c.me.length c.me.length) ∧ Intss H p.a0 c.me p.r0 :=
  ⟨h.1 0 _ rfl, h.2⟩
def Prt.Small (c : Prt) : Prop := (c.me.length ≤ 1048576 ∧ ∀ i, (c.me.getD i []).length ≤ 1048576)
def Prt.Wide (c : Prt) : Prop := (c.me.length ≤ 9223372036854775807 ∧ ∀ i, I64s (c.me.getD i []))
def PrtAt (b : Nat) (H : GHeap) (c : Prt) (p : PrtP) : Prop := IntssAt b H p.a0 c.me p.r0
theorem PrtAt.keep {b b' : Nat} {H H' : GHeap} {c : Prt} {p : PrtP} (h : PrtAt b H c p) (hk : Keep b' H H') (hb : b' ≤ b) : PrtAt b' H' c p := IntssAt.keep (h) hk hb
theorem PrtAt.inn {b : Nat} {H : GHeap} {c : Prt} {p : PrtP} (h : PrtAt b H c p) : c.In H p := IntssAt.intss (h)
structure Prof where
  s : Cat
  t : Cat
  sz : List (List Int)
  be : List (List (List Int))
  bh : List (List (List Int))
structure ProfP where
  s : CatP
  t : CatP
  a2 : Option Addr
  r2 : Nat → Option Addr
  a3 : Option Addr
  r3 : Nat → Option Addr
  s3 : Nat → Nat → Option Addr
  a4 : Option Addr
  r4 : Nat → Option Addr
  s4 : Nat → Nat → Option Addr
def Prof.cells (c : Prof) (p : ProfP) : List Value := c.s.cells p.s ++ (c.t.cells p.t ++ ([.slice p.a2 c.sz.length c.sz.length] ++ ([.slice p.a3 c.be.length c.be.length] ++ ([.slice p.a4 c.bh.length c.bh.length]))))
def Prof.In (H : GHeap) (c : Prof) (p : ProfP) : Prop := c.s.In H p.s ∧ c.t.In H p.t ∧ Intss H p.a2 c.sz p.r2 ∧ Intsss H p.a3 c.be p.r3 p.s3 ∧ Intsss H p.a4 c.bh p.r4 p.s4
theorem Prof.In.mono {H H' : GHeap} {c : Prof} {p : ProfP} (h : c.In H p) (hle : H.Le H') : c.In H' p := ⟨Cat.In.mono (h.1) hle, Cat.In.mono (h.2.1) hle, Intss.mono (h.2.2.1) hle, Intsss.mono (h.2.2.2.1) hle, Intsss.mono (h.2.2.2.2) hle⟩
def Prof.At (H : GHeap) (g o : Nat) (c : Prof) (p : ProfP) : Prop := Mem H g o (c.cells p) ∧ c.In H p
theorem Prof.At.mono {H H' : GHeap} {g o : Nat} {c : Prof} {p : ProfP} (h : Prof.At H g o c p) (hle : H.Le H') : Prof.At H' g o c p := ⟨h.1.mono hle, Prof.In.mono h.2 hle⟩
theorem Prof.At.get {H : GHeap} {g o : Nat} {c : Prof} {p : ProfP} (h : Prof.At H g o c p) : Cat.At H g (o + 0) c.s p.s ∧ Cat.At H g (o + 5) c.t p.t ∧ H.cell g (o + 10) = some (.slice p.a2 c.sz.length c.sz.length) ∧ H.cell g (o + 11) = some (.slice p.a3 c.be.length c.be.length) ∧ H.cell g (o + 12) = some (.slice p.a4 c.bh.length c.bh.length) ∧ Intss H p.a2 c.sz p.r2 ∧ Intsss H p.a3 c.be p.r3 p.s3 ∧ Intsss H p.a4 c.bh p.r4 p.s4 :=
  ⟨⟨h.1.left, h.2.1⟩, ⟨(h.1.right (n := 5) rfl).left, h.2.2.1⟩, ((h.1.right (n := 5) rfl).right (n := 5) rfl).left 0 _ rfl, (((h.1.right (n := 5) rfl).right (n := 5) rfl).right (n := 1) rfl).left 0 _ rfl, ((((h.1.right (n := 5) rfl).right (n := 5) rfl).right (n := 1) rfl).right (n := 1) rfl) 0 _ rfl, h.2.2.2.1, h.2.2.2.2.1, h.2.2.2.2.2⟩
def Prof.Small (c : Prof) : Prop := c.s.Small ∧ c.t.Small ∧ (c.sz.length ≤ 1048576 ∧ ∀ i, (c.sz.getD i []).length ≤ 1048576) ∧ Sm3 c.be ∧ Sm3 c.bh
def Prof.Wide (c : Prof) : Prop := c.s.Wide ∧ c.t.Wide ∧ (c.sz.length ≤ 9223372036854775807 ∧ ∀ i, I64s (c.sz.getD i [])) ∧ Wd3 c.be ∧ Wd3 c.bh
def ProfAt (b : Nat) (H : GHeap) (c : Prof) (p : ProfP) : Prop := CatAt b H c.s p.s ∧ CatAt b H c.t p.t ∧ IntssAt b H p.a2 c.sz p.r2 ∧ IntsssAt b H p.a3 c.be p.r3 p.s3 ∧ IntsssAt b H p.a4 c.bh p.r4 p.s4
theorem ProfAt.keep {b b' : Nat} {H H' : GHeap} {c : Prof} {p : ProfP} (h : ProfAt b H c p) (hk : Keep b' H H') (hb : b' ≤ b) : ProfAt b' H' c p := ⟨CatAt.keep (h.1) hk hb, CatAt.keep (h.2.1) hk hb, IntssAt.keep (h.2.2.1) hk hb, IntsssAt.keep (h.2.2.2.1) hk hb, IntsssAt.keep (h.2.2.2.2) hk hb⟩
theorem ProfAt.inn {b : Nat} {H : GHeap} {c : Prof} {p : ProfP} (h : ProfAt b H c p) : c.In H p := ⟨CatAt.inn (h.1), CatAt.inn (h.2.1), IntssAt.intss (h.2.2.1), IntsssAt.intsss (h.2.2.2.1), IntsssAt.intsss (h.2.2.2.2)⟩
end Go.GL
/- Lists that are written over: what marking leaves, and what it finds again. No condition. -/
namespace Go.GL

/-- A row may have turned only into another one of as many numbers, and only among the rows lo .. hi - 1. -/
structure StM (lo hi : Nat) (H H' : GHeap) : Prop where
  nx : H.next ≤ H'.next
  same : ∀ k o, ¬ (lo ≤ k ∧ k < hi) → H.get k = some o → H'.get k = some o
  ins : ∀ k o, H.get k = some o → ∃ o', H'.get k = some o' ∧ (o' = o ∨ ∃ xs ys e, o = .row (ints xs) e true ∧ o' = .row (ints ys) e true ∧ ys.length = xs.length)
theorem StM.refl (lo hi : Nat) (H : GHeap) : StM lo hi H H := ⟨Nat.le_refl _, fun _ _ _ h => h, fun _ o h => ⟨o, h, .inl rfl⟩⟩
theorem StM.of_le {lo hi : Nat} {H H' : GHeap} (h : H.Le H') : StM lo hi H H' := ⟨h.1, fun k o _ ho => h.2 k o ho, fun _ o ho => ⟨o, h.2 _ _ ho, .inl rfl⟩⟩
theorem ints_inj {xs ys : List Int} (h : ints xs = ints ys) : xs = ys := by
  unfold ints at h
  exact (List.map_inj_right (fun a b hab => by cases hab; rfl)).1 h
theorem StM.trans {lo hi : Nat} {A B C : GHeap} (h : StM lo hi A B) (k : StM lo hi B C) : StM lo hi A C where
  nx := Nat.le_trans h.nx k.nx
  same g o hg ho := k.same g o hg (h.same g o hg ho)
  ins g o ho := by
    obtain ⟨o1, h1, h2⟩ := h.ins g o ho
    obtain ⟨o2, k1, k2⟩ := k.ins g o1 h1
    refine ⟨o2, k1, ?_⟩
    rcases h2 with rfl | ⟨xs, ys, e, rfl, rfl, hl⟩
    · exact k2
    · rcases k2 with rfl | ⟨us, vs, e', h3, rfl, hl'⟩
      · exact .inr ⟨xs, ys, e, rfl, rfl, hl⟩
      · injection h3 with h3 h4 h5
        have := ints_inj h3
        subst this
        subst h4
        exact .inr ⟨xs, vs, _, rfl, rfl, by rw [hl', hl]⟩
theorem StM.le_left {lo hi : Nat} {A B C : GHeap} (h : A.Le B) (k : StM lo hi B C) (hA : A.next ≤ lo) : A.Le C :=
  ⟨Nat.le_trans h.1 k.nx, fun g o ho => k.same g o (by have := GHeap.lt_of_get ho; omega) (h.2 g o ho)⟩
theorem Keep.stM {b lo hi : Nat} {H0 H H' : GHeap} (k : Keep b H0 H) (h : StM lo hi H H') (hg : ∀ k, b ≤ k → k < H0.next → ¬ (lo ≤ k ∧ k < hi)) : Keep b H0 H' := fun g o hb h1 => h.same g o (hg g hb (GHeap.lt_of_get h1)) (k g o hb h1)

/-- A list that may be written over: its row lies among lo .. hi - 1. -/
def IntsW (lo hi : Nat) (H : GHeap) (a : Option Addr) (n : Nat) : Prop := n = 0 ∨ ∃ g e xs, a = some ⟨g, 0, none⟩ ∧ lo ≤ g ∧ g < hi ∧ H.get g = some (.row (ints xs) e true) ∧ xs.length = n
theorem IntsW.stm {lo hi : Nat} {H H' : GHeap} {a : Option Addr} {n : Nat} (h : IntsW lo hi H a n) (s : StM lo hi H H') : IntsW lo hi H' a n := by
  rcases h with h | ⟨g, e, xs, h1, h2, h3, h4, h5⟩
  · exact .inl h
  · obtain ⟨o', k1, k2⟩ := s.ins g _ h4
    rcases k2 with rfl | ⟨us, vs, e', h6, rfl, hl⟩
    · exact .inr ⟨g, e, xs, h1, h2, h3, k1, h5⟩
    · injection h6 with h6 h7 h8
      have := ints_inj h6
      subst this
      exact .inr ⟨g, e', vs, h1, h2, h3, k1, by rw [hl, h5]⟩
theorem IntsW.of_at {b : Nat} {H0 H : GHeap} {a : Option Addr} {xs : List Int} (h : IntsAt b H0 a xs) (k : Keep b H0 H) : IntsW b H0.next H a xs.length := by
  obtain ⟨g, e, h1, h2, h3⟩ := h
  exact .inr ⟨g, e, xs, h1, h2, GHeap.lt_of_get h3, k g _ h2 h3, rfl⟩
/-- A list's row, if it has one, is not below b. -/
def HdGe (b : Nat) (a : Option Addr) (n : Nat) : Prop := n = 0 ∨ ∃ g o, a = some ⟨g, o, none⟩ ∧ b ≤ g
theorem HdGe.le {b b' : Nat} {a : Option Addr} {n : Nat} (h : HdGe b a n) (hb : b' ≤ b) : HdGe b' a n := h.imp id fun ⟨g, o, h1, h2⟩ => ⟨g, o, h1, Nat.le_trans hb h2⟩
theorem SlA.keep {b b' : Nat} {H H' : GHeap} {a : Option Addr} {n : Nat} {f : Nat → Value} (h : SlA H a n f) (hd : HdGe b a n) (k : Keep b' H H') (hb : b' ≤ b) : SlA H' a n f := by
  rcases hd with h0 | ⟨g, o, rfl, hg⟩
  · exact .inl h0
  · rcases h with h0 | ⟨g', o', e, hc⟩
    · exact .inl h0
    · cases e
      refine .inr ⟨g, o, rfl, fun i hi => ?_⟩
      have h1 := hc i hi
      unfold GHeap.cell at h1 ⊢
      cases hx : H.get g with
      | none => rw [hx] at h1; cases h1
      | some x => rw [hx] at h1; rw [k g x (by omega) hx]; exact h1
def IntssW (lo hi : Nat) (H : GHeap) (a : Option Addr) (xss : List (List Int)) (r : Nat → Option Addr) : Prop :=
  SlA H a xss.length (fun i => .slice (r i) (xss.getD i []).length (xss.getD i []).length) ∧ (∀ i, i < xss.length → IntsW lo hi H (r i) (xss.getD i []).length) ∧ HdGe lo a xss.length
theorem SlA.stm {lo hi : Nat} {H H' : GHeap} {a : Option Addr} {n : Nat} {f : Nat → Value} (h : SlA H a n f) (s : StM lo hi H H') (hf : ∀ i m, f i ≠ .int .i64 m) : SlA H' a n f := by
  rcases h with h | ⟨g, o, e, h⟩
  · exact .inl h
  · refine .inr ⟨g, o, e, fun i hi => ?_⟩
    have hc := h i hi
    unfold GHeap.cell at hc ⊢
    split at hc
    · rename_i cs el own hg
      obtain ⟨o', k1, k2⟩ := s.ins g _ hg
      rw [k1]
      rcases k2 with rfl | ⟨us, vs, e', h6, rfl, hl⟩
      · exact hc
      · injection h6 with h6 h7 h8
        subst h6
        exfalso
        simp only [ints, List.getElem?_map, Option.map_eq_some_iff] at hc
        obtain ⟨m, _, hm⟩ := hc
        exact hf i m hm.symm
    · cases hc
theorem IntssW.stm {lo hi : Nat} {H H' : GHeap} {a : Option Addr} {xss : List (List Int)} {r : Nat → Option Addr} (h : IntssW lo hi H a xss r) (s : StM lo hi H H') : IntssW lo hi H' a xss r :=
  ⟨h.1.stm s fun i m e => (by cases e), fun i hi => (h.2.1 i hi).stm s, h.2.2⟩
theorem IntssW.of_at {b : Nat} {H0 H : GHeap} {a : Option Addr} {xss : List (List Int)} {r : Nat → Option Addr} (h : IntssAt b H0 a xss r) (k : Keep b H0 H) : IntssW b H0.next H a xss r :=
  ⟨(h.keep k (Nat.le_refl _)).intss.1, fun i hi => by obtain ⟨g, e, cs, _, _, _, _, _, h6⟩ := h; exact .of_at (h6 i hi) k, by obtain ⟨g, e, cs, h1, h2, _⟩ := h; exact .inr ⟨g, 0, h1, h2⟩⟩
def sumL : List (List Int) → Nat
  | [] => 0
  | xs :: r => xs.length + sumL r
theorem sumL_take_succ {xss : List (List Int)} {k : Nat} (h : k < xss.length) : sumL (xss.take (k + 1)) = sumL (xss.take k) + (xss.getD k []).length := by
  induction xss generalizing k with
  | nil => simp at h
  | cons x r ih =>
    cases k with
    | zero => simp [sumL]
    | succ k =>
      have := ih (k := k) (by simpa using h)
      simp only [List.take_succ_cons, sumL, List.getD_cons_succ]
      omega
theorem sumL_le {m : Nat} : ∀ {xss : List (List Int)}, (∀ i, (xss.getD i []).length ≤ m) → sumL xss ≤ xss.length * m
  | [], _ => by simp [sumL]
  | x :: r, h => by
    have h0 := h 0
    have := sumL_le (xss := r) fun i => by simpa using h (i + 1)
    simp only [sumL, List.length_cons, Nat.add_mul]
    simp at h0
    omega
theorem sumL_take_le {xss : List (List Int)} {k : Nat} : sumL (xss.take k) ≤ sumL xss := by
  induction xss generalizing k with
  | nil => simp
  | cons x r ih =>
    cases k with
    | zero => simp [sumL]
    | succ k => simp only [List.take_succ_cons, sumL]; have := ih (k := k); omega
def Cat.total (c : Cat) : Nat := c.src.length + (c.tgt.length + (c.idn.length + sumL c.comp))
def CatW (lo hi : Nat) (H : GHeap) (c : Cat) (p : CatP) : Prop := IntsW lo hi H p.a1 c.src.length ∧ IntsW lo hi H p.a2 c.tgt.length ∧ IntsW lo hi H p.a3 c.idn.length ∧ IntssW lo hi H p.a4 c.comp p.r
theorem CatW.stm {lo hi : Nat} {H H' : GHeap} {c : Cat} {p : CatP} (h : CatW lo hi H c p) (s : StM lo hi H H') : CatW lo hi H' c p := ⟨h.1.stm s, h.2.1.stm s, h.2.2.1.stm s, h.2.2.2.stm s⟩
theorem CatW.of_at {b : Nat} {H0 H : GHeap} {c : Cat} {p : CatP} (h : CatAt b H0 c p) (k : Keep b H0 H) : CatW b H0.next H c p := ⟨.of_at h.1 k, .of_at h.2.1 k, .of_at h.2.2.1 k, .of_at h.2.2.2 k⟩
def Fun.total (f : Fun) : Nat := f.s.total + (f.t.total + (f.ob.length + f.ar.length))
def FunW (lo hi : Nat) (H : GHeap) (f : Fun) (p : FunP) : Prop := CatW lo hi H f.s p.s ∧ CatW lo hi H f.t p.t ∧ IntsW lo hi H p.b1 f.ob.length ∧ IntsW lo hi H p.b2 f.ar.length
theorem FunW.stm {lo hi : Nat} {H H' : GHeap} {c : Fun} {p : FunP} (h : FunW lo hi H c p) (s : StM lo hi H H') : FunW lo hi H' c p := ⟨h.1.stm s, h.2.1.stm s, h.2.2.1.stm s, h.2.2.2.stm s⟩
theorem FunW.of_at {b : Nat} {H0 H : GHeap} {c : Fun} {p : FunP} (h : FunAt b H0 c p) (k : Keep b H0 H) : FunW b H0.next H c p := ⟨.of_at h.1 k, .of_at h.2.1 k, .of_at h.2.2.1 k, .of_at h.2.2.2 k⟩
def Con.total (c : Con) : Nat := c.lg.length
def ConW (lo hi : Nat) (H : GHeap) (c : Con) (p : ConP) : Prop := IntsW lo hi H p.a1 c.lg.length
theorem ConW.stm {lo hi : Nat} {H H' : GHeap} {c : Con} {p : ConP} (h : ConW lo hi H c p) (s : StM lo hi H H') : ConW lo hi H' c p := IntsW.stm h s
theorem ConW.of_at {b : Nat} {H0 H : GHeap} {c : Con} {p : ConP} (h : ConAt b H0 c p) (k : Keep b H0 H) : ConW b H0.next H c p := IntsW.of_at h k

/-! ### Results: their own rows, no two alike. -/
def seqL (k : Int) (n : Nat) : List Int := (List.range n).map fun (i : Nat) => k + (i : Int)
@[simp] theorem length_seqL (k : Int) (n : Nat) : (seqL k n).length = n := by simp [seqL]
theorem seqL_get {k : Int} {n i : Nat} (h : i < n) : (seqL k n).getD i 0 = k + i := by simp [seqL, List.getD_eq_getElem?_getD, h]
/-- A leaf: where a list of n numbers lies, and its length. -/
abbrev Leaf := Option Addr × Nat
def lvBlk : Leaf → List Nat
  | (some a, _ + 1) => [a.block]
  | _ => []
def lvBlks (ls : List Leaf) : List Nat := ls.flatMap lvBlk
def lvSum : List Leaf → Nat
  | [] => 0
  | l :: r => l.2 + lvSum r
/-- All leaves are live, from row b on. -/
def Live1 (b : Nat) (H : GHeap) (l : Leaf) : Prop := l.2 = 0 ∨ ∃ g e xs, l.1 = some ⟨g, 0, none⟩ ∧ b ≤ g ∧ H.get g = some (.row (ints xs) e true) ∧ xs.length = l.2
def Lives (b : Nat) (H : GHeap) (ls : List Leaf) : Prop := ∀ l ∈ ls, Live1 b H l
/-- The leaves hold k, k + 1, .. in order. -/
def Held (b : Nat) (H : GHeap) : List Leaf → Int → Prop
  | [], _ => True
  | l :: r, k => (l.2 = 0 ∨ ∃ g e, l.1 = some ⟨g, 0, none⟩ ∧ b ≤ g ∧ H.get g = some (.row (ints (seqL k l.2)) e true)) ∧ Held b H r (k + l.2)
theorem Held.keep0 {b : Nat} {H H' : GHeap} : ∀ {ls : List Leaf} {k : Int}, Held b H ls k → Keep b H H' → Held b H' ls k
  | [], _, _, _ => trivial
  | _ :: _, _, h, hk => ⟨h.1.imp id fun ⟨g, e, h1, h2, h3⟩ => ⟨g, e, h1, h2, hk g _ h2 h3⟩, Held.keep0 h.2 hk⟩
theorem Held.append {b : Nat} {H : GHeap} : ∀ {ls ms : List Leaf} {k : Int}, Held b H ls k → Held b H ms (k + lvSum ls) → Held b H (ls ++ ms) k
  | [], _, _, _, h => by simpa [lvSum] using h
  | l :: r, ms, k, h, h' => ⟨h.1, Held.append h.2 (by rw [show k + (l.2 : Int) + (lvSum r : Int) = k + (lvSum (l :: r) : Int) by simp [lvSum]; omega]; exact h')⟩
/-- Only rows of bs have turned. -/
structure StB (bs : List Nat) (H H' : GHeap) : Prop where
  nx : H.next ≤ H'.next
  same : ∀ k o, ¬ k ∈ bs → H.get k = some o → H'.get k = some o
theorem StB.refl (bs : List Nat) (H : GHeap) : StB bs H H := ⟨Nat.le_refl _, fun _ _ _ h => h⟩
theorem StB.trans {bs cs : List Nat} {A B C : GHeap} (h : StB bs A B) (k : StB cs B C) : StB (bs ++ cs) A C :=
  ⟨Nat.le_trans h.nx k.nx, fun g o hg ho => k.same g o (fun hc => hg (List.mem_append_right _ hc)) (h.same g o (fun hc => hg (List.mem_append_left _ hc)) ho)⟩
theorem Live1.blk {b : Nat} {H : GHeap} {l : Leaf} (h : Live1 b H l) {g : Nat} {e : TypeId} {xs : List Int} (h1 : l.1 = some ⟨g, 0, none⟩) (hn : l.2 ≠ 0) : g ∈ lvBlk l := by
  obtain ⟨a, n⟩ := l
  simp only at h1 hn
  subst h1
  cases n with
  | zero => exact absurd rfl hn
  | succ n => simp [lvBlk]
theorem Lives.stB {b : Nat} {H H' : GHeap} {ls : List Leaf} {bs : List Nat} (h : Lives b H ls) (s : StB bs H H') (hd : ∀ g ∈ lvBlks ls, ¬ g ∈ bs) : Lives b H' ls := fun l hl => by
  by_cases hn : l.2 = 0
  · exact .inl hn
  · rcases h l hl with h0 | ⟨g, e, xs, h1, h2, h3, h4⟩
    · exact .inl h0
    · exact .inr ⟨g, e, xs, h1, h2, s.same g _ (hd g (List.mem_flatMap.2 ⟨l, hl, (h l hl).blk (e := e) (xs := xs) h1 hn⟩)) h3, h4⟩
theorem Live1.keep {b : Nat} {H H' : GHeap} {l : Leaf} (h : Live1 b H l) (k : Keep b H H') : Live1 b H' l := h.imp id fun ⟨g, e, xs, h1, h2, h3, h4⟩ => ⟨g, e, xs, h1, h2, k g _ h2 h3, h4⟩
theorem Lives.keep {b : Nat} {H H' : GHeap} {ls : List Leaf} (h : Lives b H ls) (k : Keep b H H') : Lives b H' ls := fun l hl => (h l hl).keep k
theorem Held.stB {b : Nat} {H H' : GHeap} {bs : List Nat} (s : StB bs H H') : ∀ {ls : List Leaf} {k : Int}, Held b H ls k → (∀ g ∈ lvBlks ls, ¬ g ∈ bs) → Held b H' ls k
  | [], _, _, _ => trivial
  | l :: r, k, h, hd => by
    refine ⟨?_, Held.stB s h.2 fun g hg => hd g (by simp only [lvBlks, List.flatMap_cons, List.mem_append]; exact .inr hg)⟩
    by_cases hn : l.2 = 0
    · exact .inl hn
    · rcases h.1 with h0 | ⟨g, e, h1, h2, h3⟩
      · exact .inl h0
      · have hl : Live1 b H l := .inr ⟨g, e, _, h1, h2, h3, by simp⟩
        exact .inr ⟨g, e, h1, h2, s.same g _ (hd g (by simp only [lvBlks, List.flatMap_cons, List.mem_append]; exact .inl (hl.blk (e := e) (xs := seqL k l.2) h1 hn))) h3⟩
theorem Lives.app {b : Nat} {H : GHeap} {ls ms : List Leaf} (h : Lives b H ls) (h' : Lives b H ms) : Lives b H (ls ++ ms) := fun l hl => (List.mem_append.1 hl).elim (h l) (h' l)
theorem lvBlks_append (ls ms : List Leaf) : lvBlks (ls ++ ms) = lvBlks ls ++ lvBlks ms := by simp [lvBlks]
theorem lvSum_append : ∀ (ls ms : List Leaf), lvSum (ls ++ ms) = lvSum ls + lvSum ms
  | [], ms => by simp [lvSum]
  | l :: r, ms => by simp only [List.cons_append, lvSum, lvSum_append r ms]; omega

/-- A result's list: none, or a row of its own. -/
def IntsR (b : Nat) (H : GHeap) (a : Option Addr) (xs : List Int) : Prop := (xs = [] ∧ a = none) ∨ IntsAt b H a xs
theorem IntsR.keep {b b' : Nat} {H H' : GHeap} {a : Option Addr} {xs : List Int} (h : IntsR b H a xs) (k : Keep b' H H') (hb : b' ≤ b) : IntsR b' H' a xs := h.imp id fun h => h.keep k hb
theorem IntsR.ints {b : Nat} {H : GHeap} {a : Option Addr} {xs : List Int} (h : IntsR b H a xs) : Ints H a xs := by
  rcases h with ⟨rfl, _⟩ | h
  · exact .inl rfl
  · exact h.ints
theorem IntsR.live {b : Nat} {H : GHeap} {a : Option Addr} {xs : List Int} (h : IntsR b H a xs) : Live1 b H (a, xs.length) := by
  rcases h with ⟨rfl, _⟩ | ⟨g, e, h1, h2, h3⟩
  · exact .inl rfl
  · exact .inr ⟨g, e, xs, h1, h2, h3, rfl⟩
def Con.leaves (c : Con) (p : ConP) : List Leaf := [(p.a1, c.lg.length)]
def ConR (b : Nat) (H : GHeap) (c : Con) (p : ConP) : Prop := IntsR b H p.a1 c.lg
theorem ConR.keep {b b' : Nat} {H H' : GHeap} {c : Con} {p : ConP} (h : ConR b H c p) (k : Keep b' H H') (hb : b' ≤ b) : ConR b' H' c p := IntsR.keep h k hb
theorem ConR.inn {b : Nat} {H : GHeap} {c : Con} {p : ConP} (h : ConR b H c p) : c.In H p := IntsR.ints h
theorem Con.nodup (c : Con) (p : ConP) : (lvBlks (c.leaves p)).Nodup := by
  simp only [Con.leaves, lvBlks, List.flatMap_cons, List.flatMap_nil, List.append_nil]
  unfold lvBlk
  split <;> simp
theorem Held.keep {b b' : Nat} {H H' : GHeap} {ls : List Leaf} {k : Int} (h : Held b H ls k) (hk : Keep b' H H') (hb : b' ≤ b) : Held b H' ls k := h.keep0 fun g o hg ho => hk g o (by omega) ho
theorem Held.app {b : Nat} {H : GHeap} : ∀ {ls ms : List Leaf} {k : Int}, Held b H (ls ++ ms) k → Held b H ls k ∧ Held b H ms (k + lvSum ls)
  | [], ms, k, h => ⟨trivial, by simpa [lvSum] using h⟩
  | l :: r, ms, k, h => by
    obtain ⟨h1, h2⟩ := Held.app (ls := r) h.2
    exact ⟨⟨h.1, h1⟩, by rw [show k + (lvSum (l :: r) : Int) = k + (l.2 : Int) + (lvSum r : Int) by simp [lvSum]; omega]; exact h2⟩
theorem Held.ints {b : Nat} {H : GHeap} {a : Option Addr} {n : Nat} {k : Int} (h : Held b H [(a, n)] k) : Ints H a (seqL k n) := by
  rcases h.1 with h0 | ⟨g, e, h1, h2, h3⟩
  · simp only at h0; subst h0; exact .inl (by simp)
  · simp only at h1 h3; subst h1; exact Ints.of_get h3

/-- What marking leaves. -/
structure Marked (lo hi : Nat) (H H' : GHeap) (ls : List Leaf) (k : Int) : Prop where
  stm : StM lo hi H H'
  stb : StB (lvBlks ls) H H'
  held : (lvBlks ls).Nodup → Held lo H' ls k
theorem Marked.nil (lo hi : Nat) (H : GHeap) (k : Int) : Marked lo hi H H [] k := ⟨.refl _ _ _, .refl _ _, fun _ => trivial⟩
theorem Marked.app {lo hi : Nat} {A B C : GHeap} {ls ms : List Leaf} {k : Int} (h : Marked lo hi A B ls k) (h' : Marked lo hi B C ms (k + lvSum ls)) : Marked lo hi A C (ls ++ ms) k where
  stm := h.stm.trans h'.stm
  stb := by rw [lvBlks_append]; exact h.stb.trans h'.stb
  held := fun nd => by
    rw [lvBlks_append, List.nodup_append] at nd
    exact ((h.held nd.1).stB h'.stb fun g hg hg' => nd.2.2 g hg g hg' rfl).append (h'.held nd.2.1)
theorem Marked.le_left {lo hi : Nat} {A B C : GHeap} {ls : List Leaf} {k : Int} (h : A.Le B) (m : Marked lo hi B C ls k) : Marked lo hi A C ls k :=
  ⟨⟨Nat.le_trans h.1 m.stm.nx, fun g o hg ho => m.stm.same g o hg (h.2 g o ho), fun g o ho => m.stm.ins g o (h.2 g o ho)⟩, ⟨Nat.le_trans h.1 m.stb.nx, fun g o hg ho => m.stb.same g o hg (h.2 g o ho)⟩, m.held⟩
theorem Marked.one {lo hi g : Nat} {H H' : GHeap} {e : TypeId} {xs : List Int} {k : Int} (hlo : lo ≤ g) (hhi : g < hi) (h0 : H.get g = some (.row (ints xs) e true)) (s : St [g] H H') (h1 : H'.get g = some (.row (ints (seqL k xs.length)) e true)) (hn : xs.length ≠ 0) :
    Marked lo hi H H' [(some ⟨g, 0, none⟩, xs.length)] k where
  stm := ⟨s.nx, fun i o hi ho => s.same i o ⟨by omega, trivial⟩ ho, fun i o ho => by
    by_cases hi : i = g
    · subst hi
      rw [h0] at ho; cases ho
      exact ⟨_, h1, .inr ⟨xs, seqL k xs.length, e, rfl, rfl, by simp⟩⟩
    · exact ⟨o, s.same i o ⟨hi, trivial⟩ ho, .inl rfl⟩⟩
  stb := ⟨s.nx, fun i o hi ho => s.same i o ⟨fun e' => hi (by
    subst e'
    cases hx : xs.length with
    | zero => exact absurd hx hn
    | succ m => simp [lvBlks, lvBlk]), trivial⟩ ho⟩
  held := fun _ => ⟨.inr ⟨g, e, rfl, hlo, h1⟩, trivial⟩
def rowsL (r : Nat → Option Addr) (xss : List (List Int)) (n : Nat) : List Leaf := (List.range n).map fun i => (r i, (xss.getD i []).length)
theorem rowsL_succ (r : Nat → Option Addr) (xss : List (List Int)) (n : Nat) : rowsL r xss (n + 1) = rowsL r xss n ++ [(r n, (xss.getD n []).length)] := by simp [rowsL, List.range_succ]
theorem lvSum_rowsL (r : Nat → Option Addr) (xss : List (List Int)) : ∀ n, n ≤ xss.length → lvSum (rowsL r xss n) = sumL (xss.take n)
  | 0, _ => by simp [rowsL, lvSum, sumL]
  | n + 1, h => by rw [rowsL_succ, lvSum_append, lvSum_rowsL r xss n (by omega), sumL_take_succ (by omega)]; simp [lvSum]
def Cat.leaves (c : Cat) (p : CatP) : List Leaf := [(p.a1, c.src.length)] ++ ([(p.a2, c.tgt.length)] ++ ([(p.a3, c.idn.length)] ++ rowsL p.r c.comp c.comp.length))
theorem Cat.lvSum_leaves (c : Cat) (p : CatP) : lvSum (c.leaves p) = c.total := by
  simp only [Cat.leaves, lvSum_append, lvSum, lvSum_rowsL p.r c.comp _ (Nat.le_refl _), List.take_length, Cat.total, Nat.add_zero]
def Fun.leaves (f : Fun) (p : FunP) : List Leaf := f.s.leaves p.s ++ (f.t.leaves p.t ++ ([(p.b1, f.ob.length)] ++ [(p.b2, f.ar.length)]))
theorem Fun.lvSum_leaves (c : Fun) (p : FunP) : lvSum (c.leaves p) = c.total := by
  simp only [Fun.leaves, lvSum_append, lvSum, Cat.lvSum_leaves, Fun.total, Nat.add_zero]
theorem Con.lvSum_leaves (c : Con) (p : ConP) : lvSum (c.leaves p) = c.total := by simp [Con.leaves, lvSum, Con.total]
theorem Cat.total_le {c : Cat} (h : c.Small) : c.total ≤ 3 * 1048576 + 1048576 * 1048576 := by
  obtain ⟨h1, h2, h3, h4, h5, _⟩ := h
  have := sumL_le (m := 1048576) h5
  have h6 : c.comp.length * 1048576 ≤ 1048576 * 1048576 := Nat.mul_le_mul_right _ h4
  unfold Cat.total
  omega
theorem Marked.app' {lo hi : Nat} {A B C : GHeap} {ls ms : List Leaf} {k k' : Int} (h : Marked lo hi A B ls k) (h' : Marked lo hi B C ms k') (e : k' = k + lvSum ls) : Marked lo hi A C (ls ++ ms) k := by subst e; exact h.app h'
theorem IntsW.of_r {b : Nat} {H0 H : GHeap} {a : Option Addr} {xs : List Int} (h : IntsR b H0 a xs) (k : Keep b H0 H) : IntsW b H0.next H a xs.length := by
  rcases h with ⟨rfl, _⟩ | h
  · exact .inl rfl
  · exact .of_at h k
theorem ConW.of_r {b : Nat} {H0 H : GHeap} {c : Con} {p : ConP} (h : ConR b H0 c p) (k : Keep b H0 H) : ConW b H0.next H c p := IntsW.of_r h k
theorem IntsW.keep {lo lo' hi : Nat} {H H' : GHeap} {a : Option Addr} {n : Nat} (h : IntsW lo hi H a n) (k : Keep lo' H H') (hb : lo' ≤ lo) : IntsW lo hi H' a n := h.imp id fun ⟨g, e, xs, h1, h2, h3, h4, h5⟩ => ⟨g, e, xs, h1, h2, h3, k g _ (by omega) h4, h5⟩
theorem IntssW.keep {lo lo' hi : Nat} {H H' : GHeap} {a : Option Addr} {xss : List (List Int)} {r : Nat → Option Addr} (h : IntssW lo hi H a xss r) (k : Keep lo' H H') (hb : lo' ≤ lo) : IntssW lo hi H' a xss r := ⟨h.1.keep h.2.2 k hb, fun i hi => (h.2.1 i hi).keep k hb, h.2.2⟩
theorem CatW.keep {lo lo' hi : Nat} {H H' : GHeap} {c : Cat} {p : CatP} (h : CatW lo hi H c p) (k : Keep lo' H H') (hb : lo' ≤ lo) : CatW lo hi H' c p := ⟨h.1.keep k hb, h.2.1.keep k hb, h.2.2.1.keep k hb, h.2.2.2.keep k hb⟩
theorem FunW.keep {lo lo' hi : Nat} {H H' : GHeap} {c : Fun} {p : FunP} (h : FunW lo hi H c p) (k : Keep lo' H H') (hb : lo' ≤ lo) : FunW lo hi H' c p := ⟨h.1.keep k hb, h.2.1.keep k hb, h.2.2.1.keep k hb, h.2.2.2.keep k hb⟩
theorem ConW.keep {lo lo' hi : Nat} {H H' : GHeap} {c : Con} {p : ConP} (h : ConW lo hi H c p) (k : Keep lo' H H') (hb : lo' ≤ lo) : ConW lo hi H' c p := IntsW.keep h k hb
theorem Cat.Small.tot {c : Cat} (h : c.Small) : c.total ≤ 3 * 1048576 + 1048576 * 1048576 := Cat.total_le h
theorem Fun.Small.tot {c : Fun} (h : c.Small) : c.total ≤ 8 * 1048576 + 2 * 1048576 * 1048576 := by
  obtain ⟨h1, h2, h3, h4⟩ := h
  have := h1.tot
  have := h2.tot
  unfold Fun.total
  omega
theorem Con.Small.tot {c : Con} (h : c.Small) : c.total ≤ 1048576 := by
  obtain ⟨_, h2⟩ := h
  unfold Con.total
  omega
end Go.GL
/- Writing over lists, and finding again what was written. No condition but those of each statement. -/
namespace Go.Proofs.Ytgnfekfdmgnhcaa
open Go Go.GL Go.RowKit Go.Proofs
theorem markInt64S_own {g : Nat} {e : TypeId} {xs : List Int} {k : Int} {H : GHeap} (at0 : H.get g = some (.row (ints xs) e true)) (hk : 0 ≤ k) (hk' : k + xs.length ≤ 9223372036854775000) :
    GCalls Try.prog 30 [.slice (some ⟨g, 0, none⟩) xs.length xs.length, .int .i64 k] H (fun v H' => v = .int .i64 (k + xs.length) ∧ St [g] H H' ∧ H'.get g = some (.row (ints (seqL k xs.length)) e true)) := by
  refine GCalls.body (N := 19) (rs := [.tmp 4]) Try.func30 rfl rfl rfl rfl (fun Qx hret hend => ?_)
  refine .forget (fr' := [(0, some _), (1, some _)]) ⟨rfl, rfl, trivial⟩ ?_
  have lt_at0 := GHeap.lt_of_get at0
  refine .seq (fun K1 hK1 => ?_)
  refine .region (.m rfl rfl rfl (.assign rfl) (.nil ?_))
  refine hK1 _ _ ?_
  refine .seq (fun K2 hK2 => ?_)
  refine .seq (fun K3 hK3 => ?_)
  refine .region (.m rfl rfl rfl (.assign rfl) (.nil ?_))
  refine hK3 _ _ ?_
  refine .block ?_
  refine .loopR (σ := Nat × Int × List Int) [(0, some _)] (fun (i, q, ys) => [(5, some (.int .i64 (i : Int))), (1, some (.int .i64 q))]) (fun (i, q, ys) H' => St [g] H H' ∧ H'.get g = some (.row (ints ys) e true) ∧ i ≤ xs.length ∧ q = k + i ∧ ys.length = xs.length ∧ ∀ j, j < i → ys.getD j 0 = k + j) (fun (i, q, ys) => xs.length - i) ((0, k, xs)) ⟨rfl, trivial⟩ ⟨rfl, rfl, trivial⟩ ?_ ?_
  ·
   refine ⟨.refl _ _, by first | assumption | exact at0 | simpa using at0, ?_⟩
   exact ⟨by omega, by omega, rfl, fun _ _ => by omega⟩
  rintro ⟨i, q, ys⟩ HL1 ⟨lst1, at_L0, hI⟩ KL1 hKL1
  refine .forget (fr' := [(5, some (.int .i64 (i : Int))), (1, some (.int .i64 q)), (0, some _)]) ⟨rfl, rfl, rfl, trivial⟩ ?_
  have nx_HL1 := lst1.nx
  have lt_at_L0 := GHeap.lt_of_get at_L0
  obtain ⟨hi, hq, hyl, ha⟩ := hI
  have hsl := SlA.of_ints at_L0 hyl
  refine .seq (fun K4 hK4 => ?_)
  refine .seq (fun K5 hK5 => ?_)
  refine .region (.m rfl rfl rfl (.move rfl) (.m rfl rfl rfl (.move rfl) (.m rfl rfl rfl (.len sl_22_A rfl) ?_)))
  refine .m rfl rfl rfl (.cmp rfl rfl rfl) (.nil ?_)
  refine hK5 _ _ ?_
  refine .cond rfl (fun h9 => ?_) (fun h9 => ?_)
  ·
   try simp only [sps] at h9
   refine .skip ?_
   refine hK4 _ _ ?_
   refine .seq (fun K6 hK6 => ?_)
   refine .block ?_
   refine .seq (fun K7 hK7 => ?_)
   refine .region (.m rfl rfl rfl (.move rfl) (.m rfl rfl rfl (.move rfl) (.m rfl rfl rfl (.move rfl) ?_)))
   refine .m rfl rfl rfl (.idxN sl_22_A (by first | assumption | exact SlA.of_row at_L0 (by first | rfl | (simp; done) | (simp <;> omega))) rfl rfl (by omega)) ?_
   refine .r0 rfl rfl (.storeI rfl sz_2_E rfl rfl (by assumption) (by first | omega | (simp <;> omega))) ?_
   rintro _ H4004 ⟨rfl, st4004, at4004⟩
   have nx_H4004 := st4004.nx
   replace lst1 := lst1.st st4004 (fun k hk ho => by simp only [out, and_true] at ho ⊢ <;> first | exact ho | exact ho.1 | exact ho.2 | exact ho.2.1 | exact ho.2.2 | exact ho.2.2.1 | exact ho.2.2.2 | omega)
   have lt_at4004 := GHeap.lt_of_get at4004
   refine .nil ?_
   refine hK7 _ _ ?_
   refine .region (.m rfl rfl rfl (.move rfl) ?_)
   refine .m rfl rfl rfl (.add rfl rfl rfl (by omega) (by omega)) ?_
   refine .m rfl rfl rfl (.assign rfl) (.nil ?_)
   refine hK6 _ _ ?_
   refine .region (.m rfl rfl rfl (.move rfl) ?_)
   refine .m rfl rfl rfl (.add rfl rfl rfl (by omega) (by omega)) ?_
   refine .m rfl rfl rfl (.assign rfl) (.nil ?_)
   refine hKL1 ((i + 1, q + 1, ys.set (0 + i) q)) _ _ ?_ ?_ ⟨rfl, rfl, rfl, trivial⟩
   ·
    refine ⟨lst1, by assumption, ?_⟩
    refine ⟨by omega, by omega, by simpa using hyl, fun j hj => ?_⟩
    rw [Nat.zero_add, getD_set (by omega)]
    split
    · rename_i e; rw [e]; exact hq
    · exact ha j (by omega)
   (dsimp only; omega)
  try simp only [sps] at h9
  refine .exit ?_
  refine hK2 _ _ ?_
  refine .seq (fun K8 hK8 => ?_)
  refine .region (.m rfl rfl rfl (.move rfl) (.m rfl rfl rfl (.assign rfl) (.nil ?_)))
  refine hK8 _ _ ?_
  refine .ret ?_
  refine hret _ _ ?_
  refine ⟨_, rfl, ?_⟩
  obtain rfl : ys = seqL k xs.length := eq_of_getD (by rw [hyl, length_seqL]) fun j hj => by rw [length_seqL] at hj; rw [ha j (by omega), seqL_get hj]
  obtain rfl : i = xs.length := by omega
  exact ⟨by rw [hq], lst1, at_L0⟩
theorem markInt64S_nil {a : Option Addr} {k : Int} {H : GHeap} (hk : 0 ≤ k) (hk' : k ≤ 9223372036854775000) :
    GCalls Try.prog 30 [.slice a 0 0, .int .i64 k] H (fun v H' => v = .int .i64 k ∧ H' = H) := by
  refine GCalls.body (N := 19) (rs := [.tmp 4]) Try.func30 rfl rfl rfl rfl (fun Qx hret hend => ?_)
  refine .forget (fr' := [(0, some _), (1, some _)]) ⟨rfl, rfl, trivial⟩ ?_
  refine .seq (fun K1 hK1 => ?_)
  refine .region (.m rfl rfl rfl (.assign rfl) (.nil ?_))
  refine hK1 _ _ ?_
  refine .seq (fun K2 hK2 => ?_)
  refine .seq (fun K3 hK3 => ?_)
  refine .region (.m rfl rfl rfl (.assign rfl) (.nil ?_))
  refine hK3 _ _ ?_
  refine .block ?_
  refine .loopR (σ := Unit) [(0, some _)] (fun u => [(5, some (.int .i64 0)), (1, some (.int .i64 k))]) (fun u H' => H = H' ∧ True) (fun u => 0) (()) ⟨rfl, trivial⟩ ⟨rfl, rfl, trivial⟩ ?_ ?_
  ·
   refine ⟨rfl, ?_⟩
   exact trivial
  rintro u _ ⟨rfl, hI⟩ KL1 hKL1
  refine .forget (fr' := [(5, some (.int .i64 0)), (1, some (.int .i64 k)), (0, some _)]) ⟨rfl, rfl, rfl, trivial⟩ ?_
  refine .seq (fun K4 hK4 => ?_)
  refine .seq (fun K5 hK5 => ?_)
  refine .region (.m rfl rfl rfl (.move rfl) (.m rfl rfl rfl (.move rfl) (.m rfl rfl rfl (.len sl_22_A rfl) ?_)))
  refine .m rfl rfl rfl (.cmp rfl rfl rfl) (.nil ?_)
  refine hK5 _ _ ?_
  refine .cond rfl (fun h9 => ?_) (fun h9 => ?_)
  ·
   exact absurd h9 (by simp)
  try simp only [sps] at h9
  refine .exit ?_
  refine hK2 _ _ ?_
  refine .seq (fun K6 hK6 => ?_)
  refine .region (.m rfl rfl rfl (.move rfl) (.m rfl rfl rfl (.assign rfl) (.nil ?_)))
  refine hK6 _ _ ?_
  refine .ret ?_
  refine hret _ _ ?_
  refine ⟨_, rfl, ?_⟩
  exact ⟨rfl, rfl⟩
theorem markInt64S_c {a : Option Addr} {n lo hi : Nat} {k : Int} {H : GHeap} (h : IntsW lo hi H a n := by assumption) (hk : 0 ≤ k := by omega) (hk' : k + n ≤ 9223372036854775000 := by omega) :
    GCalls Try.prog 30 [.slice a n n, .int .i64 k] H (fun v H' => v = .int .i64 (k + n) ∧ Marked lo hi H H' [(a, n)] k) := by
  by_cases h0 : n = 0
  · subst h0
    refine (markInt64S_nil hk (by omega)).mono fun v H' ⟨h1, h2⟩ => ?_
    subst h2
    exact ⟨by rw [h1]; simp, .refl _ _ _, .refl _ _, fun _ => ⟨.inl rfl, trivial⟩⟩
  · rcases h with h | ⟨g, e, xs, rfl, h2, h3, h4, rfl⟩
    · exact absurd h h0
    · exact (markInt64S_own h4 hk hk').mono fun v H' ⟨k1, k2, k3⟩ => ⟨k1, .one h2 h3 h4 k2 k3 h0⟩
theorem heldInt64S_c {a : Option Addr} {n b : Nat} {k : Int} {H : GHeap} (h : Held b H [(a, n)] k := by assumption) (hk : 0 ≤ k := by omega) (hk' : k + n ≤ 9223372036854775000 := by omega) :
    GCalls Try.prog 31 [.slice a n n, .int .i64 k] H (Ret (.int .i64 (k + n)) H) := by
  have hi := h.ints
  have hl : (seqL k n).length = n := length_seqL k n
  have hsl : SlA H a n (fun i => .int .i64 ((seqL k n).getD i 0)) := by have hi' := hi; unfold Ints at hi'; rw [hl] at hi'; exact hi'
  refine GCalls.body (N := 21) (rs := [.tmp 4]) Try.func31 rfl rfl rfl rfl (fun Qx hret hend => ?_)
  refine .forget (fr' := [(0, some _), (1, some _)]) ⟨rfl, rfl, trivial⟩ ?_
  refine .seq (fun K1 hK1 => ?_)
  refine .region (.m rfl rfl rfl (.assign rfl) (.nil ?_))
  refine hK1 _ _ ?_
  refine .seq (fun K2 hK2 => ?_)
  refine .seq (fun K3 hK3 => ?_)
  refine .region (.m rfl rfl rfl (.assign rfl) (.nil ?_))
  refine hK3 _ _ ?_
  refine .block ?_
  refine .loopR (σ := Nat × Int) [(0, some _)] (fun (i, q) => [(5, some (.int .i64 (i : Int))), (1, some (.int .i64 q))]) (fun (i, q) H' => H = H' ∧ i ≤ n ∧ q = k + i) (fun (i, q) => n - i) ((0, k)) ⟨rfl, trivial⟩ ⟨rfl, rfl, trivial⟩ ?_ ?_
  ·
   refine ⟨rfl, ?_⟩
   exact ⟨by omega, by omega⟩
  rintro ⟨i, q⟩ _ ⟨rfl, hI⟩ KL1 hKL1
  refine .forget (fr' := [(5, some (.int .i64 (i : Int))), (1, some (.int .i64 q)), (0, some _)]) ⟨rfl, rfl, rfl, trivial⟩ ?_
  obtain ⟨hi, hq⟩ := hI
  refine .seq (fun K4 hK4 => ?_)
  refine .seq (fun K5 hK5 => ?_)
  refine .region (.m rfl rfl rfl (.move rfl) (.m rfl rfl rfl (.move rfl) (.m rfl rfl rfl (.len sl_22_A rfl) ?_)))
  refine .m rfl rfl rfl (.cmp rfl rfl rfl) (.nil ?_)
  refine hK5 _ _ ?_
  refine .cond rfl (fun h9 => ?_) (fun h9 => ?_)
  ·
   try simp only [sps] at h9
   refine .skip ?_
   refine hK4 _ _ ?_
   refine .seq (fun K6 hK6 => ?_)
   refine .block ?_
   refine .seq (fun K7 hK7 => ?_)
   refine .seq (fun K8 hK8 => ?_)
   refine .region (.m rfl rfl rfl (.move rfl) (.m rfl rfl rfl (.move rfl) ?_))
   refine .m rfl rfl rfl (.idxN sl_22_A hsl rfl rfl (by omega)) ?_
   refine .m rfl rfl rfl (.loadE on_2_A hsl rfl (by omega)) ?_
   refine .m rfl rfl rfl (.move rfl) (.m rfl rfl rfl (.cmp rfl rfl rfl) (.nil ?_))
   refine hK8 _ _ ?_
   refine .cond rfl (fun h17 => ?_) (fun h17 => ?_)
   ·
    simp only [sps] at h17
    rw [seqL_get (by omega)] at h17
    refine .seq (fun K9 hK9 => ?_)
    refine .region (.m rfl rfl rfl (.assign rfl) (.nil ?_))
    refine hK9 _ _ ?_
    refine .ret ?_
    refine hret _ _ ?_
    refine ⟨_, rfl, ?_⟩
    exact absurd hq.symm (by omega)
   try simp only [sps] at h17
   refine .skip ?_
   refine hK7 _ _ ?_
   refine .region (.m rfl rfl rfl (.move rfl) ?_)
   refine .m rfl rfl rfl (.add rfl rfl rfl (by omega) (by omega)) ?_
   refine .m rfl rfl rfl (.assign rfl) (.nil ?_)
   refine hK6 _ _ ?_
   refine .region (.m rfl rfl rfl (.move rfl) ?_)
   refine .m rfl rfl rfl (.add rfl rfl rfl (by omega) (by omega)) ?_
   refine .m rfl rfl rfl (.assign rfl) (.nil ?_)
   refine hKL1 ((i + 1, q + 1)) _ _ ?_ ?_ ⟨rfl, rfl, rfl, trivial⟩
   ·
    refine ⟨rfl, ?_⟩
    exact ⟨by omega, by omega⟩
   (dsimp only; omega)
  try simp only [sps] at h9
  refine .exit ?_
  refine hK2 _ _ ?_
  refine .seq (fun K10 hK10 => ?_)
  refine .region (.m rfl rfl rfl (.move rfl) (.m rfl rfl rfl (.assign rfl) (.nil ?_)))
  refine hK10 _ _ ?_
  refine .ret ?_
  refine hret _ _ ?_
  refine ⟨_, rfl, ?_⟩
  obtain rfl : i = n := by omega
  exact .of (by rw [hq])
theorem markInt64SS_c {a : Option Addr} {xss : List (List Int)} {r : Nat → Option Addr} {lo hi : Nat} {k : Int} {H : GHeap} (h : IntssW lo hi H a xss r := by assumption) (hk : 0 ≤ k := by omega) (hk' : k + sumL xss ≤ 9223372036854775000 := by omega) (hl : xss.length ≤ 1048576 := by omega) :
    GCalls Try.prog 25 [.slice a xss.length xss.length, .int .i64 k] H (fun v H' => v = .int .i64 (k + sumL xss) ∧ Marked lo hi H H' (rowsL r xss xss.length) k) := by
  refine GCalls.body (N := 19) (rs := [.tmp 4]) Try.func25 rfl rfl rfl rfl (fun Qx hret hend => ?_)
  refine .forget (fr' := [(0, some _), (1, some _)]) ⟨rfl, rfl, trivial⟩ ?_
  refine .seq (fun K1 hK1 => ?_)
  refine .region (.m rfl rfl rfl (.assign rfl) (.nil ?_))
  refine hK1 _ _ ?_
  refine .seq (fun K2 hK2 => ?_)
  refine .seq (fun K3 hK3 => ?_)
  refine .region (.m rfl rfl rfl (.assign rfl) (.nil ?_))
  refine hK3 _ _ ?_
  refine .block ?_
  refine .loopR (σ := Nat × Int) [(0, some _)] (fun (i, q) => [(5, some (.int .i64 (i : Int))), (1, some (.int .i64 q))]) (fun (i, q) H' => i ≤ xss.length ∧ q = k + sumL (xss.take i) ∧ Marked lo hi H H' (rowsL r xss i) k) (fun (i, q) => xss.length - i) ((0, k)) ⟨rfl, trivial⟩ ⟨rfl, rfl, trivial⟩ ?_ ?_
  ·
   exact ⟨by omega, by simp [sumL], .nil _ _ _ _⟩
  rintro ⟨i, q⟩ H' hI KL1 hKL1
  refine .forget (fr' := [(5, some (.int .i64 (i : Int))), (1, some (.int .i64 q)), (0, some _)]) ⟨rfl, rfl, rfl, trivial⟩ ?_
  obtain ⟨hi', hq, hm⟩ := hI
  have hw := h.stm hm.stm
  have hsl := hw.1
  have hle1 := sumL_take_le (xss := xss) (k := i + 1)
  refine .seq (fun K4 hK4 => ?_)
  refine .seq (fun K5 hK5 => ?_)
  refine .region (.m rfl rfl rfl (.move rfl) (.m rfl rfl rfl (.move rfl) (.m rfl rfl rfl (.len sl_23_B rfl) ?_)))
  refine .m rfl rfl rfl (.cmp rfl rfl rfl) (.nil ?_)
  refine hK5 _ _ ?_
  refine .cond rfl (fun h9 => ?_) (fun h9 => ?_)
  ·
   simp only [sps] at h9
   have hts := sumL_take_succ (xss := xss) (k := i) (by omega)
   refine .skip ?_
   refine hK4 _ _ ?_
   refine .seq (fun K6 hK6 => ?_)
   refine .block ?_
   refine .region (.m rfl rfl rfl (.move rfl) (.m rfl rfl rfl (.move rfl) ?_))
   refine .m rfl rfl rfl (.idxN sl_23_B hsl rfl rfl (by omega)) ?_
   refine .m rfl rfl rfl (.loadE on_22_B hsl rfl (by omega)) ?_
   refine .m rfl rfl rfl (.move rfl) ?_
   refine .call rfl rfl rfl rfl @Try.call30 rfl (markInt64S_c (hw.2.1 i (by omega)) (by omega) (by omega)) ?_
   rintro _ H17 ⟨rfl, mk17⟩
   refine .m rfl rfl rfl (.assign rfl) (.nil ?_)
   refine hK6 _ _ ?_
   refine .region (.m rfl rfl rfl (.move rfl) ?_)
   refine .m rfl rfl rfl (.add rfl rfl rfl (by omega) (by omega)) ?_
   refine .m rfl rfl rfl (.assign rfl) (.nil ?_)
   refine hKL1 ((i + 1, _)) _ _ ?_ ?_ ⟨rfl, rfl, rfl, trivial⟩
   ·
    exact ⟨by omega, by rw [sumL_take_succ (by omega)]; omega, by rw [rowsL_succ]; exact hm.app' mk17 (by rw [lvSum_rowsL _ _ _ (by omega)]; omega)⟩
   (dsimp only; omega)
  try simp only [sps] at h9
  refine .exit ?_
  refine hK2 _ _ ?_
  refine .seq (fun K7 hK7 => ?_)
  refine .region (.m rfl rfl rfl (.move rfl) (.m rfl rfl rfl (.assign rfl) (.nil ?_)))
  refine hK7 _ _ ?_
  refine .ret ?_
  refine hret _ _ ?_
  refine ⟨_, rfl, ?_⟩
  obtain rfl : i = xss.length := by omega
  rw [List.take_length] at hq
  exact ⟨by rw [hq], hm⟩
theorem markCategory_c {c : Cat} {p : CatP} {lo hi : Nat} {k : Int} {H : GHeap} (w : CatW lo hi H c p := by assumption) (hs : c.Small := by assumption) (hk : 0 ≤ k := by omega) (hk' : k + c.total ≤ 9223372036854775000 := by omega) (hhi : hi ≤ H.next := by omega) :
    GCalls Try.prog 14 [.agg (c.cells p).toArray, .int .i64 k] H (fun v H' => v = .int .i64 (k + c.total) ∧ Marked lo hi H H' (c.leaves p) k) := by
  obtain ⟨w1, w2, w3, w4⟩ := w
  have ht : c.total = c.src.length + (c.tgt.length + (c.idn.length + sumL c.comp)) := rfl
  obtain ⟨s1, s2, s3, s4, s5, s6⟩ := hs
  refine GCalls.body (N := 22) (rs := [.tmp 4]) Try.func14 rfl rfl rfl rfl (fun Qx hret hend => ?_)
  refine .forget (fr' := [(0, some _), (1, some _)]) ⟨rfl, rfl, trivial⟩ ?_
  refine .seq (fun K1 hK1 => ?_)
  refine .region ?_
  refine .r rfl rfl rfl (.boxR rfl sz_27_D rfl) ?_
  rintro _ H2 ⟨g2, rfl, le2, ge2, at2⟩
  have nx_H2 := le2.1
  have lt_at2 := GHeap.lt_of_get at2
  have mm2 : MemN _ _ _ _ _ := ⟨rfl, Mem.of_get at2⟩
  replace w1 := w1.stm (.of_le le2)
  replace w2 := w2.stm (.of_le le2)
  replace w3 := w3.stm (.of_le le2)
  replace w4 := w4.stm (.of_le le2)
  have hc : Mem _ g2 0 (c.cells p) := Mem.of_get at2
  refine .m rfl rfl rfl (.assign rfl) (.nil ?_)
  refine hK1 _ _ ?_
  refine .seq (fun K2 hK2 => ?_)
  refine .region ?_
  have c1 : H2.cell g2 (0 + 1) = some (.slice p.a1 c.src.length c.src.length) := Mem.of_get at2 1 _ rfl
  refine .m rfl rfl rfl (.fieldAddr fo_27_1_B rfl) ?_
  refine .m rfl rfl rfl (.load on_22_B rfl (by first | assumption | exact Mem.of_get at2 1 _ rfl)) ?_
  refine .m rfl rfl rfl (.move rfl) ?_
  refine .call rfl rfl rfl rfl @Try.call30 rfl (markInt64S_c) ?_
  rintro _ H8 ⟨rfl, mk8⟩
  have sm8 := mk8.stm
  have nx_H8 := sm8.nx
  replace at2 := sm8.same _ _ (by omega) at2
  replace w1 := w1.stm sm8
  replace w2 := w2.stm sm8
  replace w3 := w3.stm sm8
  replace w4 := w4.stm sm8
  clear mm2
  have mm2 : MemN _ _ _ _ _ := ⟨rfl, Mem.of_get at2⟩
  refine .m rfl rfl rfl (.assign rfl) (.nil ?_)
  refine hK2 _ _ ?_
  refine .seq (fun K3 hK3 => ?_)
  refine .region ?_
  have c2 : H8.cell g2 (0 + 2) = some (.slice p.a2 c.tgt.length c.tgt.length) := Mem.of_get at2 2 _ rfl
  refine .m rfl rfl rfl (.fieldAddr fo_27_2_B rfl) ?_
  refine .m rfl rfl rfl (.load on_22_B rfl (by first | assumption | exact Mem.of_get at2 2 _ rfl)) ?_
  refine .m rfl rfl rfl (.move rfl) ?_
  refine .call rfl rfl rfl rfl @Try.call30 rfl (markInt64S_c) ?_
  rintro _ H12 ⟨rfl, mk12⟩
  have sm12 := mk12.stm
  have nx_H12 := sm12.nx
  replace at2 := sm12.same _ _ (by omega) at2
  replace w1 := w1.stm sm12
  replace w2 := w2.stm sm12
  replace w3 := w3.stm sm12
  replace w4 := w4.stm sm12
  clear mm2
  have mm2 : MemN _ _ _ _ _ := ⟨rfl, Mem.of_get at2⟩
  refine .m rfl rfl rfl (.assign rfl) (.nil ?_)
  refine hK3 _ _ ?_
  refine .seq (fun K4 hK4 => ?_)
  refine .region ?_
  have c3 : H12.cell g2 (0 + 3) = some (.slice p.a3 c.idn.length c.idn.length) := Mem.of_get at2 3 _ rfl
  refine .m rfl rfl rfl (.fieldAddr fo_27_3_B rfl) ?_
  refine .m rfl rfl rfl (.load on_22_B rfl (by first | assumption | exact Mem.of_get at2 3 _ rfl)) ?_
  refine .m rfl rfl rfl (.move rfl) ?_
  refine .call rfl rfl rfl rfl @Try.call30 rfl (markInt64S_c) ?_
  rintro _ H16 ⟨rfl, mk16⟩
  have sm16 := mk16.stm
  have nx_H16 := sm16.nx
  replace at2 := sm16.same _ _ (by omega) at2
  replace w1 := w1.stm sm16
  replace w2 := w2.stm sm16
  replace w3 := w3.stm sm16
  replace w4 := w4.stm sm16
  clear mm2
  have mm2 : MemN _ _ _ _ _ := ⟨rfl, Mem.of_get at2⟩
  refine .m rfl rfl rfl (.assign rfl) (.nil ?_)
  refine hK4 _ _ ?_
  refine .seq (fun K5 hK5 => ?_)
  refine .region ?_
  have c4 : H16.cell g2 (0 + 4) = some (.slice p.a4 c.comp.length c.comp.length) := Mem.of_get at2 4 _ rfl
  refine .m rfl rfl rfl (.fieldAddr fo_27_4_B rfl) ?_
  refine .m rfl rfl rfl (.load on_23_B rfl (by first | assumption | exact Mem.of_get at2 4 _ rfl)) ?_
  refine .m rfl rfl rfl (.move rfl) ?_
  refine .call rfl rfl rfl rfl @Try.call25 rfl (markInt64SS_c) ?_
  rintro _ H20 ⟨rfl, mk20⟩
  have sm20 := mk20.stm
  have nx_H20 := sm20.nx
  replace at2 := sm20.same _ _ (by omega) at2
  replace w1 := w1.stm sm20
  replace w2 := w2.stm sm20
  replace w3 := w3.stm sm20
  replace w4 := w4.stm sm20
  clear mm2
  have mm2 : MemN _ _ _ _ _ := ⟨rfl, Mem.of_get at2⟩
  refine .m rfl rfl rfl (.assign rfl) (.nil ?_)
  refine hK5 _ _ ?_
  refine .seq (fun K6 hK6 => ?_)
  refine .region (.m rfl rfl rfl (.move rfl) (.m rfl rfl rfl (.assign rfl) (.nil ?_)))
  refine hK6 _ _ ?_
  refine .ret ?_
  refine hret _ _ ?_
  refine ⟨_, rfl, ?_⟩
  exact ⟨by rw [ht]; congr 1; omega, .le_left le2 (mk8.app' (mk12.app' (mk16.app' mk20 (by simp [lvSum])) (by simp [lvSum])) (by simp [lvSum]))⟩
theorem markFunctor_c {c : Fun} {p : FunP} {lo hi : Nat} {k : Int} {H : GHeap} (w : FunW lo hi H c p := by assumption) (hs : c.Small := by assumption) (hk : 0 ≤ k := by omega) (hk' : k + c.total ≤ 9223372036854775000 := by omega) (hhi : hi ≤ H.next := by omega) :
    GCalls Try.prog 40 [.agg (c.cells p).toArray, .int .i64 k] H (fun v H' => v = .int .i64 (k + c.total) ∧ Marked lo hi H H' (c.leaves p) k) := by
  obtain ⟨w1, w2, w3, w4⟩ := w
  have ht : c.total = c.s.total + (c.t.total + (c.ob.length + c.ar.length)) := rfl
  obtain ⟨s1, s2, s3, s4⟩ := hs
  refine GCalls.body (N := 22) (rs := [.tmp 4]) Try.func40 rfl rfl rfl rfl (fun Qx hret hend => ?_)
  refine .forget (fr' := [(0, some _), (1, some _)]) ⟨rfl, rfl, trivial⟩ ?_
  refine .seq (fun K1 hK1 => ?_)
  refine .region ?_
  refine .r rfl rfl rfl (.boxR rfl sz_62_E rfl) ?_
  rintro _ H2 ⟨g2, rfl, le2, ge2, at2⟩
  have nx_H2 := le2.1
  have lt_at2 := GHeap.lt_of_get at2
  have mm2 : MemN _ _ _ _ _ := ⟨rfl, Mem.of_get at2⟩
  replace w1 := w1.stm (.of_le le2)
  replace w2 := w2.stm (.of_le le2)
  replace w3 := w3.stm (.of_le le2)
  replace w4 := w4.stm (.of_le le2)
  refine .m rfl rfl rfl (.assign rfl) (.nil ?_)
  refine hK1 _ _ ?_
  refine .seq (fun K2 hK2 => ?_)
  refine .region ?_
  have m1 : MemN H2 g2 (0 + 0) 5 (c.s.cells p.s) := ⟨rfl, Mem.left (bs := c.t.cells p.t ++ _) (Mem.of_get at2)⟩
  refine .m rfl rfl rfl (.fieldAddr fo_62_0_E rfl) ?_
  refine .m rfl rfl rfl (.loadM ag_27_D rfl (by assumption)) ?_
  refine .m rfl rfl rfl (.move rfl) ?_
  refine .call rfl rfl rfl rfl @Try.call14 rfl (markCategory_c) ?_
  rintro _ H8 ⟨rfl, mk8⟩
  have sm8 := mk8.stm
  have nx_H8 := sm8.nx
  replace at2 := sm8.same _ _ (by omega) at2
  replace w1 := w1.stm sm8
  replace w2 := w2.stm sm8
  replace w3 := w3.stm sm8
  replace w4 := w4.stm sm8
  clear mm2
  have mm2 : MemN _ _ _ _ _ := ⟨rfl, Mem.of_get at2⟩
  refine .m rfl rfl rfl (.assign rfl) (.nil ?_)
  refine hK2 _ _ ?_
  refine .seq (fun K3 hK3 => ?_)
  refine .region ?_
  have hx : Mem H8 g2 0 (c.s.cells p.s ++ (c.t.cells p.t ++ [.slice p.b1 c.ob.length c.ob.length, .slice p.b2 c.ar.length c.ar.length])) := Mem.of_get at2
  have m2 : MemN H8 g2 (0 + 5) 5 (c.t.cells p.t) := ⟨rfl, (hx.right (n := 5) rfl).left⟩
  refine .m rfl rfl rfl (.fieldAddr fo_62_1_E rfl) ?_
  refine .m rfl rfl rfl (.loadM ag_27_D rfl (by assumption)) ?_
  refine .m rfl rfl rfl (.move rfl) ?_
  refine .call rfl rfl rfl rfl @Try.call14 rfl (markCategory_c) ?_
  rintro _ H12 ⟨rfl, mk12⟩
  have sm12 := mk12.stm
  have nx_H12 := sm12.nx
  replace at2 := sm12.same _ _ (by omega) at2
  replace w1 := w1.stm sm12
  replace w2 := w2.stm sm12
  replace w3 := w3.stm sm12
  replace w4 := w4.stm sm12
  clear mm2
  have mm2 : MemN _ _ _ _ _ := ⟨rfl, Mem.of_get at2⟩
  refine .m rfl rfl rfl (.assign rfl) (.nil ?_)
  refine hK3 _ _ ?_
  refine .seq (fun K4 hK4 => ?_)
  refine .region ?_
  have c1 : H12.cell g2 (0 + 10) = some (.slice p.b1 c.ob.length c.ob.length) := Mem.of_get at2 10 _ rfl
  refine .m rfl rfl rfl (.fieldAddr fo_62_2_E rfl) ?_
  refine .m rfl rfl rfl (.load on_22_B rfl (by first | assumption | exact Mem.of_get at2 10 _ rfl)) ?_
  refine .m rfl rfl rfl (.move rfl) ?_
  refine .call rfl rfl rfl rfl @Try.call30 rfl (markInt64S_c) ?_
  rintro _ H16 ⟨rfl, mk16⟩
  have sm16 := mk16.stm
  have nx_H16 := sm16.nx
  replace at2 := sm16.same _ _ (by omega) at2
  replace w1 := w1.stm sm16
  replace w2 := w2.stm sm16
  replace w3 := w3.stm sm16
  replace w4 := w4.stm sm16
  clear mm2
  have mm2 : MemN _ _ _ _ _ := ⟨rfl, Mem.of_get at2⟩
  refine .m rfl rfl rfl (.assign rfl) (.nil ?_)
  refine hK4 _ _ ?_
  refine .seq (fun K5 hK5 => ?_)
  refine .region ?_
  have c1 : H16.cell g2 (0 + 11) = some (.slice p.b2 c.ar.length c.ar.length) := Mem.of_get at2 11 _ rfl
  refine .m rfl rfl rfl (.fieldAddr fo_62_3_E rfl) ?_
  refine .m rfl rfl rfl (.load on_22_B rfl (by first | assumption | exact Mem.of_get at2 11 _ rfl)) ?_
  refine .m rfl rfl rfl (.move rfl) ?_
  refine .call rfl rfl rfl rfl @Try.call30 rfl (markInt64S_c) ?_
  rintro _ H20 ⟨rfl, mk20⟩
  have sm20 := mk20.stm
  have nx_H20 := sm20.nx
  replace at2 := sm20.same _ _ (by omega) at2
  replace w1 := w1.stm sm20
  replace w2 := w2.stm sm20
  replace w3 := w3.stm sm20
  replace w4 := w4.stm sm20
  clear mm2
  have mm2 : MemN _ _ _ _ _ := ⟨rfl, Mem.of_get at2⟩
  refine .m rfl rfl rfl (.assign rfl) (.nil ?_)
  refine hK5 _ _ ?_
  refine .seq (fun K6 hK6 => ?_)
  refine .region (.m rfl rfl rfl (.move rfl) (.m rfl rfl rfl (.assign rfl) (.nil ?_)))
  refine hK6 _ _ ?_
  refine .ret ?_
  refine hret _ _ ?_
  refine ⟨_, rfl, ?_⟩
  exact ⟨by rw [ht]; congr 1; omega, .le_left le2 (mk8.app' (mk12.app' (mk16.app' mk20 (by simp [lvSum])) (by rw [Cat.lvSum_leaves])) (by rw [Cat.lvSum_leaves]))⟩
end Go.Proofs.Ytgnfekfdmgnhcaa
/- The smallest of the laws' helpers, told for the larger ones. No condition but those of each statement. -/
namespace Go.Proofs.Ytgnfekfdmgnhcaa
open Go Go.GL Go.RowKit Go.Proofs
theorem szInt64S_s {a : Option Addr} {xs : List Int} {left : Int} {H : GHeap} (hx : xs.length ≤ 9223372036854775807 := by omega) (h0 : 0 ≤ left := by omega) (h1 : left ≤ 1048576 := by omega) :
    GCalls Try.prog 44 [.slice a xs.length xs.length, .int .i64 left] H (SzR left (xs.length ≤ 1048576) H) :=
  (szInt64S_c hx h0 h1).mono fun _ _ ⟨e, l, h2, h3, h4, h5⟩ => ⟨e, l, h2, h3, h4, fun h => by have := h5 h; omega⟩
theorem szInt64SS_s {a : Option Addr} {xss : List (List Int)} {r : Nat → Option Addr} {left : Int} {H : GHeap} (h : Intss H a xss r := by assumption) (hx : xss.length ≤ 9223372036854775807 := by omega) (hy : ∀ i, I64s (xss.getD i []) := by assumption) (h0 : 0 ≤ left := by omega) (h1 : left ≤ 1048576 := by omega) :
    GCalls Try.prog 45 [.slice a xss.length xss.length, .int .i64 left] H (SzR left (xss.length ≤ 1048576 ∧ ∀ i, (xss.getD i []).length ≤ 1048576) H) :=
  (szInt64SS_c h hx hy h0 h1).mono fun _ _ ⟨e, l, h2, h3, h4, h5⟩ => ⟨e, l, h2, h3, h4, fun h => ⟨by have := (h5 h).1; omega, fun i => by have := (h5 h).2 i; omega⟩⟩
end Go.Proofs.Ytgnfekfdmgnhcaa
/- The laws' helpers for Cone. No condition but those of each statement. -/
namespace Go.Proofs.Ytgnfekfdmgnhcaa
open Go Go.GL Go.RowKit Go.Proofs
end Go.Proofs.Ytgnfekfdmgnhcaa
/- Cones over functors. No condition. -/
namespace Go.GL

structure Fun.Cone (d : Fun) (p : Con) : Prop where
  ap : 0 ≤ p.ap ∧ p.ap < d.t.obj
  ll : p.lg.length = d.ob.length
  lg : ∀ j, j < p.lg.length → 0 ≤ p.lg.getD j 0 ∧ p.lg.getD j 0 < d.t.src.length
  ends : ∀ j, j < p.lg.length → d.t.src.getD (p.lg.getD j 0).toNat 0 = p.ap ∧ d.t.tgt.getD (p.lg.getD j 0).toNat 0 = d.ob.getD j 0
  tri : ∀ a, a < d.ar.length → d.t.th (p.lg.getD (d.s.src.getD a 0).toNat 0) (d.ar.getD a 0) = p.lg.getD (d.s.tgt.getD a 0).toNat 0
/-- Where arrow a of a functor goes. -/
theorem Fun.Is.arr {f : Fun} (h : f.Is) {a : Nat} (ha : a < f.ar.length) : 0 ≤ f.s.src.getD a 0 ∧ f.s.src.getD a 0 < f.ob.length ∧ 0 ≤ f.s.tgt.getD a 0 ∧ f.s.tgt.getD a 0 < f.ob.length ∧ 0 ≤ f.ar.getD a 0 ∧ f.ar.getD a 0 < f.t.src.length ∧
    f.t.src.getD (f.ar.getD a 0).toNat 0 = f.ob.getD (f.s.src.getD a 0).toNat 0 ∧ f.t.tgt.getD (f.ar.getD a 0).toNat 0 = f.ob.getD (f.s.tgt.getD a 0).toNat 0 := by
  have hS := h.1.1
  have q0 := h.2.2.al
  have q1 := hS.src a (by omega)
  have q2 := hS.tgt a (by have := hS.tl; omega)
  have q3 := h.2.2.ol
  have q4 := h.2.2.ar a ha
  have q5 := h.2.2.ends a ha
  omega
def Con.zero : Con := ⟨0, []⟩
end Go.GL
/- Cones and their images. No condition but those of each statement. -/
namespace Go.Proofs.Ytgnfekfdmgnhcaa
open Go Go.GL Go.RowKit Go.Proofs
theorem l02Object_c {c : Cat} {p : CatP} {x : Int} {H : GHeap} (hin : c.In H p := by assumption) : GCalls Try.prog 85 [.agg (c.cells p).toArray, .int .i64 x] H (Ret (.bool (B (0 ≤ x ∧ x < c.obj))) H) := by
  refine GCalls.ret rfl ?_
  refine GCalls.body (N := 13) (rs := [.tmp 4]) Try.func85 rfl rfl rfl rfl (fun Qx hret hend => ?_)
  refine .forget (fr' := [(0, some _), (1, some _)]) ⟨rfl, rfl, trivial⟩ ?_
  have hle := GHeap.Le.refl H
  have base_hin := hin
  refine .seq (fun K1 hK1 => ?_)
  refine .region ?_
  refine .r rfl rfl rfl (.boxR rfl sz_27_D rfl) ?_
  rintro _ H2 ⟨g2, rfl, le2, ge2, at2⟩
  have nx_H2 := le2.1
  replace hle := hle.trans le2
  have lt_at2 := GHeap.lt_of_get at2
  replace hin := base_hin.mono hle
  have hb2 : Cat.At _ g2 0 c p := ⟨Mem.of_get at2, hin⟩
  obtain ⟨c02, c12, c22, c32, c42, i12, i22, i32, i42⟩ := hb2.get
  have hm2 : MemN _ _ _ _ _ := ⟨rfl, hb2.1⟩
  have hi2 := hb2.2
  refine .m rfl rfl rfl (.assign rfl) (.nil ?_)
  refine hK1 _ _ ?_
  refine .seq (fun K2 hK2 => ?_)
  refine .region (.m rfl rfl rfl (.move rfl) (.m rfl rfl rfl (.cmp rfl rfl rfl) (.m rfl rfl rfl (.move rfl) ?_)))
  refine .split (fun h7 => ?_) (fun h7 => ?_)
  ·
   try simp only [sps] at h7
   refine .mg rfl rfl rfl rfl rfl (.move rfl) (.mg rfl rfl rfl rfl rfl (.fieldAddr fo_27_0_B rfl) ?_)
   refine .mg rfl rfl rfl rfl rfl (.load on_2_A rfl (by first | assumption | exact Mem.of_get at2 0 _ rfl)) ?_
   refine .mg rfl rfl rfl rfl rfl (.cmp rfl rfl rfl) (.m rfl rfl rfl (.pickT rfl rfl) (.m rfl rfl rfl (.assign rfl) (.nil ?_)))
   refine hK2 _ _ ?_
   refine .ret ?_
   refine hret _ _ ?_
   refine ⟨_, rfl, ?_⟩
   first
   | exact ⟨congrArg _ (B_false fun hh => by omega), hle⟩
   | exact ⟨congrArg _ (by rw [Bool.eq_iff_iff, B_iff, decide_eq_true_eq]; omega), hle⟩
  try simp only [sps] at h7
  refine .sg rfl rfl rfl rfl rfl (.sg rfl rfl rfl rfl rfl (.sg rfl rfl rfl rfl rfl (.sg rfl rfl rfl rfl rfl ?_)))
  refine .m rfl rfl rfl (.pickF rfl rfl) (.m rfl rfl rfl (.assign rfl) (.nil ?_))
  refine hK2 _ _ ?_
  refine .ret ?_
  refine hret _ _ ?_
  refine ⟨_, rfl, ?_⟩
  first
  | exact ⟨congrArg _ (B_false fun hh => by omega), hle⟩
  | exact ⟨congrArg _ (by rw [Bool.eq_iff_iff, B_iff, decide_eq_true_eq]; omega), hle⟩
end Go.Proofs.Ytgnfekfdmgnhcaa
/- Set functors and their maps: what their laws are. No condition. -/
namespace Go.GL

/-- The first pair with a property, or (-1, 0). -/
def first2 (n : Nat) (len : Nat → Nat) (p : Nat → Nat → Bool) : Int × Int :=
  match firstN n fun a => (firstN (len a) (p a)).isSome with
  | some a => ((a : Int), (((firstN (len a) (p a)).getD 0 : Nat) : Int))
  | none => (-1, 0)
/-- The action of arrow a is a map between its sets. -/
def SFun.AcOk (f : SFun) (a : Nat) : Prop :=
  ((f.ac.getD a []).length : Int) = f.sz.getD (f.sh.src.getD a 0).toNat 0 ∧ allIn (f.ac.getD a []) (f.sz.getD (f.sh.tgt.getD a 0).toNat 0) = true
structure SFun.Shape (f : SFun) : Prop where
  c : f.sh.Is
  zl : (f.sz.length : Int) = f.sh.obj
  sz : ∀ i, i < f.sz.length → 0 ≤ f.sz.getD i 0 ∧ f.sz.getD i 0 ≤ 16
  al : f.ac.length = f.sh.src.length
  ac : ∀ a, a < f.ac.length → f.AcOk a
theorem SFun.Shape.act {f : SFun} (h : f.Shape) {a : Nat} (ha : a < f.ac.length) {e : Nat} (he : e < (f.ac.getD a []).length) : 0 ≤ (f.ac.getD a []).getD e 0 ∧ (f.ac.getD a []).getD e 0 < f.sz.getD (f.sh.tgt.getD a 0).toNat 0 := allIn_iff.1 (h.ac a ha).2 e he
/-- Where arrow a goes, and how large its sets are. -/
theorem SFun.Shape.ends {f : SFun} (h : f.Shape) {a : Nat} (ha : a < f.sh.src.length) : 0 ≤ f.sh.src.getD a 0 ∧ f.sh.src.getD a 0 < f.sz.length ∧ 0 ≤ f.sh.tgt.getD a 0 ∧ f.sh.tgt.getD a 0 < f.sz.length ∧ ((f.ac.getD a []).length : Int) = f.sz.getD (f.sh.src.getD a 0).toNat 0 := by
  have hS := h.c.1
  have q1 := hS.src a ha
  have q2 := hS.tgt a (by have := hS.tl; omega)
  have q3 := h.zl
  have q4 := (h.ac a (by have := h.al; omega)).1
  omega
structure SFun.Laws (f : SFun) : Prop where
  ids : ∀ x : Nat, x < f.sh.idn.length → ∀ e : Nat, e < (f.ac.getD (f.sh.idn.getD x 0).toNat []).length → (f.ac.getD (f.sh.idn.getD x 0).toNat []).getD e 0 = e
  th : ∀ a : Nat, a < f.sh.src.length → ∀ b : Nat, b < f.sh.src.length → f.sh.tgt.getD a 0 = f.sh.src.getD b 0 → ∀ e : Nat, e < (f.ac.getD a []).length →
    (f.ac.getD ((f.sh.comp.getD a []).getD b 0).toNat []).getD e 0 = (f.ac.getD b []).getD ((f.ac.getD a []).getD e 0).toNat 0
def SFun.Is (f : SFun) : Prop := f.Shape ∧ f.Laws

def SMap.PaOk (m : SMap) (x : Nat) : Prop := ((m.pa.getD x []).length : Int) = m.s.sz.getD x 0 ∧ allIn (m.pa.getD x []) (m.t.sz.getD x 0) = true
structure SMap.Fits (m : SMap) : Prop where
  pl : m.pa.length = m.s.sz.length
  pa : ∀ x, x < m.pa.length → m.PaOk x
structure SMap.Shape (m : SMap) : Prop where
  s : m.s.Is
  t : m.t.Is
  sh : m.s.sh = m.t.sh
  fits : m.Fits
/-- The square of arrow a and element e does not commute. -/
def SMap.bad (m : SMap) (a e : Nat) : Bool := decide (¬ (m.pa.getD (m.s.sh.tgt.getD a 0).toNat []).getD ((m.s.ac.getD a []).getD e 0).toNat 0 = (m.t.ac.getD a []).getD ((m.pa.getD (m.s.sh.src.getD a 0).toNat []).getD e 0).toNat 0)
def SMap.first (m : SMap) : Int × Int := first2 m.s.ac.length (fun a => (m.s.ac.getD a []).length) m.bad
def SMap.Is (m : SMap) : Prop := m.Shape ∧ ∀ a, a < m.s.ac.length → ∀ e, e < (m.s.ac.getD a []).length → m.bad a e = false
end Go.GL
/- Set functors, in the program. No condition but those of each statement. -/
namespace Go.Proofs.Ytgnfekfdmgnhcaa
open Go Go.GL Go.RowKit Go.Proofs
theorem fo_65_0_P : fieldOff Try.prog 65 0 = some 0 := by kernel_rfl
theorem fo_65_1_P : fieldOff Try.prog 65 1 = some 5 := by kernel_rfl
theorem fo_65_2_P : fieldOff Try.prog 65 2 = some 6 := by kernel_rfl
theorem isMapOf_c {a : Option Addr} {xs : List Int} {m n : Int} {H : GHeap} (h : Ints H a xs := by assumption) (hn : -9223372036854775808 < n := by omega) (hn' : n ≤ 9223372036854775807 := by omega) (hl : xs.length ≤ 1048576 := by omega) :
    GCalls Try.prog 155 [.slice a xs.length xs.length, .int .i64 m, .int .i64 n] H (Ret (.bool (B ((xs.length : Int) = m ∧ allIn xs n = true))) H) := by
  refine GCalls.body (N := 16) (rs := [.tmp 6]) Try.func155 rfl rfl rfl rfl (fun Qx hret hend => ?_)
  refine .forget (fr' := [(0, some _), (1, some _), (2, some _)]) ⟨rfl, rfl, rfl, trivial⟩ ?_
  refine .seq (fun K1 hK1 => ?_)
  refine .region (.m rfl rfl rfl (.assign rfl) (.nil ?_))
  refine hK1 _ _ ?_
  refine .seq (fun K2 hK2 => ?_)
  refine .region (.m rfl rfl rfl (.move rfl) (.m rfl rfl rfl (.len sl_22_A rfl) (.m rfl rfl rfl (.move rfl) ?_)))
  refine .m rfl rfl rfl (.cmp rfl rfl rfl) (.m rfl rfl rfl (.move rfl) ?_)
  refine .split (fun h11 => ?_) (fun h11 => ?_)
  ·
   simp only [beq_iff_eq, beq_eq_false_iff_ne] at h11
   refine .mg rfl rfl rfl rfl rfl (.move rfl) (.mg rfl rfl rfl rfl rfl (.move rfl) ?_)
   refine .callQg rfl rfl rfl rfl rfl rfl @Try.call145 rfl (within_c) ?_
   refine .m rfl rfl rfl (.pickT rfl rfl) (.m rfl rfl rfl (.assign rfl) (.nil ?_))
   refine hK2 _ _ ?_
   refine .ret ?_
   refine hret _ _ ?_
   refine ⟨_, rfl, ?_⟩
   first
   | exact .of (congrArg _ (B_false fun hh => h11 hh.1))
   | exact .of (congrArg _ (by rw [Bool.eq_iff_iff, B_iff]; exact ⟨fun hh => hh.2, fun hh => ⟨h11, hh⟩⟩))
  simp only [beq_iff_eq, beq_eq_false_iff_ne] at h11
  refine .sg rfl rfl rfl rfl rfl (.sg rfl rfl rfl rfl rfl (.sg rfl rfl rfl rfl rfl (.m rfl rfl rfl (.pickF rfl rfl) ?_)))
  refine .m rfl rfl rfl (.assign rfl) (.nil ?_)
  refine hK2 _ _ ?_
  refine .ret ?_
  refine hret _ _ ?_
  refine ⟨_, rfl, ?_⟩
  first
  | exact .of (congrArg _ (B_false fun hh => h11 hh.1))
  | exact .of (congrArg _ (by rw [Bool.eq_iff_iff, B_iff]; exact ⟨fun hh => hh.2, fun hh => ⟨h11, hh⟩⟩))
theorem sfShape_c {g o : Nat} {f : SFun} {p : SFunP} {H : GHeap} (h : SFun.At H g o f p := by assumption) (hs : f.Small := by assumption) : GCalls Try.prog 133 [.pointer (some ⟨g, o, none⟩)] H (Ret (.bool (B f.Shape)) H) := by
  refine GCalls.body (N := 82) (rs := [.tmp 2]) Try.func133 rfl rfl rfl rfl (fun Qx hret hend => ?_)
  refine .forget (fr' := [(0, some _)]) ⟨rfl, trivial⟩ ?_
  have hle := GHeap.Le.refl H
  have base_h := h
  obtain ⟨fsh, c5, c6, i1, i2⟩ := h.get
  have hm : MemN _ _ _ _ _ := ⟨rfl, h.1⟩
  have hi := h.2
  have hmsh : MemN _ _ _ _ _ := ⟨rfl, fsh.1⟩
  have hish := fsh.2
  obtain ⟨c0, c1, c2, c3, c4, d1, d2, d3, d4⟩ := fsh.get
  obtain ⟨s1, s2, s3, s4⟩ := hs
  refine .seq (fun K1 hK1 => ?_)
  refine .region (.m rfl rfl rfl (.assign rfl) (.nil ?_))
  refine hK1 _ _ ?_
  refine .seq (fun K2 hK2 => ?_)
  refine .region (.m rfl rfl rfl (.move rfl) (.m rfl rfl rfl (.nilCheck rfl) (.m rfl rfl rfl (.fieldAddr fo_65_0_P rfl) ?_)))
  refine .m rfl rfl rfl (.assign rfl) (.nil ?_)
  refine hK2 _ _ ?_
  refine .seq (fun K3 hK3 => ?_)
  refine .seq (fun K4 hK4 => ?_)
  refine .regionD mixed_orders_B (.q 0 (.c 1 0 (.q 2 (.q 3 (.q 4 (.q 5 (.q 6 (.q 7 (.q 8 (.q 9 (.q 10 (.q 11 (.q 12 (.q 13 (.q 14 (.q 15 (.q 16 (.q 17 (.q 18 (.q 19 (.c 20 0 (.q 21 (.q 22 (.q 23 (.q 24 (.q 25 (.q 26 (.q 27 (.q 28 (.q 29 (.c 30 1 (.q 31 (.q 32 (.done)))))))))))))))))))))))))))))))))) (by kernel_rfl) ?_
  refine .m rfl rfl rfl rfl (.refl _) (.move rfl) ?_
  refine .callQ0 rfl rfl rfl rfl rfl @Try.call50 rfl (isCategory_c) ?_
  refine .m rfl rfl rfl rfl (.refl _) (.not rfl) (.m rfl rfl rfl rfl (.refl _) (.move rfl) ?_)
  refine .split (fun h12 => ?_) (fun h12 => ?_)
  ·
   try simp only [sps] at h12
   refine .sg rfl rfl rfl rfl rfl rfl (.sg rfl rfl rfl rfl rfl rfl (.sg rfl rfl rfl rfl rfl rfl (.sg rfl rfl rfl rfl rfl rfl ?_)))
   refine .sg rfl rfl rfl rfl rfl rfl (.sg rfl rfl rfl rfl rfl rfl (.sg rfl rfl rfl rfl rfl rfl (.sg rfl rfl rfl rfl rfl rfl ?_)))
   refine .sg rfl rfl rfl rfl rfl rfl (.sg rfl rfl rfl rfl rfl rfl (.m rfl rfl rfl rfl (.refl _) (.pickT rfl rfl) (.m rfl rfl rfl rfl (.refl _) (.move rfl) ?_)))
   refine .sg rfl rfl rfl rfl rfl rfl (.sg rfl rfl rfl rfl rfl rfl (.sg rfl rfl rfl rfl rfl rfl (.sg rfl rfl rfl rfl rfl rfl ?_)))
   refine .sgc rfl rfl rfl rfl rfl rfl (.sg rfl rfl rfl rfl rfl rfl (.m rfl rfl rfl rfl (.refl _) (.pickT rfl rfl) (.m rfl rfl rfl rfl (.refl _) (.move rfl) ?_)))
   refine .sg rfl rfl rfl rfl rfl rfl (.sg rfl rfl rfl rfl rfl rfl (.sg rfl rfl rfl rfl rfl rfl (.sg rfl rfl rfl rfl rfl rfl ?_)))
   refine .sg rfl rfl rfl rfl rfl rfl (.sg rfl rfl rfl rfl rfl rfl (.sgc rfl rfl rfl rfl rfl rfl (.sg rfl rfl rfl rfl rfl rfl ?_)))
   refine .m rfl rfl rfl rfl (.refl _) (.pickT rfl rfl) ?_
   refine .done ?_
   refine hK4 _ _ ?_
   refine .condT rfl ?_
   refine .seq (fun K5 hK5 => ?_)
   refine .region (.m rfl rfl rfl (.assign rfl) (.nil ?_))
   refine hK5 _ _ ?_
   refine .ret ?_
   refine hret _ _ ?_
   refine ⟨_, rfl, ?_⟩
   exact .of (congrArg _ (B_false fun hh => h12 hh.c))
  try simp only [sps] at h12
  refine .mg rfl rfl rfl rfl rfl rfl (.refl _) (.move rfl) (.mg rfl rfl rfl rfl rfl rfl (.refl _) (.nilCheck rfl) (.mg rfl rfl rfl rfl rfl rfl (.refl _) (.fieldAddr fo_65_1_P rfl) ?_))
  refine .mg rfl rfl rfl rfl rfl rfl (.refl _) (.load on_22_B rfl (by assumption)) ?_
  refine .mg rfl rfl rfl rfl rfl rfl (.refl _) (.len sl_22_A rfl) (.mg rfl rfl rfl rfl rfl rfl (.refl _) (.move rfl) (.mg rfl rfl rfl rfl rfl rfl (.refl _) (.nilCheck rfl) (.mg rfl rfl rfl rfl rfl rfl (.refl _) (.fieldAddr fo_27_0_B rfl) ?_)))
  refine .mg rfl rfl rfl rfl rfl rfl (.refl _) (.load on_2_A rfl (by assumption)) ?_
  refine .mg rfl rfl rfl rfl rfl rfl (.refl _) (.cmp rfl rfl rfl) (.m rfl rfl rfl rfl (.refl _) (.pickF rfl rfl) (.m rfl rfl rfl rfl (.refl _) (.move rfl) ?_))
  refine .split (fun h24 => ?_) (fun h24 => ?_)
  ·
   try simp only [sps] at h24
   refine .sg rfl rfl rfl rfl rfl rfl (.sg rfl rfl rfl rfl rfl rfl (.sg rfl rfl rfl rfl rfl rfl (.sg rfl rfl rfl rfl rfl rfl ?_)))
   refine .sgc rfl rfl rfl rfl rfl rfl (.sg rfl rfl rfl rfl rfl rfl (.m rfl rfl rfl rfl (.refl _) (.pickT rfl rfl) (.m rfl rfl rfl rfl (.refl _) (.move rfl) ?_)))
   refine .sg rfl rfl rfl rfl rfl rfl (.sg rfl rfl rfl rfl rfl rfl (.sg rfl rfl rfl rfl rfl rfl (.sg rfl rfl rfl rfl rfl rfl ?_)))
   refine .sg rfl rfl rfl rfl rfl rfl (.sg rfl rfl rfl rfl rfl rfl (.sgc rfl rfl rfl rfl rfl rfl (.sg rfl rfl rfl rfl rfl rfl ?_)))
   refine .m rfl rfl rfl rfl (.refl _) (.pickT rfl rfl) ?_
   refine .done ?_
   refine hK4 _ _ ?_
   refine .condT rfl ?_
   refine .seq (fun K6 hK6 => ?_)
   refine .region (.m rfl rfl rfl (.assign rfl) (.nil ?_))
   refine hK6 _ _ ?_
   refine .ret ?_
   refine hret _ _ ?_
   refine ⟨_, rfl, ?_⟩
   exact .of (congrArg _ (B_false fun hh => h24 hh.zl))
  try simp only [sps] at h24
  refine .mg rfl rfl rfl rfl rfl rfl (.refl _) (.move rfl) (.mg rfl rfl rfl rfl rfl rfl (.refl _) (.nilCheck rfl) (.mg rfl rfl rfl rfl rfl rfl (.refl _) (.fieldAddr fo_65_1_P rfl) ?_))
  refine .mg rfl rfl rfl rfl rfl rfl (.refl _) (.load on_22_B rfl (by assumption)) ?_
  refine .callQ0g rfl rfl rfl rfl rfl rfl rfl @Try.call145 rfl (within_c) ?_
  refine .mg rfl rfl rfl rfl rfl rfl (.refl _) (.not rfl) (.m rfl rfl rfl rfl (.refl _) (.pickF rfl rfl) (.m rfl rfl rfl rfl (.refl _) (.move rfl) ?_))
  refine .split (fun h32 => ?_) (fun h32 => ?_)
  ·
   try simp only [sps] at h32
   refine .sg rfl rfl rfl rfl rfl rfl (.sg rfl rfl rfl rfl rfl rfl (.sg rfl rfl rfl rfl rfl rfl (.sg rfl rfl rfl rfl rfl rfl ?_)))
   refine .sg rfl rfl rfl rfl rfl rfl (.sg rfl rfl rfl rfl rfl rfl (.sgc rfl rfl rfl rfl rfl rfl (.sg rfl rfl rfl rfl rfl rfl ?_)))
   refine .m rfl rfl rfl rfl (.refl _) (.pickT rfl rfl) ?_
   refine .done ?_
   refine hK4 _ _ ?_
   refine .condT rfl ?_
   refine .seq (fun K7 hK7 => ?_)
   refine .region (.m rfl rfl rfl (.assign rfl) (.nil ?_))
   refine hK7 _ _ ?_
   refine .ret ?_
   refine hret _ _ ?_
   refine ⟨_, rfl, ?_⟩
   exact .of (congrArg _ (B_false fun hh => by rw [allIn_iff.2 fun i hi => by have := hh.sz i hi; omega] at h32; cases h32))
  try simp only [sps] at h32
  refine .mg rfl rfl rfl rfl rfl rfl (.refl _) (.move rfl) (.mg rfl rfl rfl rfl rfl rfl (.refl _) (.nilCheck rfl) (.mg rfl rfl rfl rfl rfl rfl (.refl _) (.fieldAddr fo_65_2_P rfl) ?_))
  refine .mg rfl rfl rfl rfl rfl rfl (.refl _) (.load on_23_B rfl (by assumption)) ?_
  refine .mg rfl rfl rfl rfl rfl rfl (.refl _) (.len sl_23_B rfl) (.mg rfl rfl rfl rfl rfl rfl (.refl _) (.move rfl) ?_)
  refine .callQ1g rfl rfl rfl rfl rfl rfl rfl @Try.call58 rfl (arrows_c) (.refl _) ?_
  refine .mg rfl rfl rfl rfl rfl rfl (.refl _) (.cmp rfl rfl rfl) (.m rfl rfl rfl rfl (.refl _) (.pickF rfl rfl) ?_)
  refine .done ?_
  refine hK4 _ _ ?_
  refine .cond rfl (fun h41 => ?_) (fun h41 => ?_)
  ·
   try simp only [sps] at h41
   refine .seq (fun K8 hK8 => ?_)
   refine .region (.m rfl rfl rfl (.assign rfl) (.nil ?_))
   refine hK8 _ _ ?_
   refine .ret ?_
   refine hret _ _ ?_
   refine ⟨_, rfl, ?_⟩
   exact .of (congrArg _ (B_false fun hh => by have := hh.al; omega))
  try simp only [sps] at h41
  refine .skip ?_
  refine hK3 _ _ ?_
  refine .seq (fun K9 hK9 => ?_)
  refine .seq (fun K10 hK10 => ?_)
  refine .region (.m rfl rfl rfl (.move rfl) (.m rfl rfl rfl (.nilCheck rfl) (.m rfl rfl rfl (.fieldAddr fo_65_2_P rfl) ?_)))
  refine .m rfl rfl rfl (.load on_23_B rfl (by assumption)) ?_
  refine .m rfl rfl rfl (.len sl_23_B rfl) (.m rfl rfl rfl (.move rfl) (.nil ?_))
  refine hK10 _ _ ?_
  refine .block ?_
  have hC := h12
  have hS := hC.1
  have q1 := hS.tl
  have q2 := hS.obj
  refine .loopR (σ := Nat) [(0, some _), (3, some _), (45, some _), (46, some _)] (fun k => [(47, some (.int .i64 (k : Int)))]) (fun k H' => H = H' ∧ (k : Int) ≤ f.ac.length ∧ ∀ a, a < k → f.AcOk a) (fun k => (f.ac.length - k : Int).toNat) (0) ⟨rfl, rfl, rfl, rfl, trivial⟩ ⟨rfl, trivial⟩ ?_ ?_
  ·
   refine ⟨rfl, ?_⟩
   exact ⟨by omega, fun _ _ => by omega⟩
  rintro k _ ⟨rfl, hI⟩ KL1 hKL1
  refine .forget (fr' := [(47, some (.int .i64 (k : Int))), (0, some _), (3, some _), (45, some _), (46, some _)]) ⟨rfl, rfl, rfl, rfl, rfl, trivial⟩ ?_
  obtain ⟨hk1, ha1⟩ := hI
  refine .seq (fun K11 hK11 => ?_)
  refine .region (.m rfl rfl rfl (.cmp rfl rfl rfl) (.nil ?_))
  refine hK11 _ _ ?_
  refine .seq (fun K12 hK12 => ?_)
  refine .cond rfl (fun h48 => ?_) (fun h48 => ?_)
  ·
   simp only [sps] at h48
   have q3 := hS.src k (by omega)
   have q4 := hS.tgt k (by omega)
   have q5 := h32 (f.sh.tgt.getD k 0).toNat (by omega)
   have q6 := i2.2 k (by omega)
   have q7 := s4 k
   refine .skip ?_
   refine hK12 _ _ ?_
   refine .seq (fun K13 hK13 => ?_)
   refine .block ?_
   refine .seq (fun K14 hK14 => ?_)
   refine .region (.m rfl rfl rfl (.move rfl) ?_)
   refine .m rfl rfl rfl (.idxN sl_23_B (Intss.sl (by assumption)) rfl rfl (by omega)) ?_
   refine .m rfl rfl rfl (.loadR on_22_B (by assumption) rfl (by omega)) ?_
   refine .m rfl rfl rfl (.assign rfl) (.m rfl rfl rfl (.assign rfl) (.nil ?_))
   refine hK14 _ _ ?_
   refine .seq (fun K15 hK15 => ?_)
   refine .regionD mixed_orders_B (.q 0 (.q 1 (.q 2 (.q 3 (.q 4 (.q 5 (.q 6 (.q 7 (.q 8 (.q 9 (.q 10 (.q 11 (.q 12 (.q 13 (.q 14 (.q 15 (.q 16 (.q 17 (.q 18 (.q 19 (.q 20 (.q 21 (.q 22 (.q 23 (.q 24 (.q 25 (.q 26 (.c 27 0 (.q 28 (.done)))))))))))))))))))))))))))))) (by kernel_rfl) ?_
   refine .m rfl rfl rfl rfl (.refl _) (.move rfl) (.m rfl rfl rfl rfl (.refl _) (.move rfl) (.m rfl rfl rfl rfl (.refl _) (.nilCheck rfl) (.m rfl rfl rfl rfl (.refl _) (.fieldAddr fo_65_1_P rfl) ?_)))
   refine .m rfl rfl rfl rfl (.refl _) (.load on_22_B rfl (by assumption)) ?_
   refine .m rfl rfl rfl rfl (.refl _) (.move rfl) (.m rfl rfl rfl rfl (.refl _) (.nilCheck rfl) (.m rfl rfl rfl rfl (.refl _) (.fieldAddr fo_27_1_B rfl) ?_))
   refine .m rfl rfl rfl rfl (.refl _) (.load on_22_B rfl (by assumption)) ?_
   refine .m rfl rfl rfl rfl (.refl _) (.move rfl) ?_
   refine .m rfl rfl rfl rfl (.refl _) (.idxN sl_22_A (by assumption) rfl rfl (by omega)) ?_
   refine .m rfl rfl rfl rfl (.refl _) (.loadI on_2_A (by assumption) rfl (by omega)) ?_
   refine .m rfl rfl rfl rfl (.refl _) (.idx1 sl_22_A (by assumption) rfl rfl (by omega) (by omega)) ?_
   refine .m rfl rfl rfl rfl (.refl _) (.loadI on_2_A (by assumption) rfl (by omega)) ?_
   refine .m rfl rfl rfl rfl (.refl _) (.move rfl) (.m rfl rfl rfl rfl (.refl _) (.nilCheck rfl) (.m rfl rfl rfl rfl (.refl _) (.fieldAddr fo_65_1_P rfl) ?_))
   refine .m rfl rfl rfl rfl (.refl _) (.load on_22_B rfl (by assumption)) ?_
   refine .m rfl rfl rfl rfl (.refl _) (.move rfl) (.m rfl rfl rfl rfl (.refl _) (.nilCheck rfl) (.m rfl rfl rfl rfl (.refl _) (.fieldAddr fo_27_2_B rfl) ?_))
   refine .m rfl rfl rfl rfl (.refl _) (.load on_22_B rfl (by assumption)) ?_
   refine .m rfl rfl rfl rfl (.refl _) (.move rfl) ?_
   refine .m rfl rfl rfl rfl (.refl _) (.idxN sl_22_A (by assumption) rfl rfl (by omega)) ?_
   refine .m rfl rfl rfl rfl (.refl _) (.loadI on_2_A (by assumption) rfl (by omega)) ?_
   refine .m rfl rfl rfl rfl (.refl _) (.idx1 sl_22_A (by assumption) rfl rfl (by omega) (by omega)) ?_
   refine .m rfl rfl rfl rfl (.refl _) (.loadI on_2_A (by assumption) rfl (by omega)) ?_
   refine .callQ0 rfl rfl rfl rfl rfl @Try.call155 rfl (isMapOf_c) ?_
   refine .m rfl rfl rfl rfl (.refl _) (.not rfl) ?_
   refine .done ?_
   refine hK15 _ _ ?_
   refine .cond rfl (fun h80 => ?_) (fun h80 => ?_)
   ·
    simp only [B_iff, B_not, Bool.not_eq_true', Bool.not_eq_false'] at h80
    refine .seq (fun K16 hK16 => ?_)
    refine .region (.m rfl rfl rfl (.assign rfl) (.nil ?_))
    refine hK16 _ _ ?_
    refine .ret ?_
    refine hret _ _ ?_
    refine ⟨_, rfl, ?_⟩
    exact .of (congrArg _ (B_false fun hh => h80 (hh.ac k (by omega))))
   simp only [B_iff, B_not, Bool.not_eq_true', Bool.not_eq_false'] at h80
   refine .skip ?_
   refine hK13 _ _ ?_
   refine .region ?_
   refine .m rfl rfl rfl (.add rfl rfl rfl (by omega) (by omega)) ?_
   refine .m rfl rfl rfl (.move rfl) (.nil ?_)
   refine hKL1 (k + 1) _ _ ?_ ?_ ⟨rfl, rfl, rfl, rfl, rfl, trivial⟩
   ·
    refine ⟨rfl, ?_⟩
    refine ⟨by omega, fun a hx => ?_⟩
    by_cases hltq : a < k
    · exact ha1 a hltq
    · obtain rfl : a = k := by omega
      exact h80
   omega
  try simp only [sps] at h48
  refine .exit ?_
  refine hK9 _ _ ?_
  refine .seq (fun K17 hK17 => ?_)
  refine .region (.m rfl rfl rfl (.assign rfl) (.nil ?_))
  refine hK17 _ _ ?_
  refine .ret ?_
  refine hret _ _ ?_
  refine ⟨_, rfl, ?_⟩
  exact .of (congrArg _ (B_true ⟨hC, h24, fun i hi => by have := h32 i hi; omega, by omega, fun a ha => ha1 a (by omega)⟩))
theorem sfFault_c {g o : Nat} {f : SFun} {p : SFunP} {H : GHeap} (h : SFun.At H g o f p := by assumption) (hS : f.Shape := by assumption) :
    GCalls Try.prog 134 [.pointer (some ⟨g, o, none⟩)] H (fun v H' => (∃ k x y z, v = .tuple #[.int .i64 k, .int .i64 x, .int .i64 y, .int .i64 z] ∧ (k = 0 ↔ f.Laws)) ∧ H' = H) := by
  refine GCalls.body (N := 109) (rs := [.tmp 2, .tmp 3, .tmp 4, .tmp 5]) Try.func134 rfl rfl rfl rfl (fun Qx hret hend => ?_)
  refine .forget (fr' := [(0, some _)]) ⟨rfl, trivial⟩ ?_
  have hle := GHeap.Le.refl H
  have base_h := h
  obtain ⟨fsh, c5, c6, i1, i2⟩ := h.get
  have hm : MemN _ _ _ _ _ := ⟨rfl, h.1⟩
  have hi := h.2
  have hmsh : MemN _ _ _ _ _ := ⟨rfl, fsh.1⟩
  have hish := fsh.2
  obtain ⟨c0, c1, c2, c3, c4, d1, d2, d3, d4⟩ := fsh.get
  have hC := hS.c.1
  have q1 := hC.tl
  have q2 := hC.obj
  have q3 := hC.n40
  have q4 := hC.cl
  have q5 := hC.il
  have q6 := hS.al
  have q7 := hS.zl
  refine .seq (fun K1 hK1 => ?_)
  refine .region (.m rfl rfl rfl (.assign rfl) (.m rfl rfl rfl (.assign rfl) (.m rfl rfl rfl (.assign rfl) ?_)))
  refine .m rfl rfl rfl (.assign rfl) (.nil ?_)
  refine hK1 _ _ ?_
  refine .seq (fun K2 hK2 => ?_)
  refine .region (.m rfl rfl rfl (.move rfl) (.m rfl rfl rfl (.nilCheck rfl) (.m rfl rfl rfl (.fieldAddr fo_65_0_P rfl) ?_)))
  refine .m rfl rfl rfl (.assign rfl) (.nil ?_)
  refine hK2 _ _ ?_
  refine .seq (fun K3 hK3 => ?_)
  refine .seq (fun K4 hK4 => ?_)
  refine .region (.m rfl rfl rfl (.move rfl) (.m rfl rfl rfl (.nilCheck rfl) (.m rfl rfl rfl (.fieldAddr fo_27_3_B rfl) ?_)))
  refine .m rfl rfl rfl (.load on_22_B rfl (by assumption)) ?_
  refine .m rfl rfl rfl (.len sl_22_A rfl) (.m rfl rfl rfl (.move rfl) (.nil ?_))
  refine hK4 _ _ ?_
  refine .block ?_
  refine .loopR (σ := Nat) [(0, some _), (6, some _), (23, some _), (24, some _)] (fun k => [(25, some (.int .i64 (k : Int)))]) (fun k H' => H = H' ∧ (k : Int) ≤ f.sh.idn.length ∧ ∀ x, x < k → ∀ e : Nat, e < (f.ac.getD (f.sh.idn.getD x 0).toNat []).length → (f.ac.getD (f.sh.idn.getD x 0).toNat []).getD e 0 = e) (fun k => (f.sh.idn.length - k : Int).toNat) (0) ⟨rfl, rfl, rfl, rfl, trivial⟩ ⟨rfl, trivial⟩ ?_ ?_
  ·
   refine ⟨rfl, ?_⟩
   exact ⟨by omega, fun _ _ => by omega⟩
  rintro k _ ⟨rfl, hI⟩ KL1 hKL1
  refine .forget (fr' := [(25, some (.int .i64 (k : Int))), (0, some _), (6, some _), (23, some _), (24, some _)]) ⟨rfl, rfl, rfl, rfl, rfl, trivial⟩ ?_
  obtain ⟨hk1, ha1⟩ := hI
  refine .seq (fun K5 hK5 => ?_)
  refine .region (.m rfl rfl rfl (.cmp rfl rfl rfl) (.nil ?_))
  refine hK5 _ _ ?_
  refine .seq (fun K6 hK6 => ?_)
  refine .cond rfl (fun h26 => ?_) (fun h26 => ?_)
  ·
   simp only [sps] at h26
   have r1 := hC.idn k (by omega)
   have r2 := i2.2 (f.sh.idn.getD k 0).toNat (by omega)
   have r3 := hS.ends (a := (f.sh.idn.getD k 0).toNat) (by omega)
   have r4 := hS.sz (f.sh.src.getD (f.sh.idn.getD k 0).toNat 0).toNat (by omega)
   refine .skip ?_
   refine hK6 _ _ ?_
   refine .seq (fun K7 hK7 => ?_)
   refine .block ?_
   refine .seq (fun K8 hK8 => ?_)
   refine .region (.m rfl rfl rfl (.move rfl) ?_)
   refine .m rfl rfl rfl (.idxN sl_22_A (by assumption) rfl rfl (by omega)) ?_
   refine .m rfl rfl rfl (.loadI on_2_A (by assumption) rfl (by omega)) ?_
   refine .m rfl rfl rfl (.assign rfl) (.m rfl rfl rfl (.assign rfl) (.nil ?_))
   refine hK8 _ _ ?_
   refine .seq (fun K9 hK9 => ?_)
   refine .region (.m rfl rfl rfl (.move rfl) (.m rfl rfl rfl (.nilCheck rfl) (.m rfl rfl rfl (.fieldAddr fo_65_2_P rfl) ?_)))
   refine .m rfl rfl rfl (.load on_23_B rfl (by assumption)) ?_
   refine .m rfl rfl rfl (.move rfl) ?_
   refine .m rfl rfl rfl (.idx1 sl_23_B (Intss.sl (by assumption)) rfl rfl (by omega) (by omega)) ?_
   refine .m rfl rfl rfl (.loadR on_22_B (by assumption) rfl (by omega)) ?_
   refine .m rfl rfl rfl (.len sl_22_A rfl) (.m rfl rfl rfl (.move rfl) (.nil ?_))
   refine hK9 _ _ ?_
   refine .block ?_
   refine .loopR (σ := Nat) [(0, some _), (6, some _), (7, some _), (23, some _), (24, some _), (25, some _), (36, some _), (37, some _)] (fun l => [(38, some (.int .i64 (l : Int)))]) (fun l H' => H = H' ∧ (l : Int) ≤ (f.ac.getD (f.sh.idn.getD k 0).toNat []).length ∧ ∀ e, e < l → (f.ac.getD (f.sh.idn.getD k 0).toNat []).getD e 0 = e) (fun l => ((f.ac.getD (f.sh.idn.getD k 0).toNat []).length - l : Int).toNat) (0) ⟨rfl, rfl, rfl, rfl, rfl, rfl, rfl, rfl, trivial⟩ ⟨rfl, trivial⟩ ?_ ?_
   ·
    refine ⟨rfl, ?_⟩
    exact ⟨by omega, fun _ _ => by omega⟩
   rintro l _ ⟨rfl, hI⟩ KL2 hKL2
   refine .forget (fr' := [(38, some (.int .i64 (l : Int))), (0, some _), (6, some _), (7, some _), (23, some _), (24, some _), (25, some _), (36, some _), (37, some _)]) ⟨rfl, rfl, rfl, rfl, rfl, rfl, rfl, rfl, rfl, trivial⟩ ?_
   obtain ⟨hk2, ha2⟩ := hI
   refine .seq (fun K10 hK10 => ?_)
   refine .region (.m rfl rfl rfl (.cmp rfl rfl rfl) (.nil ?_))
   refine hK10 _ _ ?_
   refine .seq (fun K11 hK11 => ?_)
   refine .cond rfl (fun h39 => ?_) (fun h39 => ?_)
   ·
    try simp only [sps] at h39
    refine .skip ?_
    refine hK11 _ _ ?_
    refine .seq (fun K12 hK12 => ?_)
    refine .block ?_
    refine .seq (fun K13 hK13 => ?_)
    refine .region (.m rfl rfl rfl (.move rfl) ?_)
    refine .m rfl rfl rfl (.idxN sl_22_A (by assumption) rfl rfl (by omega)) ?_
    refine .m rfl rfl rfl (.loadI on_2_A (by assumption) rfl (by omega)) ?_
    refine .m rfl rfl rfl (.assign rfl) (.m rfl rfl rfl (.assign rfl) (.nil ?_))
    refine hK13 _ _ ?_
    refine .seq (fun K14 hK14 => ?_)
    refine .region (.m rfl rfl rfl (.move rfl) (.m rfl rfl rfl (.move rfl) (.m rfl rfl rfl (.cmp rfl rfl rfl) ?_)))
    refine .nil ?_
    refine hK14 _ _ ?_
    refine .cond rfl (fun h45 => ?_) (fun h45 => ?_)
    ·
     try simp only [sps] at h45
     refine .seq (fun K15 hK15 => ?_)
     refine .region (.m rfl rfl rfl (.move rfl) (.m rfl rfl rfl (.move rfl) (.m rfl rfl rfl (.assign rfl) ?_)))
     refine .m rfl rfl rfl (.assign rfl) (.m rfl rfl rfl (.assign rfl) (.m rfl rfl rfl (.assign rfl) (.nil ?_)))
     refine hK15 _ _ ?_
     refine .ret ?_
     refine hret _ _ ?_
     refine ⟨_, _, _, _, rfl, rfl, rfl, rfl, ?_⟩
     exact ⟨⟨_, _, _, _, rfl, ⟨fun hh => absurd hh (by decide), fun hL => absurd (hL.ids k (by omega) l (by omega)) h45⟩⟩, rfl⟩
    try simp only [sps] at h45
    refine .skip ?_
    refine hK12 _ _ ?_
    refine .region ?_
    refine .m rfl rfl rfl (.add rfl rfl rfl (by omega) (by omega)) ?_
    refine .m rfl rfl rfl (.move rfl) (.nil ?_)
    refine hKL2 (l + 1) _ _ ?_ ?_ ⟨rfl, rfl, rfl, rfl, rfl, rfl, rfl, rfl, rfl, trivial⟩
    ·
     refine ⟨rfl, ?_⟩
     refine ⟨by omega, fun e hx => ?_⟩
     by_cases hltq : e < l
     · exact ha2 e hltq
     · obtain rfl : e = l := by omega
       exact h45
    omega
   try simp only [sps] at h39
   refine .exit ?_
   refine hK7 _ _ ?_
   refine .region ?_
   refine .m rfl rfl rfl (.add rfl rfl rfl (by omega) (by omega)) ?_
   refine .m rfl rfl rfl (.move rfl) (.nil ?_)
   refine hKL1 (k + 1) _ _ ?_ ?_ ⟨rfl, rfl, rfl, rfl, rfl, trivial⟩
   ·
    refine ⟨rfl, ?_⟩
    refine ⟨by omega, fun x hx => ?_⟩
    by_cases hltq : x < k
    · exact ha1 x hltq
    · obtain rfl : x = k := by omega
      exact fun e he => ha2 e (by omega)
   omega
  try simp only [sps] at h26
  refine .exit ?_
  refine hK3 _ _ ?_
  refine .seq (fun K16 hK16 => ?_)
  refine .seq (fun K17 hK17 => ?_)
  refine .region (.m rfl rfl rfl (.move rfl) (.m rfl rfl rfl (.nilCheck rfl) (.m rfl rfl rfl (.fieldAddr fo_27_4_B rfl) ?_)))
  refine .m rfl rfl rfl (.load on_23_B rfl (by assumption)) ?_
  refine .m rfl rfl rfl (.len sl_23_B rfl) (.m rfl rfl rfl (.move rfl) (.nil ?_))
  refine hK17 _ _ ?_
  refine .block ?_
  refine .loopR (σ := Nat) [(0, some _), (53, some _), (54, some _)] (fun a => [(55, some (.int .i64 (a : Int)))]) (fun a H' => H = H' ∧ (a : Int) ≤ f.sh.comp.length ∧ ∀ a', a' < a → ∀ b : Nat, b < f.sh.src.length → f.sh.tgt.getD a' 0 = f.sh.src.getD b 0 → ∀ e : Nat, e < (f.ac.getD a' []).length → (f.ac.getD ((f.sh.comp.getD a' []).getD b 0).toNat []).getD e 0 = (f.ac.getD b []).getD ((f.ac.getD a' []).getD e 0).toNat 0) (fun a => (f.sh.comp.length - a : Int).toNat) (0) ⟨rfl, rfl, rfl, trivial⟩ ⟨rfl, trivial⟩ ?_ ?_
  ·
   refine ⟨rfl, ?_⟩
   exact ⟨by omega, fun _ _ => by omega⟩
  rintro a _ ⟨rfl, hI⟩ KL3 hKL3
  refine .forget (fr' := [(55, some (.int .i64 (a : Int))), (0, some _), (53, some _), (54, some _)]) ⟨rfl, rfl, rfl, rfl, trivial⟩ ?_
  obtain ⟨hk3, ha3⟩ := hI
  refine .seq (fun K18 hK18 => ?_)
  refine .region (.m rfl rfl rfl (.cmp rfl rfl rfl) (.nil ?_))
  refine hK18 _ _ ?_
  refine .seq (fun K19 hK19 => ?_)
  refine .cond rfl (fun h56 => ?_) (fun h56 => ?_)
  ·
   simp only [sps] at h56
   have r1 := hC.row a (by omega)
   have r2 := d4.2 a (by omega)
   have r3 := i2.2 a (by omega)
   have r4 := hS.ends (a := a) (by omega)
   have r5 := hS.sz (f.sh.src.getD a 0).toNat (by omega)
   refine .skip ?_
   refine hK19 _ _ ?_
   refine .seq (fun K20 hK20 => ?_)
   refine .block ?_
   refine .seq (fun K21 hK21 => ?_)
   refine .region (.m rfl rfl rfl (.move rfl) ?_)
   refine .m rfl rfl rfl (.idxN sl_23_B (Intss.sl (by assumption)) rfl rfl (by omega)) ?_
   refine .m rfl rfl rfl (.loadR on_22_B (by assumption) rfl (by omega)) ?_
   refine .m rfl rfl rfl (.assign rfl) (.m rfl rfl rfl (.assign rfl) (.nil ?_))
   refine hK21 _ _ ?_
   refine .seq (fun K22 hK22 => ?_)
   refine .region (.m rfl rfl rfl (.move rfl) (.m rfl rfl rfl (.len sl_22_A rfl) (.m rfl rfl rfl (.move rfl) ?_)))
   refine .nil ?_
   refine hK22 _ _ ?_
   refine .block ?_
   refine .loopR (σ := Nat) [(0, some _), (11, some _), (53, some _), (54, some _), (55, some _), (60, some _), (61, some _)] (fun b => [(62, some (.int .i64 (b : Int)))]) (fun b H' => H = H' ∧ (b : Int) ≤ (f.sh.comp.getD a []).length ∧ ∀ b', b' < b → f.sh.tgt.getD a 0 = f.sh.src.getD b' 0 → ∀ e : Nat, e < (f.ac.getD a []).length → (f.ac.getD ((f.sh.comp.getD a []).getD b' 0).toNat []).getD e 0 = (f.ac.getD b' []).getD ((f.ac.getD a []).getD e 0).toNat 0) (fun b => ((f.sh.comp.getD a []).length - b : Int).toNat) (0) ⟨rfl, rfl, rfl, rfl, rfl, rfl, rfl, trivial⟩ ⟨rfl, trivial⟩ ?_ ?_
   ·
    refine ⟨rfl, ?_⟩
    exact ⟨by omega, fun _ _ => by omega⟩
   rintro b _ ⟨rfl, hI⟩ KL4 hKL4
   refine .forget (fr' := [(62, some (.int .i64 (b : Int))), (0, some _), (11, some _), (53, some _), (54, some _), (55, some _), (60, some _), (61, some _)]) ⟨rfl, rfl, rfl, rfl, rfl, rfl, rfl, rfl, trivial⟩ ?_
   obtain ⟨hk4, ha4⟩ := hI
   refine .seq (fun K23 hK23 => ?_)
   refine .region (.m rfl rfl rfl (.cmp rfl rfl rfl) (.nil ?_))
   refine hK23 _ _ ?_
   refine .seq (fun K24 hK24 => ?_)
   refine .cond rfl (fun h63 => ?_) (fun h63 => ?_)
   ·
    simp only [sps] at h63
    have t1 := i2.2 b (by omega)
    have t2 := hS.ends (a := b) (by omega)
    refine .skip ?_
    refine hK24 _ _ ?_
    refine .seq (fun K25 hK25 => ?_)
    refine .block ?_
    refine .seq (fun K26 hK26 => ?_)
    refine .region (.m rfl rfl rfl (.move rfl) ?_)
    refine .m rfl rfl rfl (.idxN sl_22_A (by assumption) rfl rfl (by omega)) ?_
    refine .m rfl rfl rfl (.loadI on_2_A (by assumption) rfl (by omega)) ?_
    refine .m rfl rfl rfl (.assign rfl) (.m rfl rfl rfl (.assign rfl) (.nil ?_))
    refine hK26 _ _ ?_
    refine .seq (fun K27 hK27 => ?_)
    refine .seq (fun K28 hK28 => ?_)
    refine .region (.m rfl rfl rfl (.move rfl) (.m rfl rfl rfl (.cmp rfl rfl rfl) (.nil ?_)))
    refine hK28 _ _ ?_
    refine .cond rfl (fun h68 => ?_) (fun h68 => ?_)
    ·
     try simp only [sps] at h68
     refine .exit ?_
     refine hK25 _ _ ?_
     refine .region ?_
     refine .m rfl rfl rfl (.add rfl rfl rfl (by omega) (by omega)) ?_
     refine .m rfl rfl rfl (.move rfl) (.nil ?_)
     refine hKL4 (b + 1) _ _ ?_ ?_ ⟨rfl, rfl, rfl, rfl, rfl, rfl, rfl, rfl, trivial⟩
     ·
      refine ⟨rfl, ?_⟩
      refine ⟨by omega, fun b' hx => ?_⟩
      by_cases hltq : b' < b
      · exact ha4 b' hltq
      · obtain rfl : b' = b := by omega
        first | exact fun _ e he => ha5 e (by omega) | exact fun hn => absurd ((hC.th_ge (f := a) (g := b') (by omega) (by omega)).2 hn) (by show ¬ (0 ≤ (f.sh.comp.getD a []).getD b' 0); omega)
     omega
    simp only [sps] at h68
    have u1 : f.sh.tgt.getD a 0 = f.sh.src.getD b 0 := (hC.th_ge (f := a) (g := b) (by omega) (by omega)).1 h68
    have u2 := (Cat.Cell.pos u1).1 (hC.cell a (by omega) b (by omega))
    have u3 := i2.2 ((f.sh.comp.getD a []).getD b 0).toNat (by omega)
    have u4 := hS.ends (a := ((f.sh.comp.getD a []).getD b 0).toNat) (by omega)
    rw [u2.2.2.1] at u4
    have u5 := t2.2.2.2.2
    rw [← u1] at u5
    refine .skip ?_
    refine hK27 _ _ ?_
    refine .seq (fun K29 hK29 => ?_)
    refine .region (.m rfl rfl rfl (.move rfl) (.m rfl rfl rfl (.nilCheck rfl) (.m rfl rfl rfl (.fieldAddr fo_65_2_P rfl) ?_)))
    refine .m rfl rfl rfl (.load on_23_B rfl (by assumption)) ?_
    refine .m rfl rfl rfl (.move rfl) ?_
    refine .m rfl rfl rfl (.idxN sl_23_B (Intss.sl (by assumption)) rfl rfl (by omega)) ?_
    refine .m rfl rfl rfl (.loadR on_22_B (by assumption) rfl (by omega)) ?_
    refine .m rfl rfl rfl (.len sl_22_A rfl) (.m rfl rfl rfl (.move rfl) (.nil ?_))
    refine hK29 _ _ ?_
    refine .block ?_
    refine .loopR (σ := Nat) [(0, some _), (11, some _), (13, some _), (14, some _), (53, some _), (54, some _), (55, some _), (60, some _), (61, some _), (62, some _), (75, some _), (76, some _)] (fun e => [(77, some (.int .i64 (e : Int)))]) (fun e H' => H = H' ∧ (e : Int) ≤ (f.ac.getD a []).length ∧ ∀ e', e' < e → (f.ac.getD ((f.sh.comp.getD a []).getD b 0).toNat []).getD e' 0 = (f.ac.getD b []).getD ((f.ac.getD a []).getD e' 0).toNat 0) (fun e => ((f.ac.getD a []).length - e : Int).toNat) (0) ⟨rfl, rfl, rfl, rfl, rfl, rfl, rfl, rfl, rfl, rfl, rfl, rfl, trivial⟩ ⟨rfl, trivial⟩ ?_ ?_
    ·
     refine ⟨rfl, ?_⟩
     exact ⟨by omega, fun _ _ => by omega⟩
    rintro e _ ⟨rfl, hI⟩ KL5 hKL5
    refine .forget (fr' := [(77, some (.int .i64 (e : Int))), (0, some _), (11, some _), (13, some _), (14, some _), (53, some _), (54, some _), (55, some _), (60, some _), (61, some _), (62, some _), (75, some _), (76, some _)]) ⟨rfl, rfl, rfl, rfl, rfl, rfl, rfl, rfl, rfl, rfl, rfl, rfl, rfl, trivial⟩ ?_
    obtain ⟨hk5, ha5⟩ := hI
    refine .seq (fun K30 hK30 => ?_)
    refine .region (.m rfl rfl rfl (.cmp rfl rfl rfl) (.nil ?_))
    refine hK30 _ _ ?_
    refine .seq (fun K31 hK31 => ?_)
    refine .cond rfl (fun h78 => ?_) (fun h78 => ?_)
    ·
     simp only [sps] at h78
     have v1 := hS.act (a := a) (by omega) (e := e) (by omega)
     refine .skip ?_
     refine hK31 _ _ ?_
     refine .seq (fun K32 hK32 => ?_)
     refine .block ?_
     refine .seq (fun K33 hK33 => ?_)
     refine .region (.m rfl rfl rfl (.move rfl) ?_)
     refine .m rfl rfl rfl (.idxN sl_22_A (by assumption) rfl rfl (by omega)) ?_
     refine .m rfl rfl rfl (.loadI on_2_A (by assumption) rfl (by omega)) ?_
     refine .m rfl rfl rfl (.assign rfl) (.m rfl rfl rfl (.assign rfl) (.nil ?_))
     refine hK33 _ _ ?_
     refine .seq (fun K34 hK34 => ?_)
     refine .regionD mixed_orders_B (.q 0 (.q 1 (.q 2 (.q 3 (.q 4 (.q 5 (.q 6 (.q 7 (.q 8 (.q 9 (.q 10 (.q 11 (.q 12 (.q 13 (.q 14 (.q 15 (.q 16 (.q 17 (.q 18 (.q 19 (.q 20 (.done)))))))))))))))))))))) (by kernel_rfl) ?_
     refine .m rfl rfl rfl rfl (.refl _) (.move rfl) (.m rfl rfl rfl rfl (.refl _) (.nilCheck rfl) (.m rfl rfl rfl rfl (.refl _) (.fieldAddr fo_65_2_P rfl) ?_))
     refine .m rfl rfl rfl rfl (.refl _) (.load on_23_B rfl (by assumption)) ?_
     refine .m rfl rfl rfl rfl (.refl _) (.move rfl) ?_
     refine .m rfl rfl rfl rfl (.refl _) (.idx1 sl_23_B (Intss.sl (by assumption)) rfl rfl (by omega) (by omega)) ?_
     refine .m rfl rfl rfl rfl (.refl _) (.loadR on_22_B (by assumption) rfl (by omega)) ?_
     refine .m rfl rfl rfl rfl (.refl _) (.move rfl) ?_
     refine .m rfl rfl rfl rfl (.refl _) (.idxN sl_22_A (by assumption) rfl rfl (by omega)) ?_
     refine .m rfl rfl rfl rfl (.refl _) (.loadI on_2_A (by assumption) rfl (by omega)) ?_
     refine .m rfl rfl rfl rfl (.refl _) (.move rfl) (.m rfl rfl rfl rfl (.refl _) (.nilCheck rfl) (.m rfl rfl rfl rfl (.refl _) (.fieldAddr fo_65_2_P rfl) ?_))
     refine .m rfl rfl rfl rfl (.refl _) (.load on_23_B rfl (by assumption)) ?_
     refine .m rfl rfl rfl rfl (.refl _) (.move rfl) ?_
     refine .m rfl rfl rfl rfl (.refl _) (.idxN sl_23_B (Intss.sl (by assumption)) rfl rfl (by omega)) ?_
     refine .m rfl rfl rfl rfl (.refl _) (.loadR on_22_B (by assumption) rfl (by omega)) ?_
     refine .m rfl rfl rfl rfl (.refl _) (.move rfl) ?_
     refine .m rfl rfl rfl rfl (.refl _) (.idx1 sl_22_A (by assumption) rfl rfl (by omega) (by omega)) ?_
     refine .m rfl rfl rfl rfl (.refl _) (.loadI on_2_A (by assumption) rfl (by omega)) ?_
     refine .m rfl rfl rfl rfl (.refl _) (.cmp rfl rfl rfl) ?_
     refine .done ?_
     refine hK34 _ _ ?_
     refine .cond rfl (fun h102 => ?_) (fun h102 => ?_)
     ·
      try simp only [sps] at h102
      refine .seq (fun K35 hK35 => ?_)
      refine .region (.m rfl rfl rfl (.move rfl) (.m rfl rfl rfl (.move rfl) (.m rfl rfl rfl (.move rfl) ?_)))
      refine .m rfl rfl rfl (.assign rfl) (.m rfl rfl rfl (.assign rfl) (.m rfl rfl rfl (.assign rfl) (.m rfl rfl rfl (.assign rfl) ?_)))
      refine .nil ?_
      refine hK35 _ _ ?_
      refine .ret ?_
      refine hret _ _ ?_
      refine ⟨_, _, _, _, rfl, rfl, rfl, rfl, ?_⟩
      exact ⟨⟨_, _, _, _, rfl, ⟨fun hh => absurd hh (by decide), fun hL => absurd (hL.th a (by omega) b (by omega) u1 e (by omega)) h102⟩⟩, rfl⟩
     try simp only [sps] at h102
     refine .skip ?_
     refine hK32 _ _ ?_
     refine .region ?_
     refine .m rfl rfl rfl (.add rfl rfl rfl (by omega) (by omega)) ?_
     refine .m rfl rfl rfl (.move rfl) (.nil ?_)
     refine hKL5 (e + 1) _ _ ?_ ?_ ⟨rfl, rfl, rfl, rfl, rfl, rfl, rfl, rfl, rfl, rfl, rfl, rfl, rfl, trivial⟩
     ·
      refine ⟨rfl, ?_⟩
      refine ⟨by omega, fun e' hx => ?_⟩
      by_cases hltq : e' < e
      · exact ha5 e' hltq
      · obtain rfl : e' = e := by omega
        exact h102
     omega
    try simp only [sps] at h78
    refine .exit ?_
    refine hK25 _ _ ?_
    refine .region ?_
    refine .m rfl rfl rfl (.add rfl rfl rfl (by omega) (by omega)) ?_
    refine .m rfl rfl rfl (.move rfl) (.nil ?_)
    refine hKL4 (b + 1) _ _ ?_ ?_ ⟨rfl, rfl, rfl, rfl, rfl, rfl, rfl, rfl, trivial⟩
    ·
     refine ⟨rfl, ?_⟩
     refine ⟨by omega, fun b' hx => ?_⟩
     by_cases hltq : b' < b
     · exact ha4 b' hltq
     · obtain rfl : b' = b := by omega
       first | exact fun _ e he => ha5 e (by omega) | exact fun hn => absurd ((hC.th_ge (f := a) (g := b') (by omega) (by omega)).2 hn) (by show ¬ (0 ≤ (f.sh.comp.getD a []).getD b' 0); omega)
    omega
   try simp only [sps] at h63
   refine .exit ?_
   refine hK20 _ _ ?_
   refine .region ?_
   refine .m rfl rfl rfl (.add rfl rfl rfl (by omega) (by omega)) ?_
   refine .m rfl rfl rfl (.move rfl) (.nil ?_)
   refine hKL3 (a + 1) _ _ ?_ ?_ ⟨rfl, rfl, rfl, rfl, trivial⟩
   ·
    refine ⟨rfl, ?_⟩
    refine ⟨by omega, fun a' hx => ?_⟩
    by_cases hltq : a' < a
    · exact ha3 a' hltq
    · obtain rfl : a' = a := by omega
      exact fun b hb => ha4 b (by omega)
   omega
  try simp only [sps] at h56
  refine .exit ?_
  refine hK16 _ _ ?_
  refine .seq (fun K36 hK36 => ?_)
  refine .region (.m rfl rfl rfl (.assign rfl) (.m rfl rfl rfl (.assign rfl) (.m rfl rfl rfl (.assign rfl) ?_)))
  refine .m rfl rfl rfl (.assign rfl) (.nil ?_)
  refine hK36 _ _ ?_
  refine .ret ?_
  refine hret _ _ ?_
  refine ⟨_, _, _, _, rfl, rfl, rfl, rfl, ?_⟩
  exact ⟨⟨_, _, _, _, rfl, ⟨fun _ => ⟨fun x hx => ha1 x (by omega), fun a ha => ha3 a (by omega)⟩, fun _ => rfl⟩⟩, rfl⟩
theorem isSetFunctor_c {g o : Nat} {f : SFun} {p : SFunP} {H : GHeap} (h : SFun.At H g o f p := by assumption) (hs : f.Small := by assumption) : GCalls Try.prog 90 [.pointer (some ⟨g, o, none⟩)] H (Ret (.bool (B f.Is)) H) := by
  refine GCalls.body (N := 19) (rs := [.tmp 2]) Try.func90 rfl rfl rfl rfl (fun Qx hret hend => ?_)
  refine .forget (fr' := [(0, some _)]) ⟨rfl, trivial⟩ ?_
  have hle := GHeap.Le.refl H
  have base_h := h
  refine .seq (fun K1 hK1 => ?_)
  refine .region (.m rfl rfl rfl (.assign rfl) (.nil ?_))
  refine hK1 _ _ ?_
  refine .seq (fun K2 hK2 => ?_)
  refine .seq (fun K3 hK3 => ?_)
  refine .region (.m rfl rfl rfl (.move rfl) ?_)
  refine .callQ rfl rfl rfl rfl @Try.call133 rfl (sfShape_c) ?_
  refine .m rfl rfl rfl (.not rfl) (.nil ?_)
  refine hK3 _ _ ?_
  refine .cond rfl (fun h9 => ?_) (fun h9 => ?_)
  ·
   try simp only [sps] at h9
   refine .seq (fun K4 hK4 => ?_)
   refine .region (.m rfl rfl rfl (.assign rfl) (.nil ?_))
   refine hK4 _ _ ?_
   refine .ret ?_
   refine hret _ _ ?_
   refine ⟨_, rfl, ?_⟩
   exact .of (congrArg _ (B_false fun hh => h9 hh.1))
  try simp only [sps] at h9
  refine .skip ?_
  refine hK2 _ _ ?_
  refine .seq (fun K5 hK5 => ?_)
  refine .region (.m rfl rfl rfl (.move rfl) ?_)
  refine .call rfl rfl rfl rfl @Try.call134 rfl (sfFault_c) ?_
  rintro _ _ ⟨⟨k12, x12, y12, z12, rfl, hk12⟩, heq⟩
  obtain rfl := heq.symm
  refine .m rfl rfl rfl (.move rfl) (.m rfl rfl rfl (.extract rfl rfl) (.m rfl rfl rfl (.extract rfl rfl) (.m rfl rfl rfl (.extract rfl rfl) ?_)))
  refine .m rfl rfl rfl (.extract rfl rfl) (.m rfl rfl rfl (.assign rfl) (.m rfl rfl rfl (.assign rfl) (.m rfl rfl rfl (.assign rfl) ?_)))
  refine .m rfl rfl rfl (.assign rfl) (.nil ?_)
  refine hK5 _ _ ?_
  refine .seq (fun K6 hK6 => ?_)
  refine .region (.m rfl rfl rfl (.move rfl) (.m rfl rfl rfl (.cmp rfl rfl rfl) (.m rfl rfl rfl (.assign rfl) ?_)))
  refine .nil ?_
  refine hK6 _ _ ?_
  refine .ret ?_
  refine hret _ _ ?_
  refine ⟨_, rfl, ?_⟩
  exact .of (congrArg _ (by rw [Bool.eq_iff_iff, B_iff]; simp only [sps]; rw [hk12]; exact ⟨fun hh => hh.2, fun hh => ⟨h9, hh⟩⟩))
end Go.Proofs.Ytgnfekfdmgnhcaa
/- The laws' helpers for SetFunctor. No condition but those of each statement. -/
namespace Go.Proofs.Ytgnfekfdmgnhcaa
open Go Go.GL Go.RowKit Go.Proofs
theorem sz_57_VSFun : (Try.prog.info? 57).map (·.size) = some 7 := by kernel_rfl
theorem fo_57_0_VSFun : fieldOff Try.prog 57 0 = some 0 := by kernel_rfl
theorem fo_57_1_VSFun : fieldOff Try.prog 57 1 = some 5 := by kernel_rfl
theorem fo_57_2_VSFun : fieldOff Try.prog 57 2 = some 6 := by kernel_rfl
theorem ze_65_VSFun : zeroT Try.prog 65 = some ([.int .i64 0, .slice none 0 0, .slice none 0 0, .slice none 0 0, .slice none 0 0, .slice none 0 0, .slice none 0 0], 7) := by kernel_rfl
theorem fo_65_0_VSFun : fieldOff Try.prog 65 0 = some 0 := by kernel_rfl
theorem fo_65_1_VSFun : fieldOff Try.prog 65 1 = some 5 := by kernel_rfl
theorem fo_65_2_VSFun : fieldOff Try.prog 65 2 = some 6 := by kernel_rfl
theorem ag_65_VSFun : aggT Try.prog 65 = some 7 := by kernel_rfl
theorem sz_65_VSFun : (Try.prog.info? 65).map (·.size) = some 7 := by kernel_rfl
theorem szSetFunctor_c {c : SFun} {p : SFunP} {left : Int} {H : GHeap} (hin : c.In H p := by assumption) (hw : c.Wide := by assumption) (h0 : 0 ≤ left := by omega) (h1 : left ≤ 1048576 := by omega) :
    GCalls Try.prog 33 [.agg (c.cells p).toArray, .int .i64 left] H (SzR left c.Small H) := by
  refine SzR.of ?_
  obtain ⟨w0, ⟨wa1, _⟩, ⟨wa2, wb2⟩⟩ := hw
  refine GCalls.body (N := 24) (rs := [.tmp 4]) Try.func33 rfl rfl rfl rfl (fun Qx hret hend => ?_)
  refine .forget (fr' := [(0, some _), (1, some _)]) ⟨rfl, rfl, trivial⟩ ?_
  have hle := GHeap.Le.refl H
  have base_hin := hin
  refine .seq (fun K1 hK1 => ?_)
  refine .region ?_
  refine .r rfl rfl rfl (.boxR rfl sz_57_VSFun rfl) ?_
  rintro _ H2 ⟨g2, rfl, le2, ge2, at2⟩
  have nx_H2 := le2.1
  replace hle := hle.trans le2
  have lt_at2 := GHeap.lt_of_get at2
  replace hin := base_hin.mono hle
  have hb2 : SFun.At _ g2 0 c p := ⟨Mem.of_get at2, hin⟩
  obtain ⟨fsh2, c52, c62, i12, i22⟩ := hb2.get
  have hm2 : MemN _ _ _ _ _ := ⟨rfl, hb2.1⟩
  have hi2 := hb2.2
  have hmsh2 : MemN _ _ _ _ _ := ⟨rfl, fsh2.1⟩
  have hish2 := fsh2.2
  refine .m rfl rfl rfl (.assign rfl) (.nil ?_)
  refine hK1 _ _ ?_
  refine .seq (fun K2 hK2 => ?_)
  refine .region (.m rfl rfl rfl (.fieldAddr fo_57_0_VSFun rfl) ?_)
  refine .m rfl rfl rfl (.loadM ag_25_E rfl (by assumption)) ?_
  refine .m rfl rfl rfl (.move rfl) ?_
  refine .call rfl rfl rfl rfl @Try.call9 rfl (szCategory_c) ?_
  rintro _ _ ⟨heq, lf8, rfl, z18, z28, z38⟩
  obtain rfl := heq.symm
  refine .m rfl rfl rfl (.assign rfl) (.nil ?_)
  refine hK2 _ _ ?_
  refine .seq (fun K3 hK3 => ?_)
  refine .seq (fun K4 hK4 => ?_)
  refine .region (.m rfl rfl rfl (.move rfl) (.m rfl rfl rfl (.cmp rfl rfl rfl) (.nil ?_)))
  refine hK4 _ _ ?_
  refine .cond rfl (fun h10 => ?_) (fun h10 => ?_)
  ·
   try simp only [sps] at h10
   refine .seq (fun K5 hK5 => ?_)
   refine .region (.m rfl rfl rfl (.assign rfl) (.nil ?_))
   refine hK5 _ _ ?_
   refine .ret ?_
   refine hret _ _ ?_
   refine ⟨_, rfl, ?_⟩
   first
   | exact ⟨hle, _, rfl, by omega, by omega, fun h => by omega⟩
   | exact ⟨hle, _, rfl, by omega, by omega, fun h => ⟨by assumption, by assumption, by assumption⟩⟩
  try simp only [sps] at h10
  have hsm8 := z38 (by omega)
  refine .skip ?_
  refine hK3 _ _ ?_
  refine .seq (fun K6 hK6 => ?_)
  refine .region (.m rfl rfl rfl (.fieldAddr fo_57_1_VSFun rfl) ?_)
  refine .m rfl rfl rfl (.load on_22_B rfl (by first | assumption | exact Mem.of_get at2 5 _ rfl)) ?_
  refine .m rfl rfl rfl (.move rfl) ?_
  refine .call rfl rfl rfl rfl @Try.call44 rfl (szInt64S_s) ?_
  rintro _ _ ⟨heq, lf14, rfl, z114, z214, z314⟩
  obtain rfl := heq.symm
  refine .m rfl rfl rfl (.assign rfl) (.nil ?_)
  refine hK6 _ _ ?_
  refine .seq (fun K7 hK7 => ?_)
  refine .seq (fun K8 hK8 => ?_)
  refine .region (.m rfl rfl rfl (.move rfl) (.m rfl rfl rfl (.cmp rfl rfl rfl) (.nil ?_)))
  refine hK8 _ _ ?_
  refine .cond rfl (fun h16 => ?_) (fun h16 => ?_)
  ·
   try simp only [sps] at h16
   refine .seq (fun K9 hK9 => ?_)
   refine .region (.m rfl rfl rfl (.assign rfl) (.nil ?_))
   refine hK9 _ _ ?_
   refine .ret ?_
   refine hret _ _ ?_
   refine ⟨_, rfl, ?_⟩
   first
   | exact ⟨hle, _, rfl, by omega, by omega, fun h => by omega⟩
   | exact ⟨hle, _, rfl, by omega, by omega, fun h => ⟨by assumption, by assumption, by assumption⟩⟩
  try simp only [sps] at h16
  have hsm14 := z314 (by omega)
  refine .skip ?_
  refine hK7 _ _ ?_
  refine .seq (fun K10 hK10 => ?_)
  refine .region (.m rfl rfl rfl (.fieldAddr fo_57_2_VSFun rfl) ?_)
  refine .m rfl rfl rfl (.load on_23_B rfl (by first | assumption | exact Mem.of_get at2 6 _ rfl)) ?_
  refine .m rfl rfl rfl (.move rfl) ?_
  refine .call rfl rfl rfl rfl @Try.call45 rfl (szInt64SS_s) ?_
  rintro _ _ ⟨heq, lf20, rfl, z120, z220, z320⟩
  obtain rfl := heq.symm
  refine .m rfl rfl rfl (.assign rfl) (.nil ?_)
  refine hK10 _ _ ?_
  refine .seq (fun K11 hK11 => ?_)
  refine .seq (fun K12 hK12 => ?_)
  refine .region (.m rfl rfl rfl (.move rfl) (.m rfl rfl rfl (.cmp rfl rfl rfl) (.nil ?_)))
  refine hK12 _ _ ?_
  refine .cond rfl (fun h22 => ?_) (fun h22 => ?_)
  ·
   try simp only [sps] at h22
   refine .seq (fun K13 hK13 => ?_)
   refine .region (.m rfl rfl rfl (.assign rfl) (.nil ?_))
   refine hK13 _ _ ?_
   refine .ret ?_
   refine hret _ _ ?_
   refine ⟨_, rfl, ?_⟩
   first
   | exact ⟨hle, _, rfl, by omega, by omega, fun h => by omega⟩
   | exact ⟨hle, _, rfl, by omega, by omega, fun h => ⟨by assumption, by assumption, by assumption⟩⟩
  try simp only [sps] at h22
  have hsm20 := z320 (by omega)
  refine .skip ?_
  refine hK11 _ _ ?_
  refine .seq (fun K14 hK14 => ?_)
  refine .region (.m rfl rfl rfl (.move rfl) (.m rfl rfl rfl (.assign rfl) (.nil ?_)))
  refine hK14 _ _ ?_
  refine .ret ?_
  refine hret _ _ ?_
  refine ⟨_, rfl, ?_⟩
  first
  | exact ⟨hle, _, rfl, by omega, by omega, fun h => by omega⟩
  | exact ⟨hle, _, rfl, by omega, by omega, fun h => ⟨by assumption, by assumption, by assumption⟩⟩
set_option maxHeartbeats 4000000 in
theorem toSetFunctor_c {c : SFun} {p : SFunP} {H : GHeap} (hin : c.In H p := by assumption) (hs : c.Small := by assumption) : GCalls Try.prog 36 [.agg (c.cells p).toArray] H (NewSFun H c) := by
  obtain ⟨w0, w1, ⟨wa2, wb2⟩⟩ := hs
  refine GCalls.body (N := 17) (rs := [.cell 2 65]) Try.func36 rfl rfl rfl rfl (fun Qx hret hend => ?_)
  refine .forget (fr' := [(0, some _)]) ⟨rfl, trivial⟩ ?_
  have hle := GHeap.Le.refl H
  have base_hin := hin
  refine .seq (fun K1 hK1 => ?_)
  refine .region ?_
  refine .r rfl rfl rfl (.boxR rfl sz_57_VSFun rfl) ?_
  rintro _ H1 ⟨g1, rfl, le1, ge1, at1⟩
  have nx_H1 := le1.1
  replace hle := hle.trans le1
  have lt_at1 := GHeap.lt_of_get at1
  replace hin := base_hin.mono hle
  have hb1 : SFun.At _ g1 0 c p := ⟨Mem.of_get at1, hin⟩
  obtain ⟨fsh1, c51, c61, i11, i21⟩ := hb1.get
  have hm1 : MemN _ _ _ _ _ := ⟨rfl, hb1.1⟩
  have hi1 := hb1.2
  have hmsh1 : MemN _ _ _ _ _ := ⟨rfl, fsh1.1⟩
  have hish1 := fsh1.2
  refine .r rfl rfl rfl (.allocR rfl ze_65_VSFun rfl) ?_
  rintro _ H2 ⟨g2, rfl, le2, ge2, at2⟩
  have nx_H2 := le2.1
  replace hle := hle.trans le2
  replace at1 := le2.2 _ _ at1
  have lt_at2 := GHeap.lt_of_get at2
  replace hin := base_hin.mono hle
  clear hb1 fsh1 c51 c61 i11 i21 hm1 hi1 hmsh1 hish1
  have hb1 : SFun.At _ g1 0 c p := ⟨Mem.of_get at1, hin⟩
  obtain ⟨fsh1, c51, c61, i11, i21⟩ := hb1.get
  have hm1 : MemN _ _ _ _ _ := ⟨rfl, hb1.1⟩
  have hi1 := hb1.2
  have hmsh1 : MemN _ _ _ _ _ := ⟨rfl, fsh1.1⟩
  have hish1 := fsh1.2
  refine .nil ?_
  refine hK1 _ _ ?_
  refine .seq (fun K2 hK2 => ?_)
  refine .region ?_
  refine .r rfl rfl rfl (.allocR rfl ze_65_VSFun rfl) ?_
  rintro _ H3 ⟨g3, rfl, le3, ge3, at3⟩
  have nx_H3 := le3.1
  replace hle := hle.trans le3
  replace at1 := le3.2 _ _ at1
  replace at2 := le3.2 _ _ at2
  have lt_at3 := GHeap.lt_of_get at3
  replace hin := base_hin.mono hle
  clear hb1 fsh1 c51 c61 i11 i21 hm1 hi1 hmsh1 hish1
  have hb1 : SFun.At _ g1 0 c p := ⟨Mem.of_get at1, hin⟩
  obtain ⟨fsh1, c51, c61, i11, i21⟩ := hb1.get
  have hm1 : MemN _ _ _ _ _ := ⟨rfl, hb1.1⟩
  have hi1 := hb1.2
  have hmsh1 : MemN _ _ _ _ _ := ⟨rfl, fsh1.1⟩
  have hish1 := fsh1.2
  refine .nil ?_
  refine hK2 _ _ ?_
  refine .seq (fun K3 hK3 => ?_)
  refine .region (.m rfl rfl rfl (.fieldAddr fo_57_0_VSFun rfl) ?_)
  refine .m rfl rfl rfl (.loadM ag_25_E rfl (by assumption)) ?_
  refine .call rfl rfl rfl rfl @Try.call11 rfl (toCategory_c) ?_
  rintro _ H6 ⟨le6, p6, rfl, v6⟩
  have nx_H6 := le6.1
  replace hle := hle.trans le6
  replace at1 := le6.2 _ _ at1
  replace at2 := le6.2 _ _ at2
  replace at3 := le6.2 _ _ at3
  have bs_v6 := v6
  have lv_v6 : Keep H3.next H6 H6 := fun _ _ _ h => h
  replace hin := base_hin.mono hle
  clear hb1 fsh1 c51 c61 i11 i21 hm1 hi1 hmsh1 hish1
  have hb1 : SFun.At _ g1 0 c p := ⟨Mem.of_get at1, hin⟩
  obtain ⟨fsh1, c51, c61, i11, i21⟩ := hb1.get
  have hm1 : MemN _ _ _ _ _ := ⟨rfl, hb1.1⟩
  have hi1 := hb1.2
  have hmsh1 : MemN _ _ _ _ _ := ⟨rfl, fsh1.1⟩
  have hish1 := fsh1.2
  have i6 := v6.inn
  refine .m rfl rfl rfl (.fieldAddr fo_65_0_VSFun rfl) ?_
  refine .r0 rfl rfl (.storeNR rfl sz_27_D rfl rfl rfl rfl (by assumption) (by first | rfl | exact Nat.le_of_ble_eq_true rfl | simp)) ?_
  rintro _ H2004 ⟨rfl, st2004, at2004⟩
  have nx_H2004 := st2004.nx
  replace hle := hle.st st2004 (fun k hk => ⟨by omega, trivial⟩)
  have ne_g1_g3 : g1 ≠ g3 := by omega
  replace at1 := st2004.same _ _ ⟨ne_g1_g3, trivial⟩ at1
  have ne_g2_g3 : g2 ≠ g3 := by omega
  replace at2 := st2004.same _ _ ⟨ne_g2_g3, trivial⟩ at2
  replace lv_v6 := Keep.st lv_v6 st2004 (fun k hb hk => ⟨by omega, trivial⟩)
  replace v6 := bs_v6.keep lv_v6 (Nat.le_refl _)
  have lt_at2004 := GHeap.lt_of_get at2004
  replace hin := base_hin.mono hle
  clear hb1 fsh1 c51 c61 i11 i21 hm1 hi1 hmsh1 hish1
  have hb1 : SFun.At _ g1 0 c p := ⟨Mem.of_get at1, hin⟩
  obtain ⟨fsh1, c51, c61, i11, i21⟩ := hb1.get
  have hm1 : MemN _ _ _ _ _ := ⟨rfl, hb1.1⟩
  have hi1 := hb1.2
  have hmsh1 : MemN _ _ _ _ _ := ⟨rfl, fsh1.1⟩
  have hish1 := fsh1.2
  clear i6
  have i6 := v6.inn
  refine .nil ?_
  refine hK3 _ _ ?_
  refine .seq (fun K4 hK4 => ?_)
  refine .region (.m rfl rfl rfl (.fieldAddr fo_57_1_VSFun rfl) ?_)
  refine .m rfl rfl rfl (.load on_22_B rfl (by first | assumption | exact Mem.of_get at1 5 _ rfl)) ?_
  refine .call rfl rfl rfl rfl @Try.call48 rfl (toInt64S_c) ?_
  rintro _ H10 ⟨le10, g10, rfl, at10, ge10⟩
  have nx_H10 := le10.1
  replace hle := hle.trans le10
  replace at1 := le10.2 _ _ at1
  replace at2 := le10.2 _ _ at2
  replace at2004 := le10.2 _ _ at2004
  replace lv_v6 := Keep.le lv_v6 le10
  replace v6 := bs_v6.keep lv_v6 (Nat.le_refl _)
  have lt_at10 := GHeap.lt_of_get at10
  replace hin := base_hin.mono hle
  clear hb1 fsh1 c51 c61 i11 i21 hm1 hi1 hmsh1 hish1
  have hb1 : SFun.At _ g1 0 c p := ⟨Mem.of_get at1, hin⟩
  obtain ⟨fsh1, c51, c61, i11, i21⟩ := hb1.get
  have hm1 : MemN _ _ _ _ _ := ⟨rfl, hb1.1⟩
  have hi1 := hb1.2
  have hmsh1 : MemN _ _ _ _ _ := ⟨rfl, fsh1.1⟩
  have hish1 := fsh1.2
  clear i6
  have i6 := v6.inn
  have i10 := Ints.of_get at10
  refine .m rfl rfl rfl (.fieldAddr fo_65_1_VSFun rfl) ?_
  refine .r0 rfl rfl (.storeR rfl sz_22_E rfl rfl rfl (by assumption) (by first | exact Nat.le_of_ble_eq_true rfl | (simp; done) | (simp <;> omega))) ?_
  rintro _ H3004 ⟨rfl, st3004, at3004⟩
  have nx_H3004 := st3004.nx
  replace hle := hle.st st3004 (fun k hk => ⟨by omega, trivial⟩)
  replace at1 := st3004.same _ _ ⟨ne_g1_g3, trivial⟩ at1
  replace at2 := st3004.same _ _ ⟨ne_g2_g3, trivial⟩ at2
  have ne_g10_g3 : g10 ≠ g3 := by omega
  replace at10 := st3004.same _ _ ⟨ne_g10_g3, trivial⟩ at10
  replace lv_v6 := Keep.st lv_v6 st3004 (fun k hb hk => ⟨by omega, trivial⟩)
  replace v6 := bs_v6.keep lv_v6 (Nat.le_refl _)
  have lt_at3004 := GHeap.lt_of_get at3004
  replace hin := base_hin.mono hle
  clear hb1 fsh1 c51 c61 i11 i21 hm1 hi1 hmsh1 hish1
  have hb1 : SFun.At _ g1 0 c p := ⟨Mem.of_get at1, hin⟩
  obtain ⟨fsh1, c51, c61, i11, i21⟩ := hb1.get
  have hm1 : MemN _ _ _ _ _ := ⟨rfl, hb1.1⟩
  have hi1 := hb1.2
  have hmsh1 : MemN _ _ _ _ _ := ⟨rfl, fsh1.1⟩
  have hish1 := fsh1.2
  clear i6
  have i6 := v6.inn
  clear i10
  have i10 := Ints.of_get at10
  try simp only [Nat.zero_add, List.set_cons_succ, List.set_cons_zero] at at3004
  refine .nil ?_
  refine hK4 _ _ ?_
  refine .seq (fun K5 hK5 => ?_)
  refine .region (.m rfl rfl rfl (.fieldAddr fo_57_2_VSFun rfl) ?_)
  refine .m rfl rfl rfl (.load on_23_B rfl (by first | assumption | exact Mem.of_get at1 6 _ rfl)) ?_
  refine .call rfl rfl rfl rfl @Try.call49 rfl (toInt64SS_c) ?_
  rintro _ H14 ⟨le14, a14, r14, rfl, v14⟩
  have nx_H14 := le14.1
  replace hle := hle.trans le14
  replace at1 := le14.2 _ _ at1
  replace at2 := le14.2 _ _ at2
  replace at10 := le14.2 _ _ at10
  replace at3004 := le14.2 _ _ at3004
  replace lv_v6 := Keep.le lv_v6 le14
  replace v6 := bs_v6.keep lv_v6 (Nat.le_refl _)
  have bs_v14 := v14
  have lv_v14 : Keep H3004.next H14 H14 := fun _ _ _ h => h
  replace hin := base_hin.mono hle
  clear hb1 fsh1 c51 c61 i11 i21 hm1 hi1 hmsh1 hish1
  have hb1 : SFun.At _ g1 0 c p := ⟨Mem.of_get at1, hin⟩
  obtain ⟨fsh1, c51, c61, i11, i21⟩ := hb1.get
  have hm1 : MemN _ _ _ _ _ := ⟨rfl, hb1.1⟩
  have hi1 := hb1.2
  have hmsh1 : MemN _ _ _ _ _ := ⟨rfl, fsh1.1⟩
  have hish1 := fsh1.2
  clear i6
  have i6 := v6.inn
  clear i10
  have i10 := Ints.of_get at10
  have i14 := v14.intss
  refine .m rfl rfl rfl (.fieldAddr fo_65_2_VSFun rfl) ?_
  refine .r0 rfl rfl (.storeR rfl sz_23_E rfl rfl rfl (by assumption) (by first | exact Nat.le_of_ble_eq_true rfl | (simp; done) | (simp <;> omega))) ?_
  rintro _ H4004 ⟨rfl, st4004, at4004⟩
  have nx_H4004 := st4004.nx
  replace hle := hle.st st4004 (fun k hk => ⟨by omega, trivial⟩)
  replace at1 := st4004.same _ _ ⟨ne_g1_g3, trivial⟩ at1
  replace at2 := st4004.same _ _ ⟨ne_g2_g3, trivial⟩ at2
  replace at10 := st4004.same _ _ ⟨ne_g10_g3, trivial⟩ at10
  replace lv_v6 := Keep.st lv_v6 st4004 (fun k hb hk => ⟨by omega, trivial⟩)
  replace v6 := bs_v6.keep lv_v6 (Nat.le_refl _)
  replace lv_v14 := Keep.st lv_v14 st4004 (fun k hb hk => ⟨by omega, trivial⟩)
  replace v14 := bs_v14.keep lv_v14 (Nat.le_refl _)
  have lt_at4004 := GHeap.lt_of_get at4004
  replace hin := base_hin.mono hle
  clear hb1 fsh1 c51 c61 i11 i21 hm1 hi1 hmsh1 hish1
  have hb1 : SFun.At _ g1 0 c p := ⟨Mem.of_get at1, hin⟩
  obtain ⟨fsh1, c51, c61, i11, i21⟩ := hb1.get
  have hm1 : MemN _ _ _ _ _ := ⟨rfl, hb1.1⟩
  have hi1 := hb1.2
  have hmsh1 : MemN _ _ _ _ _ := ⟨rfl, fsh1.1⟩
  have hish1 := fsh1.2
  clear i6
  have i6 := v6.inn
  clear i10
  have i10 := Ints.of_get at10
  clear i14
  have i14 := v14.intss
  try simp only [Nat.zero_add, List.set_cons_succ, List.set_cons_zero] at at4004
  refine .nil ?_
  refine hK5 _ _ ?_
  refine .seq (fun K6 hK6 => ?_)
  refine .region ?_
  refine .m rfl rfl rfl (.loadM ag_65_VSFun rfl ⟨rfl, Mem.of_get at4004⟩) ?_
  refine .r0 rfl rfl (.fillR rfl sz_65_VSFun rfl rfl rfl rfl (by assumption) (by first | rfl | exact Nat.le_of_ble_eq_true rfl | simp)) ?_
  rintro _ H5001 ⟨rfl, st5001, at5001⟩
  have nx_H5001 := st5001.nx
  replace hle := hle.st st5001 (fun k hk => ⟨by omega, trivial⟩)
  have ne_g1_g2 : g1 ≠ g2 := by omega
  replace at1 := st5001.same _ _ ⟨ne_g1_g2, trivial⟩ at1
  have ne_g10_g2 : g10 ≠ g2 := by omega
  replace at10 := st5001.same _ _ ⟨ne_g10_g2, trivial⟩ at10
  replace at4004 := st5001.same _ _ ⟨(Ne.symm ne_g2_g3), trivial⟩ at4004
  replace lv_v6 := Keep.st lv_v6 st5001 (fun k hb hk => ⟨by omega, trivial⟩)
  replace v6 := bs_v6.keep lv_v6 (Nat.le_refl _)
  replace lv_v14 := Keep.st lv_v14 st5001 (fun k hb hk => ⟨by omega, trivial⟩)
  replace v14 := bs_v14.keep lv_v14 (Nat.le_refl _)
  have lt_at5001 := GHeap.lt_of_get at5001
  replace hin := base_hin.mono hle
  clear hb1 fsh1 c51 c61 i11 i21 hm1 hi1 hmsh1 hish1
  have hb1 : SFun.At _ g1 0 c p := ⟨Mem.of_get at1, hin⟩
  obtain ⟨fsh1, c51, c61, i11, i21⟩ := hb1.get
  have hm1 : MemN _ _ _ _ _ := ⟨rfl, hb1.1⟩
  have hi1 := hb1.2
  have hmsh1 : MemN _ _ _ _ _ := ⟨rfl, fsh1.1⟩
  have hish1 := fsh1.2
  clear i6
  have i6 := v6.inn
  clear i10
  have i10 := Ints.of_get at10
  clear i14
  have i14 := v14.intss
  have mm5001 : MemN _ _ _ _ _ := ⟨rfl, Mem.of_get at5001⟩
  refine .nil ?_
  refine hK6 _ _ ?_
  refine .ret ?_
  refine hret _ _ ?_
  refine ⟨_, _, _, _, rfl, ag_65_VSFun, (by rfl), (Mem.of_get at5001), ?_⟩
  exact ⟨hle, ⟨p6, some ⟨g10, 0, none⟩, a14, r14⟩, rfl, ⟨v6.keep (.of_le (.refl _)) (by omega), ⟨g10, _, rfl, by omega, at10⟩, v14.keep (.of_le (.refl _)) (by omega)⟩⟩
set_option maxHeartbeats 4000000 in
theorem eqSetFunctor_c {c : SFun} {p p' : SFunP} {H : GHeap} (hin : c.In H p := by assumption) (hin' : c.In H p' := by assumption) (hs : c.Small := by assumption) : GCalls Try.prog 39 [.agg (c.cells p).toArray, .agg (c.cells p').toArray] H (Ret (.bool true) H) := by
  refine GCalls.ret rfl ?_
  obtain ⟨w0, w1, ⟨wa2, wb2⟩⟩ := hs
  refine GCalls.body (N := 23) (rs := [.tmp 4]) Try.func39 rfl rfl rfl rfl (fun Qx hret hend => ?_)
  refine .forget (fr' := [(0, some _), (1, some _)]) ⟨rfl, rfl, trivial⟩ ?_
  have hle := GHeap.Le.refl H
  have base_hin := hin
  have base_hin' := hin'
  refine .seq (fun K1 hK1 => ?_)
  refine .region ?_
  refine .r rfl rfl rfl (.boxR rfl sz_65_VSFun rfl) ?_
  rintro _ H2 ⟨g2, rfl, le2, ge2, at2⟩
  have nx_H2 := le2.1
  replace hle := hle.trans le2
  have lt_at2 := GHeap.lt_of_get at2
  replace hin := base_hin.mono hle
  replace hin' := base_hin'.mono hle
  have hb2 : SFun.At _ g2 0 c p := ⟨Mem.of_get at2, hin⟩
  obtain ⟨fsh2, c52, c62, i12, i22⟩ := hb2.get
  have hm2 : MemN _ _ _ _ _ := ⟨rfl, hb2.1⟩
  have hi2 := hb2.2
  have hmsh2 : MemN _ _ _ _ _ := ⟨rfl, fsh2.1⟩
  have hish2 := fsh2.2
  refine .r rfl rfl rfl (.boxR rfl sz_65_VSFun rfl) ?_
  rintro _ H3 ⟨g3, rfl, le3, ge3, at3⟩
  have nx_H3 := le3.1
  replace hle := hle.trans le3
  replace at2 := le3.2 _ _ at2
  have lt_at3 := GHeap.lt_of_get at3
  replace hin := base_hin.mono hle
  replace hin' := base_hin'.mono hle
  clear hb2 fsh2 c52 c62 i12 i22 hm2 hi2 hmsh2 hish2
  have hb2 : SFun.At _ g2 0 c p := ⟨Mem.of_get at2, hin⟩
  obtain ⟨fsh2, c52, c62, i12, i22⟩ := hb2.get
  have hm2 : MemN _ _ _ _ _ := ⟨rfl, hb2.1⟩
  have hi2 := hb2.2
  have hmsh2 : MemN _ _ _ _ _ := ⟨rfl, fsh2.1⟩
  have hish2 := fsh2.2
  have hb3 : SFun.At _ g3 0 c p' := ⟨Mem.of_get at3, hin'⟩
  obtain ⟨fsh3, c53, c63, i13, i23⟩ := hb3.get
  have hm3 : MemN _ _ _ _ _ := ⟨rfl, hb3.1⟩
  have hi3 := hb3.2
  have hmsh3 : MemN _ _ _ _ _ := ⟨rfl, fsh3.1⟩
  have hish3 := fsh3.2
  refine .m rfl rfl rfl (.assign rfl) (.nil ?_)
  refine hK1 _ _ ?_
  refine .seq (fun K2 hK2 => ?_)
  refine .seq (fun K3 hK3 => ?_)
  refine .region (.m rfl rfl rfl (.fieldAddr fo_65_0_VSFun rfl) ?_)
  refine .m rfl rfl rfl (.loadM ag_27_D rfl (by assumption)) ?_
  refine .m rfl rfl rfl (.fieldAddr fo_65_0_VSFun rfl) ?_
  refine .m rfl rfl rfl (.loadM ag_27_D rfl (by assumption)) ?_
  refine .callQ rfl rfl rfl rfl @Try.call13 rfl (eqCategory_c) ?_
  refine .m rfl rfl rfl (.not rfl) (.nil ?_)
  refine hK3 _ _ ?_
  refine .cond rfl (fun h10 => ?_) (fun h10 => ?_)
  ·
   try simp only [sps] at h10
   refine .seq (fun K4 hK4 => ?_)
   refine .region (.m rfl rfl rfl (.assign rfl) (.nil ?_))
   refine hK4 _ _ ?_
   refine .ret ?_
   refine hret _ _ ?_
   refine ⟨_, rfl, ?_⟩
   first
   | exact ⟨rfl, hle⟩
   | exact absurd trivial (by assumption)
   | contradiction
   | (exfalso; omega)
   | (exfalso; simp_all)
  try simp only [sps] at h10
  refine .skip ?_
  refine hK2 _ _ ?_
  refine .seq (fun K5 hK5 => ?_)
  refine .seq (fun K6 hK6 => ?_)
  refine .region (.m rfl rfl rfl (.fieldAddr fo_65_1_VSFun rfl) ?_)
  refine .m rfl rfl rfl (.load on_22_B rfl (by first | assumption | exact Mem.of_get at2 5 _ rfl)) ?_
  refine .m rfl rfl rfl (.fieldAddr fo_65_1_VSFun rfl) ?_
  refine .m rfl rfl rfl (.load on_22_B rfl (by first | assumption | exact Mem.of_get at3 5 _ rfl)) ?_
  refine .callQ rfl rfl rfl rfl @Try.call29 rfl (eqInt64S_c) ?_
  refine .m rfl rfl rfl (.not rfl) (.nil ?_)
  refine hK6 _ _ ?_
  refine .cond rfl (fun h16 => ?_) (fun h16 => ?_)
  ·
   try simp only [sps] at h16
   refine .seq (fun K7 hK7 => ?_)
   refine .region (.m rfl rfl rfl (.assign rfl) (.nil ?_))
   refine hK7 _ _ ?_
   refine .ret ?_
   refine hret _ _ ?_
   refine ⟨_, rfl, ?_⟩
   first
   | exact ⟨rfl, hle⟩
   | exact absurd trivial (by assumption)
   | contradiction
   | (exfalso; omega)
   | (exfalso; simp_all)
  try simp only [sps] at h16
  refine .skip ?_
  refine hK5 _ _ ?_
  refine .seq (fun K8 hK8 => ?_)
  refine .seq (fun K9 hK9 => ?_)
  refine .region (.m rfl rfl rfl (.fieldAddr fo_65_2_VSFun rfl) ?_)
  refine .m rfl rfl rfl (.load on_23_B rfl (by first | assumption | exact Mem.of_get at2 6 _ rfl)) ?_
  refine .m rfl rfl rfl (.fieldAddr fo_65_2_VSFun rfl) ?_
  refine .m rfl rfl rfl (.load on_23_B rfl (by first | assumption | exact Mem.of_get at3 6 _ rfl)) ?_
  refine .callQ rfl rfl rfl rfl @Try.call24 rfl (eqInt64SS_c) ?_
  refine .m rfl rfl rfl (.not rfl) (.nil ?_)
  refine hK9 _ _ ?_
  refine .cond rfl (fun h22 => ?_) (fun h22 => ?_)
  ·
   try simp only [sps] at h22
   refine .seq (fun K10 hK10 => ?_)
   refine .region (.m rfl rfl rfl (.assign rfl) (.nil ?_))
   refine hK10 _ _ ?_
   refine .ret ?_
   refine hret _ _ ?_
   refine ⟨_, rfl, ?_⟩
   first
   | exact ⟨rfl, hle⟩
   | exact absurd trivial (by assumption)
   | contradiction
   | (exfalso; omega)
   | (exfalso; simp_all)
  try simp only [sps] at h22
  refine .skip ?_
  refine hK8 _ _ ?_
  refine .seq (fun K11 hK11 => ?_)
  refine .region (.m rfl rfl rfl (.assign rfl) (.nil ?_))
  refine hK11 _ _ ?_
  refine .ret ?_
  refine hret _ _ ?_
  refine ⟨_, rfl, ?_⟩
  first
  | exact ⟨rfl, hle⟩
  | exact absurd trivial (by assumption)
  | contradiction
  | (exfalso; omega)
  | (exfalso; simp_all)
end Go.Proofs.Ytgnfekfdmgnhcaa
/- The laws' helpers for SetMap. No condition but those of each statement. -/
namespace Go.Proofs.Ytgnfekfdmgnhcaa
open Go Go.GL Go.RowKit Go.Proofs
end Go.Proofs.Ytgnfekfdmgnhcaa
