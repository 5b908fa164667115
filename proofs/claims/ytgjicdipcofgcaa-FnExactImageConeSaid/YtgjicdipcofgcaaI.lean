/- Functors and transformations, in the reference. No condition but those of each statement. -/
import Derived.Test.YtgjicdipcofgcaaH
namespace Go.Proofs.Ytgjicdipcofgcaa
open Go Go.GL Go.RowKit Go.Proofs
theorem l06Is_c {f : Fun} {p : FunP} {H : GHeap} (hin : f.In H p := by assumption) (hsm : f.Small := by assumption) : GCalls Try.prog 17 [.agg (f.cells p).toArray] H (Ret (.bool (B f.Is)) H) := by
  refine GCalls.ret rfl ?_
  obtain ⟨m1, m2, m3, m4⟩ := hsm
  have m1' := m1
  have m2' := m2
  obtain ⟨n1, n2, n3, n4, n5, n6⟩ := m1'
  obtain ⟨k1, k2, k3, k4, k5, k6⟩ := m2'
  refine GCalls.body (N := 181) (rs := [.tmp 2]) Try.func17 rfl rfl rfl rfl (fun Qx hret hend => ?_)
  refine .forget (fr' := [(0, some _)]) ⟨rfl, trivial⟩ ?_
  refine .seq (fun K1 hK1 => ?_)
  refine .region ?_
  refine .d rfl rfl rfl (.box rfl sz_37_E rfl CIs.mk) ?_
  show GRun _ _ _ _ _ _ (H.push (.row (f.cells p) 37 true))
  have hle := GHeap.le_push H (.row (f.cells p) 37 true)
  have hb : Fun.At (H.push (.row (f.cells p) 37 true)) H.next 0 f p := ⟨Mem.new _ _ _ _, hin.mono hle⟩
  generalize H.push (.row (f.cells p) 37 true) = H1 at *
  generalize H.next = g at *
  obtain ⟨fs, ft, c10, c11, j1, j2⟩ := hb.get
  have hm : MemN _ _ _ _ _ := ⟨rfl, hb.1⟩
  have hin1 := hb.2
  have hms : MemN _ _ _ _ _ := ⟨rfl, fs.1⟩
  have hins1 := fs.2
  have hmt : MemN _ _ _ _ _ := ⟨rfl, ft.1⟩
  have hint1 := ft.2
  refine .m rfl rfl rfl (.assign rfl) ?_
  refine .nil ?_
  refine hK1 _ _ ?_
  refine .seq (fun K2 hK2 => ?_)
  refine .regionD mixed_orders_B (.q 0 (.q 1 (.q 2 (.q 3 (.or (.c 4 1 (.c 5 1 (.c 6 1 (.c 7 0 .done)))) (.c 5 1 (.c 4 1 (.c 6 1 (.c 7 0 .done))))))))) (by kernel_rfl) ?_
  refine .m rfl rfl rfl rfl (.refl _) (.fieldAddr fo_37_0_E rfl) ?_
  refine .m rfl rfl rfl rfl (.refl _) (.loadM ag_35_D rfl (by assumption)) ?_
  refine .m rfl rfl rfl rfl (.refl _) (.fieldAddr fo_37_1_E rfl) ?_
  refine .m rfl rfl rfl rfl (.refl _) (.loadM ag_35_D rfl (by assumption)) ?_
  refine .two [(1, some _), (2, some _)] rfl rfl rfl rfl rfl rfl rfl rfl rfl rfl rfl rfl rfl rfl rfl rfl rfl rfl ze_35_E rfl sz_35_D rfl rfl rfl rfl rfl (by rfl) (by rfl) rfl rfl rfl rfl rfl ⟨rfl, rfl, trivial⟩ rfl rfl (.refl _) ?_
  intro g3 g4 H2 fr2 hle2 hga hgb hg3 hg4 hsub
  replace hle := hle.trans hle2
  obtain ⟨fs, ft, c10, c11, j1, j2⟩ := (hb.mono hle2).get
  have k3 : Cat.At H2 g3 0 f.s p.s := ⟨Mem.of_get hg3, fs.2⟩
  have k4 : Cat.At H2 g4 0 f.t p.t := ⟨Mem.of_get hg4, ft.2⟩
  have hm3 : MemN _ _ _ _ _ := ⟨rfl, k3.1⟩
  have hm4 : MemN _ _ _ _ _ := ⟨rfl, k4.1⟩
  have im3 := k3.2
  have im4 := k4.2
  obtain ⟨c0, c1, c2, c3, c4, i1, i2, i3, i4⟩ := k3.get
  obtain ⟨x0, x1, x2, x3, x4, y1, y2, y3, y4⟩ := k4.get
  refine hK2 _ _ ?_
  refine .forget hsub ?_
  refine .seq (fun K3 hK3 => ?_)
  refine .seq (fun K4 hK4 => ?_)
  refine .region ?_
  refine .m rfl rfl rfl (.loadM ag_35_D rfl (by assumption)) ?_
  refine .callQ rfl rfl rfl rfl @Try.call33 rfl (l02Is_c) ?_
  refine .m rfl rfl rfl (.not rfl) ?_
  refine .m rfl rfl rfl (.move rfl) ?_
  refine .split (fun h16 => ?_) (fun h16 => ?_)
  ·
   try simp only [sps] at h16
   refine .sg rfl rfl rfl rfl rfl ?_
   refine .sg rfl rfl rfl rfl rfl ?_
   refine .sg rfl rfl rfl rfl rfl ?_
   refine .m rfl rfl rfl (.pickT rfl rfl) ?_
   refine .m rfl rfl rfl (.move rfl) ?_
   refine .sg rfl rfl rfl rfl rfl ?_
   refine .sg rfl rfl rfl rfl rfl ?_
   refine .sg rfl rfl rfl rfl rfl ?_
   refine .sg rfl rfl rfl rfl rfl ?_
   refine .sg rfl rfl rfl rfl rfl ?_
   refine .sg rfl rfl rfl rfl rfl ?_
   refine .m rfl rfl rfl (.pickT rfl rfl) ?_
   refine .m rfl rfl rfl (.move rfl) ?_
   refine .sg rfl rfl rfl rfl rfl ?_
   refine .sg rfl rfl rfl rfl rfl ?_
   refine .sg rfl rfl rfl rfl rfl ?_
   refine .sg rfl rfl rfl rfl rfl ?_
   refine .sg rfl rfl rfl rfl rfl ?_
   refine .sg rfl rfl rfl rfl rfl ?_
   refine .sg rfl rfl rfl rfl rfl ?_
   refine .m rfl rfl rfl (.pickT rfl rfl) ?_
   refine .nil ?_
   refine hK4 _ _ ?_
   refine .condT rfl ?_
   refine .seq (fun K5 hK5 => ?_)
   refine .region ?_
   refine .m rfl rfl rfl (.assign rfl) ?_
   refine .nil ?_
   refine hK5 _ _ ?_
   refine .ret ?_
   -- leaf e1
   refine hret _ _ ?_
   refine ⟨_, rfl, ?_⟩
   exact ⟨congrArg _ (B_false fun hI => h16 hI.1), hle⟩
  ·
   try simp only [sps] at h16
   refine .mg rfl rfl rfl rfl rfl (.loadM ag_35_D rfl (by assumption)) ?_
   refine .callQg rfl rfl rfl rfl rfl rfl @Try.call33 rfl (l02Is_c) ?_
   refine .mg rfl rfl rfl rfl rfl (.not rfl) ?_
   refine .m rfl rfl rfl (.pickF rfl rfl) ?_
   refine .m rfl rfl rfl (.move rfl) ?_
   refine .split (fun h21 => ?_) (fun h21 => ?_)
   ·
    try simp only [sps] at h21
    refine .sg rfl rfl rfl rfl rfl ?_
    refine .sg rfl rfl rfl rfl rfl ?_
    refine .sg rfl rfl rfl rfl rfl ?_
    refine .sg rfl rfl rfl rfl rfl ?_
    refine .sg rfl rfl rfl rfl rfl ?_
    refine .sg rfl rfl rfl rfl rfl ?_
    refine .m rfl rfl rfl (.pickT rfl rfl) ?_
    refine .m rfl rfl rfl (.move rfl) ?_
    refine .sg rfl rfl rfl rfl rfl ?_
    refine .sg rfl rfl rfl rfl rfl ?_
    refine .sg rfl rfl rfl rfl rfl ?_
    refine .sg rfl rfl rfl rfl rfl ?_
    refine .sg rfl rfl rfl rfl rfl ?_
    refine .sg rfl rfl rfl rfl rfl ?_
    refine .sg rfl rfl rfl rfl rfl ?_
    refine .m rfl rfl rfl (.pickT rfl rfl) ?_
    refine .nil ?_
    refine hK4 _ _ ?_
    refine .condT rfl ?_
    refine .seq (fun K6 hK6 => ?_)
    refine .region ?_
    refine .m rfl rfl rfl (.assign rfl) ?_
    refine .nil ?_
    refine hK6 _ _ ?_
    refine .ret ?_
    -- leaf e2
    refine hret _ _ ?_
    refine ⟨_, rfl, ?_⟩
    exact ⟨congrArg _ (B_false fun hI => h21 hI.2.1), hle⟩
   ·
    simp only [B_iff, Bool.not_eq_false', Bool.not_eq_true'] at h21
    have hS := h16.1
    have hT := h21.1
    have qs1 := hS.tl
    have qs2 := hS.n40
    have qs3 := hS.il
    have qs4 := hS.obj
    have qs5 := hS.cl
    have qt1 := hT.tl
    have qt2 := hT.n40
    have qt3 := hT.il
    have qt4 := hT.obj
    have qt5 := hT.cl
    refine .mg rfl rfl rfl rfl rfl (.fieldAddr fo_37_2_E rfl) ?_
    refine .mg rfl rfl rfl rfl rfl (.load on_22_B rfl (by assumption)) ?_
    refine .mg rfl rfl rfl rfl rfl (.len sl_22_A rfl) ?_
    refine .mg rfl rfl rfl rfl rfl (.fieldAddr fo_35_0_B rfl) ?_
    refine .mg rfl rfl rfl rfl rfl (.load on_2_A rfl (by assumption)) ?_
    refine .mg rfl rfl rfl rfl rfl (.cmp rfl rfl rfl) ?_
    refine .m rfl rfl rfl (.pickF rfl rfl) ?_
    refine .m rfl rfl rfl (.move rfl) ?_
    refine .split (fun h29 => ?_) (fun h29 => ?_)
    ·
     try simp only [sps] at h29
     refine .sg rfl rfl rfl rfl rfl ?_
     refine .sg rfl rfl rfl rfl rfl ?_
     refine .sg rfl rfl rfl rfl rfl ?_
     refine .sg rfl rfl rfl rfl rfl ?_
     refine .sg rfl rfl rfl rfl rfl ?_
     refine .sg rfl rfl rfl rfl rfl ?_
     refine .sg rfl rfl rfl rfl rfl ?_
     refine .m rfl rfl rfl (.pickT rfl rfl) ?_
     refine .nil ?_
     refine hK4 _ _ ?_
     refine .condT rfl ?_
     refine .seq (fun K7 hK7 => ?_)
     refine .region ?_
     refine .m rfl rfl rfl (.assign rfl) ?_
     refine .nil ?_
     refine hK7 _ _ ?_
     refine .ret ?_
     -- leaf e3
     refine hret _ _ ?_
     refine ⟨_, rfl, ?_⟩
     exact ⟨congrArg _ (B_false fun hI => by have := hI.2.2.ol; omega), hle⟩
    ·
     try simp only [sps] at h29
     refine .mg rfl rfl rfl rfl rfl (.fieldAddr fo_37_3_E rfl) ?_
     refine .mg rfl rfl rfl rfl rfl (.load on_22_B rfl (by assumption)) ?_
     refine .mg rfl rfl rfl rfl rfl (.len sl_22_A rfl) ?_
     refine .mg rfl rfl rfl rfl rfl (.fieldAddr fo_35_1_B rfl) ?_
     refine .mg rfl rfl rfl rfl rfl (.load on_22_B rfl (by assumption)) ?_
     refine .mg rfl rfl rfl rfl rfl (.len sl_22_A rfl) ?_
     refine .mg rfl rfl rfl rfl rfl (.cmp rfl rfl rfl) ?_
     refine .m rfl rfl rfl (.pickF rfl rfl) ?_
     refine .nil ?_
     refine hK4 _ _ ?_
     refine .cond rfl (fun h37 => ?_) (fun h37 => ?_)
     ·
      try simp only [sps] at h37
      refine .seq (fun K8 hK8 => ?_)
      refine .region ?_
      refine .m rfl rfl rfl (.assign rfl) ?_
      refine .nil ?_
      refine hK8 _ _ ?_
      refine .ret ?_
      -- leaf e4
      refine hret _ _ ?_
      refine ⟨_, rfl, ?_⟩
      exact ⟨congrArg _ (B_false fun hI => by have := hI.2.2.al; omega), hle⟩
     ·
      try simp only [sps] at h37
      refine .skip ?_
      refine hK3 _ _ ?_
      refine .seq (fun K9 hK9 => ?_)
      refine .seq (fun K10 hK10 => ?_)
      refine .region ?_
      refine .m rfl rfl rfl (.fieldAddr fo_35_0_B rfl) ?_
      refine .m rfl rfl rfl (.load on_2_A rfl (by assumption)) ?_
      refine .m rfl rfl rfl (.fieldAddr fo_37_2_E rfl) ?_
      refine .m rfl rfl rfl (.load on_22_B rfl (by assumption)) ?_
      refine .callQ rfl rfl rfl rfl @Try.call34 rfl (l01Map_c) ?_
      refine .m rfl rfl rfl (.not rfl) ?_
      refine .m rfl rfl rfl (.move rfl) ?_
      refine .split (fun h44 => ?_) (fun h44 => ?_)
      ·
       try simp only [sps] at h44
       refine .sg rfl rfl rfl rfl rfl ?_
       refine .sg rfl rfl rfl rfl rfl ?_
       refine .sg rfl rfl rfl rfl rfl ?_
       refine .sg rfl rfl rfl rfl rfl ?_
       refine .sg rfl rfl rfl rfl rfl ?_
       refine .sg rfl rfl rfl rfl rfl ?_
       refine .sg rfl rfl rfl rfl rfl ?_
       refine .m rfl rfl rfl (.pickT rfl rfl) ?_
       refine .nil ?_
       refine hK10 _ _ ?_
       refine .condT rfl ?_
       refine .seq (fun K11 hK11 => ?_)
       refine .region ?_
       refine .m rfl rfl rfl (.assign rfl) ?_
       refine .nil ?_
       refine hK11 _ _ ?_
       refine .ret ?_
       -- leaf e5
       refine hret _ _ ?_
       refine ⟨_, rfl, ?_⟩
       exact ⟨congrArg _ (B_false fun hI => by rw [allIn_iff.2 hI.2.2.ob] at h44; cases h44), hle⟩
      ·
       try simp only [sps] at h44
       refine .mg rfl rfl rfl rfl rfl (.fieldAddr fo_35_1_B rfl) ?_
       refine .mg rfl rfl rfl rfl rfl (.load on_22_B rfl (by assumption)) ?_
       refine .mg rfl rfl rfl rfl rfl (.len sl_22_A rfl) ?_
       refine .mg rfl rfl rfl rfl rfl (.fieldAddr fo_37_3_E rfl) ?_
       refine .mg rfl rfl rfl rfl rfl (.load on_22_B rfl (by assumption)) ?_
       refine .callQg rfl rfl rfl rfl rfl rfl @Try.call34 rfl (l01Map_c) ?_
       refine .mg rfl rfl rfl rfl rfl (.not rfl) ?_
       refine .m rfl rfl rfl (.pickF rfl rfl) ?_
       refine .nil ?_
       refine hK10 _ _ ?_
       refine .cond rfl (fun h52 => ?_) (fun h52 => ?_)
       ·
        try simp only [sps] at h52
        refine .seq (fun K12 hK12 => ?_)
        refine .region ?_
        refine .m rfl rfl rfl (.assign rfl) ?_
        refine .nil ?_
        refine hK12 _ _ ?_
        refine .ret ?_
        -- leaf e6
        refine hret _ _ ?_
        refine ⟨_, rfl, ?_⟩
        exact ⟨congrArg _ (B_false fun hI => by rw [allIn_iff.2 hI.2.2.ar] at h52; cases h52), hle⟩
       ·
        try simp only [sps] at h52
        refine .skip ?_
        refine hK9 _ _ ?_
        refine .seq (fun K13 hK13 => ?_)
        refine .seq (fun K14 hK14 => ?_)
        refine .region ?_
        refine .m rfl rfl rfl (.assign rfl) ?_
        refine .nil ?_
        refine hK14 _ _ ?_
        refine .block ?_
        refine .loopR (σ := Nat) [(1, some _), (3, some _), (4, some _)] (fun k => [(5, some (.int .i64 (k : Int)))]) (fun k H' => H2 = H' ∧ k ≤ f.s.src.length ∧ ∀ a, a < k → f.t.src.getD (f.ar.getD a 0).toNat 0 = f.ob.getD (f.s.src.getD a 0).toNat 0 ∧ f.t.tgt.getD (f.ar.getD a 0).toNat 0 = f.ob.getD (f.s.tgt.getD a 0).toNat 0) (fun k => f.s.src.length - k) (0) ⟨rfl, rfl, rfl, trivial⟩ ⟨rfl, trivial⟩ ?_ ?_
        ·
         refine ⟨rfl, ?_⟩
         exact ⟨by omega, fun x hx => by omega⟩
        ·
         rintro k _ ⟨rfl, hI⟩ KL1 hKL1
         refine .forget (fr' := [(5, some (.int .i64 (k : Int))), (1, some _), (3, some _), (4, some _)]) ⟨rfl, rfl, rfl, rfl, trivial⟩ ?_
         obtain ⟨hk1, ha1⟩ := hI
         refine .seq (fun K15 hK15 => ?_)
         refine .seq (fun K16 hK16 => ?_)
         refine .region ?_
         refine .m rfl rfl rfl (.move rfl) ?_
         refine .m rfl rfl rfl (.fieldAddr fo_35_1_B rfl) ?_
         refine .m rfl rfl rfl (.load on_22_B rfl (by assumption)) ?_
         refine .m rfl rfl rfl (.len sl_22_A rfl) ?_
         refine .m rfl rfl rfl (.cmp rfl rfl rfl) ?_
         refine .nil ?_
         refine hK16 _ _ ?_
         refine .cond rfl (fun h57 => ?_) (fun h57 => ?_)
         ·
          try simp only [sps] at h57
          refine .skip ?_
          refine hK15 _ _ ?_
          refine .seq (fun K17 hK17 => ?_)
          refine .block ?_
          refine .seq (fun K18 hK18 => ?_)
          refine .regionD mixed_orders_B (.q 0 (.q 1 (.q 2 (.q 3 (.q 4 (.q 5 (.q 6 (.q 7 (.q 8 (.q 9 (.q 10 (.q 11 (.q 12 (.q 13 (.q 14 (.q 15 (.q 16 (.q 17 (.q 18 (.q 19 (.q 20 (.q 21 (.q 22 (.q 23 (.q 24 (.q 25 (.q 26 (.q 27 (.q 28 (.q 29 (.q 30 (.q 31 (.q 32 (.q 33 (.q 34 (.q 35 (.q 36 (.q 37 (.q 38 (.q 39 (.done))))))))))))))))))))))))))))))))))))))))) (by kernel_rfl) ?_
          have q1 := h52 k (by omega)
          have q2 := hS.src k (by omega)
          have q3 := hS.tgt k (by omega)
          refine .m rfl rfl rfl rfl (.refl _) (.fieldAddr fo_35_1_B rfl) ?_
          refine .m rfl rfl rfl rfl (.refl _) (.load on_22_B rfl (by assumption)) ?_
          refine .m rfl rfl rfl rfl (.refl _) (.fieldAddr fo_37_3_E rfl) ?_
          refine .m rfl rfl rfl rfl (.refl _) (.load on_22_B rfl (by assumption)) ?_
          refine .m rfl rfl rfl rfl (.refl _) (.move rfl) ?_
          refine .m rfl rfl rfl rfl (.refl _) (.idxN sl_22_A (by assumption) rfl rfl (by omega)) ?_
          refine .m rfl rfl rfl rfl (.refl _) (.loadI on_2_A (by assumption) rfl (by omega)) ?_
          refine .m rfl rfl rfl rfl (.refl _) (.idx1 sl_22_A (by assumption) rfl rfl (by omega) (by omega)) ?_
          refine .m rfl rfl rfl rfl (.refl _) (.loadI on_2_A (by assumption) rfl (by omega)) ?_
          refine .m rfl rfl rfl rfl (.refl _) (.fieldAddr fo_37_2_E rfl) ?_
          refine .m rfl rfl rfl rfl (.refl _) (.load on_22_B rfl (by assumption)) ?_
          refine .m rfl rfl rfl rfl (.refl _) (.fieldAddr fo_35_1_B rfl) ?_
          refine .m rfl rfl rfl rfl (.refl _) (.load on_22_B rfl (by assumption)) ?_
          refine .m rfl rfl rfl rfl (.refl _) (.move rfl) ?_
          refine .m rfl rfl rfl rfl (.refl _) (.idxN sl_22_A (by assumption) rfl rfl (by omega)) ?_
          refine .m rfl rfl rfl rfl (.refl _) (.loadI on_2_A (by assumption) rfl (by omega)) ?_
          refine .m rfl rfl rfl rfl (.refl _) (.idx1 sl_22_A (by assumption) rfl rfl (by omega) (by omega)) ?_
          refine .m rfl rfl rfl rfl (.refl _) (.loadI on_2_A (by assumption) rfl (by omega)) ?_
          refine .m rfl rfl rfl rfl (.refl _) (.cmp rfl rfl rfl) ?_
          refine .m rfl rfl rfl rfl (.refl _) (.move rfl) ?_
          refine .split (fun h79 => ?_) (fun h79 => ?_)
          ·
           try simp only [sps] at h79
           refine .sg rfl rfl rfl rfl rfl rfl ?_
           refine .sg rfl rfl rfl rfl rfl rfl ?_
           refine .sg rfl rfl rfl rfl rfl rfl ?_
           refine .sg rfl rfl rfl rfl rfl rfl ?_
           refine .sg rfl rfl rfl rfl rfl rfl ?_
           refine .sg rfl rfl rfl rfl rfl rfl ?_
           refine .sg rfl rfl rfl rfl rfl rfl ?_
           refine .sg rfl rfl rfl rfl rfl rfl ?_
           refine .sg rfl rfl rfl rfl rfl rfl ?_
           refine .sg rfl rfl rfl rfl rfl rfl ?_
           refine .sg rfl rfl rfl rfl rfl rfl ?_
           refine .sg rfl rfl rfl rfl rfl rfl ?_
           refine .sg rfl rfl rfl rfl rfl rfl ?_
           refine .sg rfl rfl rfl rfl rfl rfl ?_
           refine .sg rfl rfl rfl rfl rfl rfl ?_
           refine .sg rfl rfl rfl rfl rfl rfl ?_
           refine .sg rfl rfl rfl rfl rfl rfl ?_
           refine .sg rfl rfl rfl rfl rfl rfl ?_
           refine .sg rfl rfl rfl rfl rfl rfl ?_
           refine .m rfl rfl rfl rfl (.refl _) (.pickT rfl rfl) ?_
           refine .done ?_
           refine hK18 _ _ ?_
           refine .condT rfl ?_
           refine .seq (fun K19 hK19 => ?_)
           refine .region ?_
           refine .m rfl rfl rfl (.assign rfl) ?_
           refine .nil ?_
           refine hK19 _ _ ?_
           refine .ret ?_
           -- leaf e7
           refine hret _ _ ?_
           refine ⟨_, rfl, ?_⟩
           exact ⟨congrArg _ (B_false fun hI => h79 (hI.2.2.ends k (by omega)).1), hle⟩
          ·
           try simp only [sps] at h79
           refine .mg rfl rfl rfl rfl rfl rfl (.refl _) (.fieldAddr fo_35_2_B rfl) ?_
           refine .mg rfl rfl rfl rfl rfl rfl (.refl _) (.load on_22_B rfl (by assumption)) ?_
           refine .mg rfl rfl rfl rfl rfl rfl (.refl _) (.fieldAddr fo_37_3_E rfl) ?_
           refine .mg rfl rfl rfl rfl rfl rfl (.refl _) (.load on_22_B rfl (by assumption)) ?_
           refine .mg rfl rfl rfl rfl rfl rfl (.refl _) (.move rfl) ?_
           refine .mg rfl rfl rfl rfl rfl rfl (.refl _) (.idxN sl_22_A (by assumption) rfl rfl (by omega)) ?_
           refine .mg rfl rfl rfl rfl rfl rfl (.refl _) (.loadI on_2_A (by assumption) rfl (by omega)) ?_
           refine .mg rfl rfl rfl rfl rfl rfl (.refl _) (.idx1 sl_22_A (by assumption) rfl rfl (by omega) (by omega)) ?_
           refine .mg rfl rfl rfl rfl rfl rfl (.refl _) (.loadI on_2_A (by assumption) rfl (by omega)) ?_
           refine .mg rfl rfl rfl rfl rfl rfl (.refl _) (.fieldAddr fo_37_2_E rfl) ?_
           refine .mg rfl rfl rfl rfl rfl rfl (.refl _) (.load on_22_B rfl (by assumption)) ?_
           refine .mg rfl rfl rfl rfl rfl rfl (.refl _) (.fieldAddr fo_35_2_B rfl) ?_
           refine .mg rfl rfl rfl rfl rfl rfl (.refl _) (.load on_22_B rfl (by assumption)) ?_
           refine .mg rfl rfl rfl rfl rfl rfl (.refl _) (.move rfl) ?_
           refine .mg rfl rfl rfl rfl rfl rfl (.refl _) (.idxN sl_22_A (by assumption) rfl rfl (by omega)) ?_
           refine .mg rfl rfl rfl rfl rfl rfl (.refl _) (.loadI on_2_A (by assumption) rfl (by omega)) ?_
           refine .mg rfl rfl rfl rfl rfl rfl (.refl _) (.idx1 sl_22_A (by assumption) rfl rfl (by omega) (by omega)) ?_
           refine .mg rfl rfl rfl rfl rfl rfl (.refl _) (.loadI on_2_A (by assumption) rfl (by omega)) ?_
           refine .mg rfl rfl rfl rfl rfl rfl (.refl _) (.cmp rfl rfl rfl) ?_
           refine .m rfl rfl rfl rfl (.refl _) (.pickF rfl rfl) ?_
           refine .done ?_
           refine hK18 _ _ ?_
           refine .cond rfl (fun h99 => ?_) (fun h99 => ?_)
           ·
            try simp only [sps] at h99
            refine .seq (fun K20 hK20 => ?_)
            refine .region ?_
            refine .m rfl rfl rfl (.assign rfl) ?_
            refine .nil ?_
            refine hK20 _ _ ?_
            refine .ret ?_
            -- leaf e8
            refine hret _ _ ?_
            refine ⟨_, rfl, ?_⟩
            exact ⟨congrArg _ (B_false fun hI => h99 (hI.2.2.ends k (by omega)).2), hle⟩
           ·
            try simp only [sps] at h99
            refine .skip ?_
            refine hK17 _ _ ?_
            refine .region ?_
            refine .m rfl rfl rfl (.move rfl) ?_
            refine .m rfl rfl rfl (.add rfl rfl rfl (by omega) (by omega)) ?_
            refine .m rfl rfl rfl (.assign rfl) ?_
            refine .nil ?_
            refine hKL1 (k + 1) _ _ ?_ ?_ ⟨rfl, rfl, rfl, rfl, trivial⟩
            ·
             refine ⟨rfl, ?_⟩
             refine ⟨by omega, fun x hx => ?_⟩
             by_cases e : x < k
             · exact ha1 x e
             · obtain rfl : x = k := by omega
               exact ⟨h79, h99⟩
            ·
             omega
         ·
          try simp only [sps] at h57
          refine .exit ?_
          refine hK13 _ _ ?_
          refine .seq (fun K21 hK21 => ?_)
          refine .seq (fun K22 hK22 => ?_)
          refine .region ?_
          refine .m rfl rfl rfl (.assign rfl) ?_
          refine .nil ?_
          refine hK22 _ _ ?_
          refine .block ?_
          refine .loopR (σ := Nat) [(1, some _), (3, some _), (4, some _)] (fun k => [(6, some (.int .i64 (k : Int)))]) (fun k H' => H2 = H' ∧ (k : Int) ≤ f.s.obj ∧ ∀ x, x < k → f.ar.getD (f.s.idn.getD x 0).toNat 0 = f.t.idn.getD (f.ob.getD x 0).toNat 0) (fun k => f.s.idn.length - k) (0) ⟨rfl, rfl, rfl, trivial⟩ ⟨rfl, trivial⟩ ?_ ?_
          ·
           refine ⟨rfl, ?_⟩
           exact ⟨by omega, fun x hx => by omega⟩
          ·
           rintro k _ ⟨rfl, hI⟩ KL2 hKL2
           refine .forget (fr' := [(6, some (.int .i64 (k : Int))), (1, some _), (3, some _), (4, some _)]) ⟨rfl, rfl, rfl, rfl, trivial⟩ ?_
           obtain ⟨hk2, ha2⟩ := hI
           refine .seq (fun K23 hK23 => ?_)
           refine .seq (fun K24 hK24 => ?_)
           refine .region ?_
           refine .m rfl rfl rfl (.move rfl) ?_
           refine .m rfl rfl rfl (.fieldAddr fo_35_0_B rfl) ?_
           refine .m rfl rfl rfl (.load on_2_A rfl (by assumption)) ?_
           refine .m rfl rfl rfl (.cmp rfl rfl rfl) ?_
           refine .nil ?_
           refine hK24 _ _ ?_
           refine .cond rfl (fun h103 => ?_) (fun h103 => ?_)
           ·
            try simp only [sps] at h103
            refine .skip ?_
            refine hK23 _ _ ?_
            refine .seq (fun K25 hK25 => ?_)
            refine .block ?_
            refine .seq (fun K26 hK26 => ?_)
            refine .regionD mixed_orders_B (.q 0 (.q 1 (.q 2 (.q 3 (.q 4 (.q 5 (.q 6 (.q 7 (.q 8 (.q 9 (.q 10 (.q 11 (.q 12 (.q 13 (.q 14 (.q 15 (.q 16 (.q 17 (.q 18 (.done)))))))))))))))))))) (by kernel_rfl) ?_
            have q1 := hS.idn k (by omega)
            have q2 := h44 k (by omega)
            refine .m rfl rfl rfl rfl (.refl _) (.fieldAddr fo_37_3_E rfl) ?_
            refine .m rfl rfl rfl rfl (.refl _) (.load on_22_B rfl (by assumption)) ?_
            refine .m rfl rfl rfl rfl (.refl _) (.fieldAddr fo_35_3_B rfl) ?_
            refine .m rfl rfl rfl rfl (.refl _) (.load on_22_B rfl (by assumption)) ?_
            refine .m rfl rfl rfl rfl (.refl _) (.move rfl) ?_
            refine .m rfl rfl rfl rfl (.refl _) (.idxN sl_22_A (by assumption) rfl rfl (by omega)) ?_
            refine .m rfl rfl rfl rfl (.refl _) (.loadI on_2_A (by assumption) rfl (by omega)) ?_
            refine .m rfl rfl rfl rfl (.refl _) (.idx1 sl_22_A (by assumption) rfl rfl (by omega) (by omega)) ?_
            refine .m rfl rfl rfl rfl (.refl _) (.loadI on_2_A (by assumption) rfl (by omega)) ?_
            refine .m rfl rfl rfl rfl (.refl _) (.fieldAddr fo_35_3_B rfl) ?_
            refine .m rfl rfl rfl rfl (.refl _) (.load on_22_B rfl (by assumption)) ?_
            refine .m rfl rfl rfl rfl (.refl _) (.fieldAddr fo_37_2_E rfl) ?_
            refine .m rfl rfl rfl rfl (.refl _) (.load on_22_B rfl (by assumption)) ?_
            refine .m rfl rfl rfl rfl (.refl _) (.move rfl) ?_
            refine .m rfl rfl rfl rfl (.refl _) (.idxN sl_22_A (by assumption) rfl rfl (by omega)) ?_
            refine .m rfl rfl rfl rfl (.refl _) (.loadI on_2_A (by assumption) rfl (by omega)) ?_
            refine .m rfl rfl rfl rfl (.refl _) (.idx1 sl_22_A (by assumption) rfl rfl (by omega) (by omega)) ?_
            refine .m rfl rfl rfl rfl (.refl _) (.loadI on_2_A (by assumption) rfl (by omega)) ?_
            refine .m rfl rfl rfl rfl (.refl _) (.cmp rfl rfl rfl) ?_
            refine .done ?_
            refine hK26 _ _ ?_
            refine .cond rfl (fun h124 => ?_) (fun h124 => ?_)
            ·
             try simp only [sps] at h124
             refine .seq (fun K27 hK27 => ?_)
             refine .region ?_
             refine .m rfl rfl rfl (.assign rfl) ?_
             refine .nil ?_
             refine hK27 _ _ ?_
             refine .ret ?_
             -- leaf e9
             refine hret _ _ ?_
             refine ⟨_, rfl, ?_⟩
             exact ⟨congrArg _ (B_false fun hI => h124 (hI.2.2.ids k (by omega))), hle⟩
            ·
             try simp only [sps] at h124
             refine .skip ?_
             refine hK25 _ _ ?_
             refine .region ?_
             refine .m rfl rfl rfl (.move rfl) ?_
             refine .m rfl rfl rfl (.add rfl rfl rfl (by omega) (by omega)) ?_
             refine .m rfl rfl rfl (.assign rfl) ?_
             refine .nil ?_
             refine hKL2 (k + 1) _ _ ?_ ?_ ⟨rfl, rfl, rfl, rfl, trivial⟩
             ·
              refine ⟨rfl, ?_⟩
              refine ⟨by omega, fun x hx => ?_⟩
              by_cases e : x < k
              · exact ha2 x e
              · obtain rfl : x = k := by omega
                exact h124
             ·
              omega
           ·
            try simp only [sps] at h103
            refine .exit ?_
            refine hK21 _ _ ?_
            refine .seq (fun K28 hK28 => ?_)
            refine .seq (fun K29 hK29 => ?_)
            refine .region ?_
            refine .m rfl rfl rfl (.assign rfl) ?_
            refine .nil ?_
            refine hK29 _ _ ?_
            refine .block ?_
            refine .loopR (σ := Nat) [(1, some _), (3, some _), (4, some _)] (fun k => [(7, some (.int .i64 (k : Int)))]) (fun k H' => H2 = H' ∧ k ≤ f.s.src.length ∧ ∀ a, a < k → ∀ b, b < f.s.src.length → f.s.tgt.getD a 0 = f.s.src.getD b 0 → f.A (f.s.th a b) = f.t.th (f.ar.getD a 0) (f.ar.getD b 0)) (fun k => f.s.src.length - k) (0) ⟨rfl, rfl, rfl, trivial⟩ ⟨rfl, trivial⟩ ?_ ?_
            ·
             refine ⟨rfl, ?_⟩
             exact ⟨by omega, fun x hx => by omega⟩
            ·
             rintro k _ ⟨rfl, hI⟩ KL3 hKL3
             refine .forget (fr' := [(7, some (.int .i64 (k : Int))), (1, some _), (3, some _), (4, some _)]) ⟨rfl, rfl, rfl, rfl, trivial⟩ ?_
             obtain ⟨hk3, ha3⟩ := hI
             refine .seq (fun K30 hK30 => ?_)
             refine .seq (fun K31 hK31 => ?_)
             refine .region ?_
             refine .m rfl rfl rfl (.move rfl) ?_
             refine .m rfl rfl rfl (.fieldAddr fo_35_1_B rfl) ?_
             refine .m rfl rfl rfl (.load on_22_B rfl (by assumption)) ?_
             refine .m rfl rfl rfl (.len sl_22_A rfl) ?_
             refine .m rfl rfl rfl (.cmp rfl rfl rfl) ?_
             refine .nil ?_
             refine hK31 _ _ ?_
             refine .cond rfl (fun h129 => ?_) (fun h129 => ?_)
             ·
              try simp only [sps] at h129
              refine .skip ?_
              refine hK30 _ _ ?_
              refine .seq (fun K32 hK32 => ?_)
              refine .block ?_
              refine .seq (fun K33 hK33 => ?_)
              refine .region ?_
              refine .m rfl rfl rfl (.assign rfl) ?_
              refine .nil ?_
              refine hK33 _ _ ?_
              refine .block ?_
              refine .loopR (σ := Nat) [(1, some _), (3, some _), (4, some _), (7, some _)] (fun j => [(8, some (.int .i64 (j : Int)))]) (fun j H' => H2 = H' ∧ j ≤ f.s.src.length ∧ ∀ b, b < j → f.s.tgt.getD k 0 = f.s.src.getD b 0 → f.A (f.s.th k b) = f.t.th (f.ar.getD k 0) (f.ar.getD b 0)) (fun j => f.s.src.length - j) (0) ⟨rfl, rfl, rfl, rfl, trivial⟩ ⟨rfl, trivial⟩ ?_ ?_
              ·
               refine ⟨rfl, ?_⟩
               exact ⟨by omega, fun x hx => by omega⟩
              ·
               rintro j _ ⟨rfl, hI⟩ KL4 hKL4
               refine .forget (fr' := [(8, some (.int .i64 (j : Int))), (1, some _), (3, some _), (4, some _), (7, some _)]) ⟨rfl, rfl, rfl, rfl, rfl, trivial⟩ ?_
               obtain ⟨hk4, ha4⟩ := hI
               refine .seq (fun K34 hK34 => ?_)
               refine .seq (fun K35 hK35 => ?_)
               refine .region ?_
               refine .m rfl rfl rfl (.move rfl) ?_
               refine .m rfl rfl rfl (.fieldAddr fo_35_1_B rfl) ?_
               refine .m rfl rfl rfl (.load on_22_B rfl (by assumption)) ?_
               refine .m rfl rfl rfl (.len sl_22_A rfl) ?_
               refine .m rfl rfl rfl (.cmp rfl rfl rfl) ?_
               refine .nil ?_
               refine hK35 _ _ ?_
               refine .cond rfl (fun h136 => ?_) (fun h136 => ?_)
               ·
                try simp only [sps] at h136
                refine .skip ?_
                refine hK34 _ _ ?_
                refine .seq (fun K36 hK36 => ?_)
                refine .block ?_
                refine .seq (fun K37 hK37 => ?_)
                refine .regionD mixed_orders_B (.q 0 (.q 1 (.q 2 (.q 3 (.q 4 (.q 5 (.q 6 (.q 7 (.q 8 (.q 9 (.q 10 (.q 11 (.q 12 (.q 13 (.q 14 (.q 15 (.q 16 (.q 17 (.q 18 (.q 19 (.q 20 (.q 21 (.q 22 (.q 23 (.q 24 (.q 25 (.q 26 (.q 27 (.q 28 (.q 29 (.q 30 (.q 31 (.q 32 (.q 33 (.q 34 (.q 35 (.q 36 (.q 37 (.q 38 (.q 39 (.q 40 (.q 41 (.done))))))))))))))))))))))))))))))))))))))))))) (by kernel_rfl) ?_
                have r1 := i4.2 k (by omega)
                have r1l := hS.row k (by omega)
                have q5 := hS.th_lt (f := k) (g := j) (by omega) (by omega)
                have q6 := hS.th_ge (f := k) (g := j) (by omega) (by omega)
                rw [Cat.th_nat] at q5 q6
                have r2 := h52 k (by omega)
                have r3 := h52 j (by omega)
                have r4 := hT.row (f.ar.getD k 0).toNat (by omega)
                have r5 := y4.2 (f.ar.getD k 0).toNat (by omega)
                refine .m rfl rfl rfl rfl (.refl _) (.fieldAddr fo_35_2_B rfl) ?_
                refine .m rfl rfl rfl rfl (.refl _) (.load on_22_B rfl (by assumption)) ?_
                refine .m rfl rfl rfl rfl (.refl _) (.move rfl) ?_
                refine .m rfl rfl rfl rfl (.refl _) (.idxN sl_22_A (by assumption) rfl rfl (by omega)) ?_
                refine .m rfl rfl rfl rfl (.refl _) (.loadI on_2_A (by assumption) rfl (by omega)) ?_
                refine .m rfl rfl rfl rfl (.refl _) (.fieldAddr fo_35_1_B rfl) ?_
                refine .m rfl rfl rfl rfl (.refl _) (.load on_22_B rfl (by assumption)) ?_
                refine .m rfl rfl rfl rfl (.refl _) (.move rfl) ?_
                refine .m rfl rfl rfl rfl (.refl _) (.idxN sl_22_A (by assumption) rfl rfl (by omega)) ?_
                refine .m rfl rfl rfl rfl (.refl _) (.loadI on_2_A (by assumption) rfl (by omega)) ?_
                refine .m rfl rfl rfl rfl (.refl _) (.cmp rfl rfl rfl) ?_
                refine .m rfl rfl rfl rfl (.refl _) (.move rfl) ?_
                refine .split (fun h150 => ?_) (fun h150 => ?_)
                ·
                 simp only [beq_iff_eq] at h150
                 have q7 := q6.2 h150
                 refine .mg rfl rfl rfl rfl rfl rfl (.refl _) (.fieldAddr fo_37_3_E rfl) ?_
                 refine .mg rfl rfl rfl rfl rfl rfl (.refl _) (.load on_22_B rfl (by assumption)) ?_
                 refine .mg rfl rfl rfl rfl rfl rfl (.refl _) (.fieldAddr fo_35_4_B rfl) ?_
                 refine .mg rfl rfl rfl rfl rfl rfl (.refl _) (.load on_23_B rfl (by assumption)) ?_
                 refine .mg rfl rfl rfl rfl rfl rfl (.refl _) (.move rfl) ?_
                 refine .mg rfl rfl rfl rfl rfl rfl (.refl _) (.idxN sl_23_B (Intss.sl (by assumption)) rfl rfl (by omega)) ?_
                 refine .mg rfl rfl rfl rfl rfl rfl (.refl _) (.loadR on_22_B (by assumption) rfl (by omega)) ?_
                 refine .mg rfl rfl rfl rfl rfl rfl (.refl _) (.move rfl) ?_
                 refine .mg rfl rfl rfl rfl rfl rfl (.refl _) (.idxN sl_22_A (by assumption) rfl rfl (by omega)) ?_
                 refine .mg rfl rfl rfl rfl rfl rfl (.refl _) (.loadI on_2_A (by assumption) rfl (by omega)) ?_
                 refine .mg rfl rfl rfl rfl rfl rfl (.refl _) (.idx1 sl_22_A (by assumption) rfl rfl (by omega) (by omega)) ?_
                 refine .mg rfl rfl rfl rfl rfl rfl (.refl _) (.loadI on_2_A (by assumption) rfl (by omega)) ?_
                 refine .mg rfl rfl rfl rfl rfl rfl (.refl _) (.fieldAddr fo_35_4_B rfl) ?_
                 refine .mg rfl rfl rfl rfl rfl rfl (.refl _) (.load on_23_B rfl (by assumption)) ?_
                 refine .mg rfl rfl rfl rfl rfl rfl (.refl _) (.fieldAddr fo_37_3_E rfl) ?_
                 refine .mg rfl rfl rfl rfl rfl rfl (.refl _) (.load on_22_B rfl (by assumption)) ?_
                 refine .mg rfl rfl rfl rfl rfl rfl (.refl _) (.move rfl) ?_
                 refine .mg rfl rfl rfl rfl rfl rfl (.refl _) (.idxN sl_22_A (by assumption) rfl rfl (by omega)) ?_
                 refine .mg rfl rfl rfl rfl rfl rfl (.refl _) (.loadI on_2_A (by assumption) rfl (by omega)) ?_
                 refine .mg rfl rfl rfl rfl rfl rfl (.refl _) (.idx1 sl_23_B (Intss.sl (by assumption)) rfl rfl (by omega) (by omega)) ?_
                 refine .mg rfl rfl rfl rfl rfl rfl (.refl _) (.loadR on_22_B (by assumption) rfl (by omega)) ?_
                 refine .mg rfl rfl rfl rfl rfl rfl (.refl _) (.fieldAddr fo_37_3_E rfl) ?_
                 refine .mg rfl rfl rfl rfl rfl rfl (.refl _) (.load on_22_B rfl (by assumption)) ?_
                 refine .mg rfl rfl rfl rfl rfl rfl (.refl _) (.move rfl) ?_
                 refine .mg rfl rfl rfl rfl rfl rfl (.refl _) (.idxN sl_22_A (by assumption) rfl rfl (by omega)) ?_
                 refine .mg rfl rfl rfl rfl rfl rfl (.refl _) (.loadI on_2_A (by assumption) rfl (by omega)) ?_
                 refine .mg rfl rfl rfl rfl rfl rfl (.refl _) (.idx1 sl_22_A (by assumption) rfl rfl (by omega) (by omega)) ?_
                 refine .mg rfl rfl rfl rfl rfl rfl (.refl _) (.loadI on_2_A (by assumption) rfl (by omega)) ?_
                 refine .mg rfl rfl rfl rfl rfl rfl (.refl _) (.cmp rfl rfl rfl) ?_
                 refine .m rfl rfl rfl rfl (.refl _) (.pickT rfl rfl) ?_
                 refine .done ?_
                 refine hK37 _ _ ?_
                 refine .cond rfl (fun h180 => ?_) (fun h180 => ?_)
                 ·
                  try simp only [sps] at h180
                  refine .seq (fun K38 hK38 => ?_)
                  refine .region ?_
                  refine .m rfl rfl rfl (.assign rfl) ?_
                  refine .nil ?_
                  refine hK38 _ _ ?_
                  refine .ret ?_
                  -- leaf e10
                  refine hret _ _ ?_
                  refine ⟨_, rfl, ?_⟩
                  exact ⟨congrArg _ (B_false fun hI => h180 (hI.2.2.th k (by omega) j (by omega) h150)), hle⟩
                 ·
                  try simp only [sps] at h180
                  refine .skip ?_
                  refine hK36 _ _ ?_
                  refine .region ?_
                  refine .m rfl rfl rfl (.move rfl) ?_
                  refine .m rfl rfl rfl (.add rfl rfl rfl (by omega) (by omega)) ?_
                  refine .m rfl rfl rfl (.assign rfl) ?_
                  refine .nil ?_
                  refine hKL4 (j + 1) _ _ ?_ ?_ ⟨rfl, rfl, rfl, rfl, rfl, trivial⟩
                  ·
                   refine ⟨rfl, ?_⟩
                   refine ⟨by omega, fun x hx => ?_⟩
                   by_cases e : x < j
                   · exact ha4 x e
                   · obtain rfl : x = j := by omega
                     first
                       | exact fun _ => h180
                       | exact fun e => absurd e h150
                  ·
                   omega
                ·
                 try simp only [sps] at h150
                 refine .sg rfl rfl rfl rfl rfl rfl ?_
                 refine .sg rfl rfl rfl rfl rfl rfl ?_
                 refine .sg rfl rfl rfl rfl rfl rfl ?_
                 refine .sg rfl rfl rfl rfl rfl rfl ?_
                 refine .sg rfl rfl rfl rfl rfl rfl ?_
                 refine .sg rfl rfl rfl rfl rfl rfl ?_
                 refine .sg rfl rfl rfl rfl rfl rfl ?_
                 refine .sg rfl rfl rfl rfl rfl rfl ?_
                 refine .sg rfl rfl rfl rfl rfl rfl ?_
                 refine .sg rfl rfl rfl rfl rfl rfl ?_
                 refine .sg rfl rfl rfl rfl rfl rfl ?_
                 refine .sg rfl rfl rfl rfl rfl rfl ?_
                 refine .sg rfl rfl rfl rfl rfl rfl ?_
                 refine .sg rfl rfl rfl rfl rfl rfl ?_
                 refine .sg rfl rfl rfl rfl rfl rfl ?_
                 refine .sg rfl rfl rfl rfl rfl rfl ?_
                 refine .sg rfl rfl rfl rfl rfl rfl ?_
                 refine .sg rfl rfl rfl rfl rfl rfl ?_
                 refine .sg rfl rfl rfl rfl rfl rfl ?_
                 refine .sg rfl rfl rfl rfl rfl rfl ?_
                 refine .sg rfl rfl rfl rfl rfl rfl ?_
                 refine .sg rfl rfl rfl rfl rfl rfl ?_
                 refine .sg rfl rfl rfl rfl rfl rfl ?_
                 refine .sg rfl rfl rfl rfl rfl rfl ?_
                 refine .sg rfl rfl rfl rfl rfl rfl ?_
                 refine .sg rfl rfl rfl rfl rfl rfl ?_
                 refine .sg rfl rfl rfl rfl rfl rfl ?_
                 refine .sg rfl rfl rfl rfl rfl rfl ?_
                 refine .sg rfl rfl rfl rfl rfl rfl ?_
                 refine .m rfl rfl rfl rfl (.refl _) (.pickF rfl rfl) ?_
                 refine .done ?_
                 refine hK37 _ _ ?_
                 refine .condF rfl ?_
                 refine .skip ?_
                 refine hK36 _ _ ?_
                 refine .region ?_
                 refine .m rfl rfl rfl (.move rfl) ?_
                 refine .m rfl rfl rfl (.add rfl rfl rfl (by omega) (by omega)) ?_
                 refine .m rfl rfl rfl (.assign rfl) ?_
                 refine .nil ?_
                 refine hKL4 (j + 1) _ _ ?_ ?_ ⟨rfl, rfl, rfl, rfl, rfl, trivial⟩
                 ·
                  refine ⟨rfl, ?_⟩
                  refine ⟨by omega, fun x hx => ?_⟩
                  by_cases e : x < j
                  · exact ha4 x e
                  · obtain rfl : x = j := by omega
                    first
                      | exact fun _ => h180
                      | exact fun e => absurd e h150
                 ·
                  omega
               ·
                try simp only [sps] at h136
                refine .exit ?_
                refine hK32 _ _ ?_
                refine .region ?_
                refine .m rfl rfl rfl (.move rfl) ?_
                refine .m rfl rfl rfl (.add rfl rfl rfl (by omega) (by omega)) ?_
                refine .m rfl rfl rfl (.assign rfl) ?_
                refine .nil ?_
                refine hKL3 (k + 1) _ _ ?_ ?_ ⟨rfl, rfl, rfl, rfl, trivial⟩
                ·
                 refine ⟨rfl, ?_⟩
                 refine ⟨by omega, fun x hx => ?_⟩
                 by_cases e : x < k
                 · exact ha3 x e
                 · obtain rfl : x = k := by omega
                   exact fun b hb => ha4 b (by omega)
                ·
                 omega
             ·
              try simp only [sps] at h129
              refine .exit ?_
              refine hK28 _ _ ?_
              refine .seq (fun K39 hK39 => ?_)
              refine .region ?_
              refine .m rfl rfl rfl (.assign rfl) ?_
              refine .nil ?_
              refine hK39 _ _ ?_
              refine .ret ?_
              -- leaf e11
              refine hret _ _ ?_
              refine ⟨_, rfl, ?_⟩
              exact ⟨congrArg _ (B_true ⟨h16, h21, by omega, by omega, h44, h52, fun a ha => ha1 a (by omega), fun x hx => ha2 x (by omega), fun a ha => ha3 a (by omega)⟩), hle⟩
end Go.Proofs.Ytgjicdipcofgcaa
