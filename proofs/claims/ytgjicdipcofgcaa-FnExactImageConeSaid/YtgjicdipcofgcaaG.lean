/- Functors, in the program. No condition but those of each statement. -/
import Derived.Test.YtgjicdipcofgcaaF
import Derived.Test.YtgjicdipcofgcaaGlP
namespace Go.Proofs.Ytgjicdipcofgcaa
open Go Go.GL Go.RowKit Go.Proofs
theorem ze_57_G : zeroT Try.prog 57 = some ([.pointer none], 1) := by kernel_rfl
theorem sl_68_G : sliceT Try.prog 68 = some (54, 1) := by kernel_rfl
theorem on_54_G : oneT Try.prog 54 = true := by kernel_rfl
theorem fits_c {g o : Nat} {f : Fun} {p : FunP} {H : GHeap} (h : Fun.At H g o f p := by assumption) (hsI : f.s.Is := by assumption) (htI : f.t.Is := by assumption) (hsm : f.Small := by assumption) :
    GCalls Try.prog 53 [.pointer (some ⟨g, o, none⟩)] H (Ret (.bool (B f.Fits)) H) := by
  refine GCalls.body (N := 195) (rs := [.tmp 2]) Try.func53 rfl rfl rfl rfl (fun Qx hret hend => ?_)
  refine .forget (fr' := [(0, some _)]) ⟨rfl, trivial⟩ ?_
  obtain ⟨fs, ft, c10, c11, j1, j2⟩ := h.get
  obtain ⟨c0, c1, c2, c3, c4, i1, i2, i3, i4⟩ := fs.get
  obtain ⟨d0, d1, d2, d3, d4, e1, e2, e3, e4⟩ := ft.get
  obtain ⟨hS, hSL⟩ := hsI
  obtain ⟨hT, hTL⟩ := htI
  obtain ⟨m1, m2, m3, m4⟩ := hsm
  obtain ⟨n1, n2, n3, n4, n5, n6⟩ := m1
  obtain ⟨k1, k2, k3, k4, k5, k6⟩ := m2
  have qs1 := hS.tl
  have qs2 := hS.n40
  have qs3 := hS.il
  have qs4 := hS.obj
  have qs5 := hS.cl
  have qt1 := hT.tl
  have qt2 := hT.n40
  have qt3 := hT.il
  have qt4 := hT.obj
  have qt5 := hT.cl
  refine .seq (fun K1 hK1 => ?_)
  refine .region ?_
  refine .m rfl rfl rfl (.assign rfl) ?_
  refine .nil ?_
  refine hK1 _ _ ?_
  refine .seq (fun K2 hK2 => ?_)
  refine .regionD mixed_orders_B (.q 0 (.q 1 (.q 2 (.q 3 (.q 4 (.q 5 (.q 6 (.q 7 (.done))))))))) (by kernel_rfl) ?_
  refine .m rfl rfl rfl rfl (.refl _) (.move rfl) ?_
  refine .m rfl rfl rfl rfl (.refl _) (.nilCheck rfl) ?_
  refine .m rfl rfl rfl rfl (.refl _) (.fieldAddr fo_37_0_E rfl) ?_
  refine .m rfl rfl rfl rfl (.refl _) (.move rfl) ?_
  refine .m rfl rfl rfl rfl (.refl _) (.nilCheck rfl) ?_
  refine .m rfl rfl rfl rfl (.refl _) (.fieldAddr fo_37_1_E rfl) ?_
  refine .m rfl rfl rfl rfl (.refl _) (.assign rfl) ?_
  refine .m rfl rfl rfl rfl (.refl _) (.assign rfl) ?_
  refine .done ?_
  refine hK2 _ _ ?_
  refine .seq (fun K3 hK3 => ?_)
  refine .seq (fun K4 hK4 => ?_)
  refine .regionD mixed_orders_B (.q 0 (.q 1 (.q 2 (.q 3 (.q 4 (.q 5 (.q 6 (.q 7 (.q 8 (.q 9 (.q 10 (.q 11 (.q 12 (.q 13 (.q 14 (.q 15 (.q 16 (.c 17 1 (.q 18 (.q 19 (.q 20 (.q 21 (.q 22 (.q 23 (.q 24 (.q 25 (.q 26 (.q 27 (.q 28 (.c 29 0 (.q 30 (.q 31 (.q 32 (.q 33 (.q 34 (.q 35 (.q 36 (.q 37 (.c 38 1 (.c 39 0 (.q 40 (.q 41 (.done))))))))))))))))))))))))))))))))))))))))))) (by kernel_rfl) ?_
  refine .m rfl rfl rfl rfl (.refl _) (.move rfl) ?_
  refine .m rfl rfl rfl rfl (.refl _) (.nilCheck rfl) ?_
  refine .m rfl rfl rfl rfl (.refl _) (.fieldAddr fo_37_2_E rfl) ?_
  refine .m rfl rfl rfl rfl (.refl _) (.load on_22_B rfl (by assumption)) ?_
  refine .m rfl rfl rfl rfl (.refl _) (.len sl_22_A rfl) ?_
  refine .m rfl rfl rfl rfl (.refl _) (.move rfl) ?_
  refine .m rfl rfl rfl rfl (.refl _) (.nilCheck rfl) ?_
  refine .m rfl rfl rfl rfl (.refl _) (.fieldAddr fo_35_0_B rfl) ?_
  refine .m rfl rfl rfl rfl (.refl _) (.load on_2_A rfl (by assumption)) ?_
  refine .m rfl rfl rfl rfl (.refl _) (.cmp rfl rfl rfl) ?_
  refine .m rfl rfl rfl rfl (.refl _) (.move rfl) ?_
  refine .split (fun h29 => ?_) (fun h29 => ?_)
  ·
   try simp only [sps] at h29
   refine .sg rfl rfl rfl rfl rfl rfl ?_
   refine .sg rfl rfl rfl rfl rfl rfl ?_
   refine .sg rfl rfl rfl rfl rfl rfl ?_
   refine .sg rfl rfl rfl rfl rfl rfl ?_
   refine .sg rfl rfl rfl rfl rfl rfl ?_
   refine .sg rfl rfl rfl rfl rfl rfl ?_
   refine .sgc rfl rfl rfl rfl rfl rfl ?_
   refine .sg rfl rfl rfl rfl rfl rfl ?_
   refine .m rfl rfl rfl rfl (.refl _) (.pickT rfl rfl) ?_
   refine .m rfl rfl rfl rfl (.refl _) (.move rfl) ?_
   refine .sg rfl rfl rfl rfl rfl rfl ?_
   refine .sg rfl rfl rfl rfl rfl rfl ?_
   refine .sg rfl rfl rfl rfl rfl rfl ?_
   refine .sg rfl rfl rfl rfl rfl rfl ?_
   refine .sg rfl rfl rfl rfl rfl rfl ?_
   refine .sg rfl rfl rfl rfl rfl rfl ?_
   refine .sg rfl rfl rfl rfl rfl rfl ?_
   refine .sg rfl rfl rfl rfl rfl rfl ?_
   refine .sgc rfl rfl rfl rfl rfl rfl ?_
   refine .sg rfl rfl rfl rfl rfl rfl ?_
   refine .m rfl rfl rfl rfl (.refl _) (.pickT rfl rfl) ?_
   refine .m rfl rfl rfl rfl (.refl _) (.move rfl) ?_
   refine .sg rfl rfl rfl rfl rfl rfl ?_
   refine .sg rfl rfl rfl rfl rfl rfl ?_
   refine .sg rfl rfl rfl rfl rfl rfl ?_
   refine .sg rfl rfl rfl rfl rfl rfl ?_
   refine .sg rfl rfl rfl rfl rfl rfl ?_
   refine .sgc rfl rfl rfl rfl rfl rfl ?_
   refine .sgc rfl rfl rfl rfl rfl rfl ?_
   refine .sg rfl rfl rfl rfl rfl rfl ?_
   refine .m rfl rfl rfl rfl (.refl _) (.pickT rfl rfl) ?_
   refine .done ?_
   refine hK4 _ _ ?_
   refine .condT rfl ?_
   refine .seq (fun K5 hK5 => ?_)
   refine .region ?_
   refine .m rfl rfl rfl (.assign rfl) ?_
   refine .nil ?_
   refine hK5 _ _ ?_
   refine .ret ?_
   -- leaf e1
   refine hret _ _ ?_
   refine ⟨_, rfl, ?_⟩
   exact .of (congrArg _ (B_false fun hF => h29 hF.ol))
  ·
   try simp only [sps] at h29
   refine .mg rfl rfl rfl rfl rfl rfl (.refl _) (.move rfl) ?_
   refine .mg rfl rfl rfl rfl rfl rfl (.refl _) (.nilCheck rfl) ?_
   refine .mg rfl rfl rfl rfl rfl rfl (.refl _) (.fieldAddr fo_37_3_E rfl) ?_
   refine .mg rfl rfl rfl rfl rfl rfl (.refl _) (.load on_22_B rfl (by assumption)) ?_
   refine .mg rfl rfl rfl rfl rfl rfl (.refl _) (.len sl_22_A rfl) ?_
   refine .mg rfl rfl rfl rfl rfl rfl (.refl _) (.move rfl) ?_
   refine .callQ1g rfl rfl rfl rfl rfl rfl rfl @Try.call43 rfl (arrows_c) (.refl _) ?_
   refine .mg rfl rfl rfl rfl rfl rfl (.refl _) (.cmp rfl rfl rfl) ?_
   refine .m rfl rfl rfl rfl (.refl _) (.pickF rfl rfl) ?_
   refine .m rfl rfl rfl rfl (.refl _) (.move rfl) ?_
   refine .split (fun h39 => ?_) (fun h39 => ?_)
   ·
    try simp only [sps] at h39
    refine .sg rfl rfl rfl rfl rfl rfl ?_
    refine .sg rfl rfl rfl rfl rfl rfl ?_
    refine .sg rfl rfl rfl rfl rfl rfl ?_
    refine .sg rfl rfl rfl rfl rfl rfl ?_
    refine .sg rfl rfl rfl rfl rfl rfl ?_
    refine .sg rfl rfl rfl rfl rfl rfl ?_
    refine .sg rfl rfl rfl rfl rfl rfl ?_
    refine .sg rfl rfl rfl rfl rfl rfl ?_
    refine .sgc rfl rfl rfl rfl rfl rfl ?_
    refine .sg rfl rfl rfl rfl rfl rfl ?_
    refine .m rfl rfl rfl rfl (.refl _) (.pickT rfl rfl) ?_
    refine .m rfl rfl rfl rfl (.refl _) (.move rfl) ?_
    refine .sg rfl rfl rfl rfl rfl rfl ?_
    refine .sg rfl rfl rfl rfl rfl rfl ?_
    refine .sg rfl rfl rfl rfl rfl rfl ?_
    refine .sg rfl rfl rfl rfl rfl rfl ?_
    refine .sg rfl rfl rfl rfl rfl rfl ?_
    refine .sgc rfl rfl rfl rfl rfl rfl ?_
    refine .sgc rfl rfl rfl rfl rfl rfl ?_
    refine .sg rfl rfl rfl rfl rfl rfl ?_
    refine .m rfl rfl rfl rfl (.refl _) (.pickT rfl rfl) ?_
    refine .done ?_
    refine hK4 _ _ ?_
    refine .condT rfl ?_
    refine .seq (fun K6 hK6 => ?_)
    refine .region ?_
    refine .m rfl rfl rfl (.assign rfl) ?_
    refine .nil ?_
    refine hK6 _ _ ?_
    refine .ret ?_
    -- leaf e2
    refine hret _ _ ?_
    refine ⟨_, rfl, ?_⟩
    exact .of (congrArg _ (B_false fun hF => by have := hF.al; omega))
   ·
    try simp only [sps] at h39
    refine .mg rfl rfl rfl rfl rfl rfl (.refl _) (.move rfl) ?_
    refine .mg rfl rfl rfl rfl rfl rfl (.refl _) (.nilCheck rfl) ?_
    refine .mg rfl rfl rfl rfl rfl rfl (.refl _) (.fieldAddr fo_37_2_E rfl) ?_
    refine .mg rfl rfl rfl rfl rfl rfl (.refl _) (.load on_22_B rfl (by assumption)) ?_
    refine .mg rfl rfl rfl rfl rfl rfl (.refl _) (.move rfl) ?_
    refine .mg rfl rfl rfl rfl rfl rfl (.refl _) (.nilCheck rfl) ?_
    refine .mg rfl rfl rfl rfl rfl rfl (.refl _) (.fieldAddr fo_35_0_B rfl) ?_
    refine .mg rfl rfl rfl rfl rfl rfl (.refl _) (.load on_2_A rfl (by assumption)) ?_
    refine .callQ0g rfl rfl rfl rfl rfl rfl rfl @Try.call42 rfl (within_c) ?_
    refine .mg rfl rfl rfl rfl rfl rfl (.refl _) (.not rfl) ?_
    refine .m rfl rfl rfl rfl (.refl _) (.pickF rfl rfl) ?_
    refine .m rfl rfl rfl rfl (.refl _) (.move rfl) ?_
    refine .split (fun h51 => ?_) (fun h51 => ?_)
    ·
     try simp only [sps] at h51
     refine .sg rfl rfl rfl rfl rfl rfl ?_
     refine .sg rfl rfl rfl rfl rfl rfl ?_
     refine .sg rfl rfl rfl rfl rfl rfl ?_
     refine .sg rfl rfl rfl rfl rfl rfl ?_
     refine .sg rfl rfl rfl rfl rfl rfl ?_
     refine .sgc rfl rfl rfl rfl rfl rfl ?_
     refine .sgc rfl rfl rfl rfl rfl rfl ?_
     refine .sg rfl rfl rfl rfl rfl rfl ?_
     refine .m rfl rfl rfl rfl (.refl _) (.pickT rfl rfl) ?_
     refine .done ?_
     refine hK4 _ _ ?_
     refine .condT rfl ?_
     refine .seq (fun K7 hK7 => ?_)
     refine .region ?_
     refine .m rfl rfl rfl (.assign rfl) ?_
     refine .nil ?_
     refine hK7 _ _ ?_
     refine .ret ?_
     -- leaf e3
     refine hret _ _ ?_
     refine ⟨_, rfl, ?_⟩
     exact .of (congrArg _ (B_false fun hF => by rw [allIn_iff.2 hF.ob] at h51; cases h51))
    ·
     try simp only [sps] at h51
     refine .mg rfl rfl rfl rfl rfl rfl (.refl _) (.move rfl) ?_
     refine .mg rfl rfl rfl rfl rfl rfl (.refl _) (.nilCheck rfl) ?_
     refine .mg rfl rfl rfl rfl rfl rfl (.refl _) (.fieldAddr fo_37_3_E rfl) ?_
     refine .mg rfl rfl rfl rfl rfl rfl (.refl _) (.load on_22_B rfl (by assumption)) ?_
     refine .mg rfl rfl rfl rfl rfl rfl (.refl _) (.move rfl) ?_
     refine .callQ1g rfl rfl rfl rfl rfl rfl rfl @Try.call43 rfl (arrows_c) (.refl _) ?_
     refine .callQ0g rfl rfl rfl rfl rfl rfl rfl @Try.call42 rfl (within_c) ?_
     refine .mg rfl rfl rfl rfl rfl rfl (.refl _) (.not rfl) ?_
     refine .m rfl rfl rfl rfl (.refl _) (.pickF rfl rfl) ?_
     refine .done ?_
     refine hK4 _ _ ?_
     refine .cond rfl (fun h60 => ?_) (fun h60 => ?_)
     ·
      try simp only [sps] at h60
      refine .seq (fun K8 hK8 => ?_)
      refine .region ?_
      refine .m rfl rfl rfl (.assign rfl) ?_
      refine .nil ?_
      refine hK8 _ _ ?_
      refine .ret ?_
      -- leaf e4
      refine hret _ _ ?_
      refine ⟨_, rfl, ?_⟩
      exact .of (congrArg _ (B_false fun hF => by rw [allIn_iff.2 hF.ar] at h60; cases h60))
     ·
      try simp only [sps] at h60
      refine .skip ?_
      refine hK3 _ _ ?_
      refine .seq (fun K9 hK9 => ?_)
      refine .seq (fun K10 hK10 => ?_)
      refine .region ?_
      refine .m rfl rfl rfl (.move rfl) ?_
      refine .m rfl rfl rfl (.nilCheck rfl) ?_
      refine .m rfl rfl rfl (.fieldAddr fo_37_3_E rfl) ?_
      refine .m rfl rfl rfl (.load on_22_B rfl (by assumption)) ?_
      refine .m rfl rfl rfl (.len sl_22_A rfl) ?_
      refine .m rfl rfl rfl (.move rfl) ?_
      refine .nil ?_
      refine hK10 _ _ ?_
      refine .block ?_
      refine .loopR (σ := Nat) [(0, some _), (3, some _), (4, some _), (64, some _), (65, some _)] (fun k => [(66, some (.int .i64 (k : Int)))]) (fun k H' => H = H' ∧ k ≤ f.ar.length ∧ ∀ a, a < k → f.t.src.getD (f.ar.getD a 0).toNat 0 = f.ob.getD (f.s.src.getD a 0).toNat 0 ∧ f.t.tgt.getD (f.ar.getD a 0).toNat 0 = f.ob.getD (f.s.tgt.getD a 0).toNat 0) (fun k => f.ar.length - k) (0) ⟨rfl, rfl, rfl, rfl, rfl, trivial⟩ ⟨rfl, trivial⟩ ?_ ?_
      ·
       refine ⟨rfl, ?_⟩
       exact ⟨by omega, fun x hx => by omega⟩
      ·
       rintro k _ ⟨rfl, hI⟩ KL1 hKL1
       refine .forget (fr' := [(66, some (.int .i64 (k : Int))), (0, some _), (3, some _), (4, some _), (64, some _), (65, some _)]) ⟨rfl, rfl, rfl, rfl, rfl, rfl, trivial⟩ ?_
       obtain ⟨hk1, ha1⟩ := hI
       refine .seq (fun K11 hK11 => ?_)
       refine .region ?_
       refine .m rfl rfl rfl (.cmp rfl rfl rfl) ?_
       refine .nil ?_
       refine hK11 _ _ ?_
       refine .seq (fun K12 hK12 => ?_)
       refine .cond rfl (fun h67 => ?_) (fun h67 => ?_)
       ·
        try simp only [sps] at h67
        refine .skip ?_
        refine hK12 _ _ ?_
        refine .seq (fun K13 hK13 => ?_)
        refine .block ?_
        refine .seq (fun K14 hK14 => ?_)
        refine .region ?_
        refine .m rfl rfl rfl (.move rfl) ?_
        refine .m rfl rfl rfl (.idxN sl_22_A (by assumption) rfl rfl (by omega)) ?_
        refine .m rfl rfl rfl (.loadI on_2_A (by assumption) rfl (by omega)) ?_
        refine .m rfl rfl rfl (.assign rfl) ?_
        refine .m rfl rfl rfl (.assign rfl) ?_
        refine .nil ?_
        refine hK14 _ _ ?_
        refine .seq (fun K15 hK15 => ?_)
        refine .regionD mixed_orders_B (.q 0 (.q 1 (.q 2 (.q 3 (.q 4 (.q 5 (.q 6 (.q 7 (.q 8 (.q 9 (.q 10 (.q 11 (.q 12 (.q 13 (.q 14 (.q 15 (.q 16 (.q 17 (.q 18 (.q 19 (.q 20 (.q 21 (.q 22 (.q 23 (.q 24 (.q 25 (.q 26 (.q 27 (.q 28 (.q 29 (.q 30 (.q 31 (.q 32 (.q 33 (.q 34 (.q 35 (.q 36 (.q 37 (.q 38 (.q 39 (.q 40 (.q 41 (.q 42 (.q 43 (.done))))))))))))))))))))))))))))))))))))))))))))) (by kernel_rfl) ?_
        have q1 := h60 k (by omega)
        have q2 := hS.src k (by omega)
        have q3 := hS.tgt k (by omega)
        refine .m rfl rfl rfl rfl (.refl _) (.move rfl) ?_
        refine .m rfl rfl rfl rfl (.refl _) (.nilCheck rfl) ?_
        refine .m rfl rfl rfl rfl (.refl _) (.fieldAddr fo_35_1_B rfl) ?_
        refine .m rfl rfl rfl rfl (.refl _) (.load on_22_B rfl (by assumption)) ?_
        refine .m rfl rfl rfl rfl (.refl _) (.move rfl) ?_
        refine .m rfl rfl rfl rfl (.refl _) (.idx1 sl_22_A (by assumption) rfl rfl (by omega) (by omega)) ?_
        refine .m rfl rfl rfl rfl (.refl _) (.loadI on_2_A (by assumption) rfl (by omega)) ?_
        refine .m rfl rfl rfl rfl (.refl _) (.move rfl) ?_
        refine .m rfl rfl rfl rfl (.refl _) (.nilCheck rfl) ?_
        refine .m rfl rfl rfl rfl (.refl _) (.fieldAddr fo_37_2_E rfl) ?_
        refine .m rfl rfl rfl rfl (.refl _) (.load on_22_B rfl (by assumption)) ?_
        refine .m rfl rfl rfl rfl (.refl _) (.move rfl) ?_
        refine .m rfl rfl rfl rfl (.refl _) (.nilCheck rfl) ?_
        refine .m rfl rfl rfl rfl (.refl _) (.fieldAddr fo_35_1_B rfl) ?_
        refine .m rfl rfl rfl rfl (.refl _) (.load on_22_B rfl (by assumption)) ?_
        refine .m rfl rfl rfl rfl (.refl _) (.move rfl) ?_
        refine .m rfl rfl rfl rfl (.refl _) (.idxN sl_22_A (by assumption) rfl rfl (by omega)) ?_
        refine .m rfl rfl rfl rfl (.refl _) (.loadI on_2_A (by assumption) rfl (by omega)) ?_
        refine .m rfl rfl rfl rfl (.refl _) (.idx1 sl_22_A (by assumption) rfl rfl (by omega) (by omega)) ?_
        refine .m rfl rfl rfl rfl (.refl _) (.loadI on_2_A (by assumption) rfl (by omega)) ?_
        refine .m rfl rfl rfl rfl (.refl _) (.cmp rfl rfl rfl) ?_
        refine .m rfl rfl rfl rfl (.refl _) (.move rfl) ?_
        refine .split (fun h92 => ?_) (fun h92 => ?_)
        ·
         try simp only [sps] at h92
         refine .sg rfl rfl rfl rfl rfl rfl ?_
         refine .sg rfl rfl rfl rfl rfl rfl ?_
         refine .sg rfl rfl rfl rfl rfl rfl ?_
         refine .sg rfl rfl rfl rfl rfl rfl ?_
         refine .sg rfl rfl rfl rfl rfl rfl ?_
         refine .sg rfl rfl rfl rfl rfl rfl ?_
         refine .sg rfl rfl rfl rfl rfl rfl ?_
         refine .sg rfl rfl rfl rfl rfl rfl ?_
         refine .sg rfl rfl rfl rfl rfl rfl ?_
         refine .sg rfl rfl rfl rfl rfl rfl ?_
         refine .sg rfl rfl rfl rfl rfl rfl ?_
         refine .sg rfl rfl rfl rfl rfl rfl ?_
         refine .sg rfl rfl rfl rfl rfl rfl ?_
         refine .sg rfl rfl rfl rfl rfl rfl ?_
         refine .sg rfl rfl rfl rfl rfl rfl ?_
         refine .sg rfl rfl rfl rfl rfl rfl ?_
         refine .sg rfl rfl rfl rfl rfl rfl ?_
         refine .sg rfl rfl rfl rfl rfl rfl ?_
         refine .sg rfl rfl rfl rfl rfl rfl ?_
         refine .sg rfl rfl rfl rfl rfl rfl ?_
         refine .sg rfl rfl rfl rfl rfl rfl ?_
         refine .m rfl rfl rfl rfl (.refl _) (.pickT rfl rfl) ?_
         refine .done ?_
         refine hK15 _ _ ?_
         refine .condT rfl ?_
         refine .seq (fun K16 hK16 => ?_)
         refine .region ?_
         refine .m rfl rfl rfl (.assign rfl) ?_
         refine .nil ?_
         refine hK16 _ _ ?_
         refine .ret ?_
         -- leaf e5
         refine hret _ _ ?_
         refine ⟨_, rfl, ?_⟩
         exact .of (congrArg _ (B_false fun hF => h92 (hF.ends k (by omega)).1))
        ·
         try simp only [sps] at h92
         refine .mg rfl rfl rfl rfl rfl rfl (.refl _) (.move rfl) ?_
         refine .mg rfl rfl rfl rfl rfl rfl (.refl _) (.nilCheck rfl) ?_
         refine .mg rfl rfl rfl rfl rfl rfl (.refl _) (.fieldAddr fo_35_2_B rfl) ?_
         refine .mg rfl rfl rfl rfl rfl rfl (.refl _) (.load on_22_B rfl (by assumption)) ?_
         refine .mg rfl rfl rfl rfl rfl rfl (.refl _) (.move rfl) ?_
         refine .mg rfl rfl rfl rfl rfl rfl (.refl _) (.idx1 sl_22_A (by assumption) rfl rfl (by omega) (by omega)) ?_
         refine .mg rfl rfl rfl rfl rfl rfl (.refl _) (.loadI on_2_A (by assumption) rfl (by omega)) ?_
         refine .mg rfl rfl rfl rfl rfl rfl (.refl _) (.move rfl) ?_
         refine .mg rfl rfl rfl rfl rfl rfl (.refl _) (.nilCheck rfl) ?_
         refine .mg rfl rfl rfl rfl rfl rfl (.refl _) (.fieldAddr fo_37_2_E rfl) ?_
         refine .mg rfl rfl rfl rfl rfl rfl (.refl _) (.load on_22_B rfl (by assumption)) ?_
         refine .mg rfl rfl rfl rfl rfl rfl (.refl _) (.move rfl) ?_
         refine .mg rfl rfl rfl rfl rfl rfl (.refl _) (.nilCheck rfl) ?_
         refine .mg rfl rfl rfl rfl rfl rfl (.refl _) (.fieldAddr fo_35_2_B rfl) ?_
         refine .mg rfl rfl rfl rfl rfl rfl (.refl _) (.load on_22_B rfl (by assumption)) ?_
         refine .mg rfl rfl rfl rfl rfl rfl (.refl _) (.move rfl) ?_
         refine .mg rfl rfl rfl rfl rfl rfl (.refl _) (.idxN sl_22_A (by assumption) rfl rfl (by omega)) ?_
         refine .mg rfl rfl rfl rfl rfl rfl (.refl _) (.loadI on_2_A (by assumption) rfl (by omega)) ?_
         refine .mg rfl rfl rfl rfl rfl rfl (.refl _) (.idx1 sl_22_A (by assumption) rfl rfl (by omega) (by omega)) ?_
         refine .mg rfl rfl rfl rfl rfl rfl (.refl _) (.loadI on_2_A (by assumption) rfl (by omega)) ?_
         refine .mg rfl rfl rfl rfl rfl rfl (.refl _) (.cmp rfl rfl rfl) ?_
         refine .m rfl rfl rfl rfl (.refl _) (.pickF rfl rfl) ?_
         refine .done ?_
         refine hK15 _ _ ?_
         refine .cond rfl (fun h114 => ?_) (fun h114 => ?_)
         ·
          try simp only [sps] at h114
          refine .seq (fun K17 hK17 => ?_)
          refine .region ?_
          refine .m rfl rfl rfl (.assign rfl) ?_
          refine .nil ?_
          refine hK17 _ _ ?_
          refine .ret ?_
          -- leaf e6
          refine hret _ _ ?_
          refine ⟨_, rfl, ?_⟩
          exact .of (congrArg _ (B_false fun hF => h114 (hF.ends k (by omega)).2))
         ·
          try simp only [sps] at h114
          refine .skip ?_
          refine hK13 _ _ ?_
          refine .region ?_
          refine .m rfl rfl rfl (.add rfl rfl rfl (by omega) (by omega)) ?_
          refine .m rfl rfl rfl (.move rfl) ?_
          refine .nil ?_
          refine hKL1 (k + 1) _ _ ?_ ?_ ⟨rfl, rfl, rfl, rfl, rfl, rfl, trivial⟩
          ·
           refine ⟨rfl, ?_⟩
           refine ⟨by omega, fun x hx => ?_⟩
           by_cases e : x < k
           · exact ha1 x e
           · obtain rfl : x = k := by omega
             exact ⟨h92, h114⟩
          ·
           omega
       ·
        try simp only [sps] at h67
        refine .exit ?_
        refine hK9 _ _ ?_
        refine .seq (fun K18 hK18 => ?_)
        refine .seq (fun K19 hK19 => ?_)
        refine .region ?_
        refine .m rfl rfl rfl (.move rfl) ?_
        refine .m rfl rfl rfl (.nilCheck rfl) ?_
        refine .m rfl rfl rfl (.fieldAddr fo_35_3_B rfl) ?_
        refine .m rfl rfl rfl (.load on_22_B rfl (by assumption)) ?_
        refine .m rfl rfl rfl (.len sl_22_A rfl) ?_
        refine .m rfl rfl rfl (.move rfl) ?_
        refine .nil ?_
        refine hK19 _ _ ?_
        refine .block ?_
        refine .loopR (σ := Nat) [(0, some _), (3, some _), (4, some _), (119, some _), (120, some _)] (fun k => [(121, some (.int .i64 (k : Int)))]) (fun k H' => H = H' ∧ k ≤ f.s.idn.length ∧ ∀ x, x < k → f.ar.getD (f.s.idn.getD x 0).toNat 0 = f.t.idn.getD (f.ob.getD x 0).toNat 0) (fun k => f.s.idn.length - k) (0) ⟨rfl, rfl, rfl, rfl, rfl, trivial⟩ ⟨rfl, trivial⟩ ?_ ?_
        ·
         refine ⟨rfl, ?_⟩
         exact ⟨by omega, fun x hx => by omega⟩
        ·
         rintro k _ ⟨rfl, hI⟩ KL2 hKL2
         refine .forget (fr' := [(121, some (.int .i64 (k : Int))), (0, some _), (3, some _), (4, some _), (119, some _), (120, some _)]) ⟨rfl, rfl, rfl, rfl, rfl, rfl, trivial⟩ ?_
         obtain ⟨hk2, ha2⟩ := hI
         refine .seq (fun K20 hK20 => ?_)
         refine .region ?_
         refine .m rfl rfl rfl (.cmp rfl rfl rfl) ?_
         refine .nil ?_
         refine hK20 _ _ ?_
         refine .seq (fun K21 hK21 => ?_)
         refine .cond rfl (fun h122 => ?_) (fun h122 => ?_)
         ·
          try simp only [sps] at h122
          refine .skip ?_
          refine hK21 _ _ ?_
          refine .seq (fun K22 hK22 => ?_)
          refine .block ?_
          refine .seq (fun K23 hK23 => ?_)
          refine .region ?_
          refine .m rfl rfl rfl (.move rfl) ?_
          refine .m rfl rfl rfl (.idxN sl_22_A (by assumption) rfl rfl (by omega)) ?_
          refine .m rfl rfl rfl (.loadI on_2_A (by assumption) rfl (by omega)) ?_
          refine .m rfl rfl rfl (.assign rfl) ?_
          refine .m rfl rfl rfl (.assign rfl) ?_
          refine .nil ?_
          refine hK23 _ _ ?_
          refine .seq (fun K24 hK24 => ?_)
          refine .regionD mixed_orders_B (.q 0 (.q 1 (.q 2 (.q 3 (.q 4 (.q 5 (.q 6 (.q 7 (.q 8 (.q 9 (.q 10 (.q 11 (.q 12 (.q 13 (.q 14 (.q 15 (.q 16 (.q 17 (.q 18 (.q 19 (.q 20 (.done)))))))))))))))))))))) (by kernel_rfl) ?_
          have q1 := hS.idn k (by omega)
          have q2 := h51 k (by omega)
          refine .m rfl rfl rfl rfl (.refl _) (.move rfl) ?_
          refine .m rfl rfl rfl rfl (.refl _) (.nilCheck rfl) ?_
          refine .m rfl rfl rfl rfl (.refl _) (.fieldAddr fo_37_3_E rfl) ?_
          refine .m rfl rfl rfl rfl (.refl _) (.load on_22_B rfl (by assumption)) ?_
          refine .m rfl rfl rfl rfl (.refl _) (.move rfl) ?_
          refine .m rfl rfl rfl rfl (.refl _) (.idx1 sl_22_A (by assumption) rfl rfl (by omega) (by omega)) ?_
          refine .m rfl rfl rfl rfl (.refl _) (.loadI on_2_A (by assumption) rfl (by omega)) ?_
          refine .m rfl rfl rfl rfl (.refl _) (.move rfl) ?_
          refine .m rfl rfl rfl rfl (.refl _) (.nilCheck rfl) ?_
          refine .m rfl rfl rfl rfl (.refl _) (.fieldAddr fo_35_3_B rfl) ?_
          refine .m rfl rfl rfl rfl (.refl _) (.load on_22_B rfl (by assumption)) ?_
          refine .m rfl rfl rfl rfl (.refl _) (.move rfl) ?_
          refine .m rfl rfl rfl rfl (.refl _) (.nilCheck rfl) ?_
          refine .m rfl rfl rfl rfl (.refl _) (.fieldAddr fo_37_2_E rfl) ?_
          refine .m rfl rfl rfl rfl (.refl _) (.load on_22_B rfl (by assumption)) ?_
          refine .m rfl rfl rfl rfl (.refl _) (.move rfl) ?_
          refine .m rfl rfl rfl rfl (.refl _) (.idxN sl_22_A (by assumption) rfl rfl (by omega)) ?_
          refine .m rfl rfl rfl rfl (.refl _) (.loadI on_2_A (by assumption) rfl (by omega)) ?_
          refine .m rfl rfl rfl rfl (.refl _) (.idx1 sl_22_A (by assumption) rfl rfl (by omega) (by omega)) ?_
          refine .m rfl rfl rfl rfl (.refl _) (.loadI on_2_A (by assumption) rfl (by omega)) ?_
          refine .m rfl rfl rfl rfl (.refl _) (.cmp rfl rfl rfl) ?_
          refine .done ?_
          refine hK24 _ _ ?_
          refine .cond rfl (fun h146 => ?_) (fun h146 => ?_)
          ·
           try simp only [sps] at h146
           refine .seq (fun K25 hK25 => ?_)
           refine .region ?_
           refine .m rfl rfl rfl (.assign rfl) ?_
           refine .nil ?_
           refine hK25 _ _ ?_
           refine .ret ?_
           -- leaf e7
           refine hret _ _ ?_
           refine ⟨_, rfl, ?_⟩
           exact .of (congrArg _ (B_false fun hF => h146 (hF.ids k (by omega))))
          ·
           try simp only [sps] at h146
           refine .skip ?_
           refine hK22 _ _ ?_
           refine .region ?_
           refine .m rfl rfl rfl (.add rfl rfl rfl (by omega) (by omega)) ?_
           refine .m rfl rfl rfl (.move rfl) ?_
           refine .nil ?_
           refine hKL2 (k + 1) _ _ ?_ ?_ ⟨rfl, rfl, rfl, rfl, rfl, rfl, trivial⟩
           ·
            refine ⟨rfl, ?_⟩
            refine ⟨by omega, fun x hx => ?_⟩
            by_cases e : x < k
            · exact ha2 x e
            · obtain rfl : x = k := by omega
              exact h146
           ·
            omega
         ·
          try simp only [sps] at h122
          refine .exit ?_
          refine hK18 _ _ ?_
          refine .seq (fun K26 hK26 => ?_)
          refine .seq (fun K27 hK27 => ?_)
          refine .region ?_
          refine .m rfl rfl rfl (.move rfl) ?_
          refine .m rfl rfl rfl (.nilCheck rfl) ?_
          refine .m rfl rfl rfl (.fieldAddr fo_35_4_B rfl) ?_
          refine .m rfl rfl rfl (.load on_23_B rfl (by assumption)) ?_
          refine .m rfl rfl rfl (.len sl_23_B rfl) ?_
          refine .m rfl rfl rfl (.move rfl) ?_
          refine .nil ?_
          refine hK27 _ _ ?_
          refine .block ?_
          refine .loopR (σ := Nat) [(0, some _), (4, some _), (151, some _), (152, some _)] (fun k => [(153, some (.int .i64 (k : Int)))]) (fun k H' => H = H' ∧ k ≤ f.s.comp.length ∧ ∀ a, a < k → ∀ b, b < f.s.src.length → f.s.tgt.getD a 0 = f.s.src.getD b 0 → f.A (f.s.th a b) = f.t.th (f.ar.getD a 0) (f.ar.getD b 0)) (fun k => f.s.comp.length - k) (0) ⟨rfl, rfl, rfl, rfl, trivial⟩ ⟨rfl, trivial⟩ ?_ ?_
          ·
           refine ⟨rfl, ?_⟩
           exact ⟨by omega, fun x hx => by omega⟩
          ·
           rintro k _ ⟨rfl, hI⟩ KL3 hKL3
           refine .forget (fr' := [(153, some (.int .i64 (k : Int))), (0, some _), (4, some _), (151, some _), (152, some _)]) ⟨rfl, rfl, rfl, rfl, rfl, trivial⟩ ?_
           obtain ⟨hk3, ha3⟩ := hI
           refine .seq (fun K28 hK28 => ?_)
           refine .region ?_
           refine .m rfl rfl rfl (.cmp rfl rfl rfl) ?_
           refine .nil ?_
           refine hK28 _ _ ?_
           refine .seq (fun K29 hK29 => ?_)
           refine .cond rfl (fun h154 => ?_) (fun h154 => ?_)
           ·
            try simp only [sps] at h154
            refine .skip ?_
            refine hK29 _ _ ?_
            refine .seq (fun K30 hK30 => ?_)
            refine .block ?_
            refine .seq (fun K31 hK31 => ?_)
            refine .region ?_
            have r1 := i4.2 k (by omega)
            have r1l := hS.row k (by omega)
            refine .m rfl rfl rfl (.move rfl) ?_
            refine .m rfl rfl rfl (.idxN sl_23_B (Intss.sl (by assumption)) rfl rfl (by omega)) ?_
            refine .m rfl rfl rfl (.loadR on_22_B (by assumption) rfl (by omega)) ?_
            refine .m rfl rfl rfl (.assign rfl) ?_
            refine .m rfl rfl rfl (.assign rfl) ?_
            refine .nil ?_
            refine hK31 _ _ ?_
            refine .seq (fun K32 hK32 => ?_)
            refine .region ?_
            refine .m rfl rfl rfl (.move rfl) ?_
            refine .m rfl rfl rfl (.len sl_22_A rfl) ?_
            refine .m rfl rfl rfl (.move rfl) ?_
            refine .nil ?_
            refine hK32 _ _ ?_
            refine .block ?_
            refine .loopR (σ := Nat) [(0, some _), (4, some _), (9, some _), (151, some _), (152, some _), (153, some _), (158, some _), (159, some _)] (fun j => [(160, some (.int .i64 (j : Int)))]) (fun j H' => H = H' ∧ j ≤ f.s.src.length ∧ ∀ b, b < j → f.s.tgt.getD k 0 = f.s.src.getD b 0 → f.A (f.s.th k b) = f.t.th (f.ar.getD k 0) (f.ar.getD b 0)) (fun j => f.s.src.length - j) (0) ⟨rfl, rfl, rfl, rfl, rfl, rfl, rfl, rfl, trivial⟩ ⟨rfl, trivial⟩ ?_ ?_
            ·
             refine ⟨rfl, ?_⟩
             exact ⟨by omega, fun x hx => by omega⟩
            ·
             rintro j _ ⟨rfl, hI⟩ KL4 hKL4
             refine .forget (fr' := [(160, some (.int .i64 (j : Int))), (0, some _), (4, some _), (9, some _), (151, some _), (152, some _), (153, some _), (158, some _), (159, some _)]) ⟨rfl, rfl, rfl, rfl, rfl, rfl, rfl, rfl, rfl, trivial⟩ ?_
             obtain ⟨hk4, ha4⟩ := hI
             refine .seq (fun K33 hK33 => ?_)
             refine .region ?_
             refine .m rfl rfl rfl (.cmp rfl rfl rfl) ?_
             refine .nil ?_
             refine hK33 _ _ ?_
             refine .seq (fun K34 hK34 => ?_)
             refine .cond rfl (fun h161 => ?_) (fun h161 => ?_)
             ·
              try simp only [sps] at h161
              refine .skip ?_
              refine hK34 _ _ ?_
              refine .seq (fun K35 hK35 => ?_)
              refine .block ?_
              refine .seq (fun K36 hK36 => ?_)
              refine .region ?_
              refine .m rfl rfl rfl (.move rfl) ?_
              refine .m rfl rfl rfl (.idxN sl_22_A (by assumption) rfl rfl (by omega)) ?_
              refine .m rfl rfl rfl (.loadI on_2_A (by assumption) rfl (by omega)) ?_
              refine .m rfl rfl rfl (.assign rfl) ?_
              refine .m rfl rfl rfl (.assign rfl) ?_
              refine .nil ?_
              refine hK36 _ _ ?_
              refine .seq (fun K37 hK37 => ?_)
              refine .regionD mixed_orders_B (.q 0 (.q 1 (.q 2 (.q 3 (.q 4 (.q 5 (.q 6 (.q 7 (.q 8 (.q 9 (.q 10 (.q 11 (.q 12 (.q 13 (.q 14 (.q 15 (.q 16 (.q 17 (.q 18 (.q 19 (.q 20 (.q 21 (.q 22 (.q 23 (.q 24 (.c 25 1 (.q 26 (.q 27 (.done))))))))))))))))))))))))))))) (by kernel_rfl) ?_
              have q5 := hS.th_lt (f := k) (g := j) (by omega) (by omega)
              rw [Cat.th_nat] at q5
              have r2 := h60 k (by omega)
              have r3 := h60 j (by omega)
              have r4 := hT.row (f.ar.getD k 0).toNat (by omega)
              refine .m rfl rfl rfl rfl (.refl _) (.move rfl) ?_
              refine .m rfl rfl rfl rfl (.refl _) (.cmp rfl rfl rfl) ?_
              refine .m rfl rfl rfl rfl (.refl _) (.move rfl) ?_
              refine .split (fun h167 => ?_) (fun h167 => ?_)
              ·
               try simp only [sps] at h167
               refine .mg rfl rfl rfl rfl rfl rfl (.refl _) (.move rfl) ?_
               refine .mg rfl rfl rfl rfl rfl rfl (.refl _) (.nilCheck rfl) ?_
               refine .mg rfl rfl rfl rfl rfl rfl (.refl _) (.fieldAddr fo_37_3_E rfl) ?_
               refine .mg rfl rfl rfl rfl rfl rfl (.refl _) (.load on_22_B rfl (by assumption)) ?_
               refine .mg rfl rfl rfl rfl rfl rfl (.refl _) (.move rfl) ?_
               refine .mg rfl rfl rfl rfl rfl rfl (.refl _) (.idx1 sl_22_A (by assumption) rfl rfl (by omega) (by omega)) ?_
               refine .mg rfl rfl rfl rfl rfl rfl (.refl _) (.loadI on_2_A (by assumption) rfl (by omega)) ?_
               refine .mg rfl rfl rfl rfl rfl rfl (.refl _) (.move rfl) ?_
               refine .mg rfl rfl rfl rfl rfl rfl (.refl _) (.move rfl) ?_
               refine .mg rfl rfl rfl rfl rfl rfl (.refl _) (.nilCheck rfl) ?_
               refine .mg rfl rfl rfl rfl rfl rfl (.refl _) (.fieldAddr fo_37_3_E rfl) ?_
               refine .mg rfl rfl rfl rfl rfl rfl (.refl _) (.load on_22_B rfl (by assumption)) ?_
               refine .mg rfl rfl rfl rfl rfl rfl (.refl _) (.move rfl) ?_
               refine .mg rfl rfl rfl rfl rfl rfl (.refl _) (.idxN sl_22_A (by assumption) rfl rfl (by omega)) ?_
               refine .mg rfl rfl rfl rfl rfl rfl (.refl _) (.loadI on_2_A (by assumption) rfl (by omega)) ?_
               refine .mg rfl rfl rfl rfl rfl rfl (.refl _) (.move rfl) ?_
               refine .mg rfl rfl rfl rfl rfl rfl (.refl _) (.nilCheck rfl) ?_
               refine .mg rfl rfl rfl rfl rfl rfl (.refl _) (.fieldAddr fo_37_3_E rfl) ?_
               refine .mg rfl rfl rfl rfl rfl rfl (.refl _) (.load on_22_B rfl (by assumption)) ?_
               refine .mg rfl rfl rfl rfl rfl rfl (.refl _) (.move rfl) ?_
               refine .mg rfl rfl rfl rfl rfl rfl (.refl _) (.idxN sl_22_A (by assumption) rfl rfl (by omega)) ?_
               refine .mg rfl rfl rfl rfl rfl rfl (.refl _) (.loadI on_2_A (by assumption) rfl (by omega)) ?_
               refine .callQ1g rfl rfl rfl rfl rfl rfl rfl @Try.call45 rfl (then_s) (.refl _) ?_
               refine .mg rfl rfl rfl rfl rfl rfl (.refl _) (.cmp rfl rfl rfl) ?_
               refine .m rfl rfl rfl rfl (.refl _) (.pickT rfl rfl) ?_
               refine .done ?_
               refine hK37 _ _ ?_
               refine .cond rfl (fun h192 => ?_) (fun h192 => ?_)
               ·
                try simp only [sps] at h192
                refine .seq (fun K38 hK38 => ?_)
                refine .region ?_
                refine .m rfl rfl rfl (.assign rfl) ?_
                refine .nil ?_
                refine hK38 _ _ ?_
                refine .ret ?_
                -- leaf e8
                refine hret _ _ ?_
                refine ⟨_, rfl, ?_⟩
                exact .of (congrArg _ (B_false fun hF => h192 (hF.th k (by omega) j (by omega) ((hS.th_ge (by omega) (by omega)).1 (by rw [Cat.th_nat]; omega)))))
               ·
                try simp only [sps] at h192
                refine .skip ?_
                refine hK35 _ _ ?_
                refine .region ?_
                refine .m rfl rfl rfl (.add rfl rfl rfl (by omega) (by omega)) ?_
                refine .m rfl rfl rfl (.move rfl) ?_
                refine .nil ?_
                refine hKL4 (j + 1) _ _ ?_ ?_ ⟨rfl, rfl, rfl, rfl, rfl, rfl, rfl, rfl, rfl, trivial⟩
                ·
                 refine ⟨rfl, ?_⟩
                 refine ⟨by omega, fun x hx => ?_⟩
                 by_cases e : x < j
                 · exact ha4 x e
                 · obtain rfl : x = j := by omega
                   first
                     | exact fun _ => h192
                     | exact fun e => absurd ((hS.th_ge (by omega) (by omega)).2 e) (by rw [Cat.th_nat]; omega)
                ·
                 omega
              ·
               try simp only [sps] at h167
               refine .sg rfl rfl rfl rfl rfl rfl ?_
               refine .sg rfl rfl rfl rfl rfl rfl ?_
               refine .sg rfl rfl rfl rfl rfl rfl ?_
               refine .sg rfl rfl rfl rfl rfl rfl ?_
               refine .sg rfl rfl rfl rfl rfl rfl ?_
               refine .sg rfl rfl rfl rfl rfl rfl ?_
               refine .sg rfl rfl rfl rfl rfl rfl ?_
               refine .sg rfl rfl rfl rfl rfl rfl ?_
               refine .sg rfl rfl rfl rfl rfl rfl ?_
               refine .sg rfl rfl rfl rfl rfl rfl ?_
               refine .sg rfl rfl rfl rfl rfl rfl ?_
               refine .sg rfl rfl rfl rfl rfl rfl ?_
               refine .sg rfl rfl rfl rfl rfl rfl ?_
               refine .sg rfl rfl rfl rfl rfl rfl ?_
               refine .sg rfl rfl rfl rfl rfl rfl ?_
               refine .sg rfl rfl rfl rfl rfl rfl ?_
               refine .sg rfl rfl rfl rfl rfl rfl ?_
               refine .sg rfl rfl rfl rfl rfl rfl ?_
               refine .sg rfl rfl rfl rfl rfl rfl ?_
               refine .sg rfl rfl rfl rfl rfl rfl ?_
               refine .sg rfl rfl rfl rfl rfl rfl ?_
               refine .sg rfl rfl rfl rfl rfl rfl ?_
               refine .sgc rfl rfl rfl rfl rfl rfl ?_
               refine .sg rfl rfl rfl rfl rfl rfl ?_
               refine .m rfl rfl rfl rfl (.refl _) (.pickF rfl rfl) ?_
               refine .done ?_
               refine hK37 _ _ ?_
               refine .condF rfl ?_
               refine .skip ?_
               refine hK35 _ _ ?_
               refine .region ?_
               refine .m rfl rfl rfl (.add rfl rfl rfl (by omega) (by omega)) ?_
               refine .m rfl rfl rfl (.move rfl) ?_
               refine .nil ?_
               refine hKL4 (j + 1) _ _ ?_ ?_ ⟨rfl, rfl, rfl, rfl, rfl, rfl, rfl, rfl, rfl, trivial⟩
               ·
                refine ⟨rfl, ?_⟩
                refine ⟨by omega, fun x hx => ?_⟩
                by_cases e : x < j
                · exact ha4 x e
                · obtain rfl : x = j := by omega
                  first
                    | exact fun _ => h192
                    | exact fun e => absurd ((hS.th_ge (by omega) (by omega)).2 e) (by rw [Cat.th_nat]; omega)
               ·
                omega
             ·
              try simp only [sps] at h161
              refine .exit ?_
              refine hK30 _ _ ?_
              refine .region ?_
              refine .m rfl rfl rfl (.add rfl rfl rfl (by omega) (by omega)) ?_
              refine .m rfl rfl rfl (.move rfl) ?_
              refine .nil ?_
              refine hKL3 (k + 1) _ _ ?_ ?_ ⟨rfl, rfl, rfl, rfl, rfl, trivial⟩
              ·
               refine ⟨rfl, ?_⟩
               refine ⟨by omega, fun x hx => ?_⟩
               by_cases e : x < k
               · exact ha3 x e
               · obtain rfl : x = k := by omega
                 exact fun b hb => ha4 b (by omega)
              ·
               omega
           ·
            try simp only [sps] at h154
            refine .exit ?_
            refine hK26 _ _ ?_
            refine .seq (fun K39 hK39 => ?_)
            refine .region ?_
            refine .m rfl rfl rfl (.assign rfl) ?_
            refine .nil ?_
            refine hK39 _ _ ?_
            refine .ret ?_
            -- leaf e9
            refine hret _ _ ?_
            refine ⟨_, rfl, ?_⟩
            exact .of (congrArg _ (B_true ⟨h29, by omega, h51, h60, fun a ha => ha1 a (by omega), fun x hx => ha2 x (by omega), fun a ha => ha3 a (by omega)⟩))
theorem two_sl {H : GHeap} {e : TypeId} {own : Bool} {g1 o1 g2 o2 k : Nat} (h : H.get k = some (.row [.pointer (some ⟨g1, o1, none⟩), .pointer (some ⟨g2, o2, none⟩)] e own)) :
    SlA H (some ⟨k, 0, none⟩) 2 (fun i => .pointer (some ⟨(if i = 0 then g1 else g2), (if i = 0 then o1 else o2), none⟩)) := by
  refine .inr ⟨k, 0, rfl, fun i hi => ?_⟩
  rw [GHeap.cell_of h, Nat.zero_add]
  match i, hi with
  | 0, _ => rfl
  | 1, _ => rfl
theorem areCategories2_c {k g1 o1 g2 o2 : Nat} {e : TypeId} {c1 c2 : Cat} {p1 p2 : CatP} {H : GHeap} (h : H.get k = some (.row [.pointer (some ⟨g1, o1, none⟩), .pointer (some ⟨g2, o2, none⟩)] e true) := by assumption)
    (h1 : Cat.At H g1 o1 c1 p1 := by assumption) (h2 : Cat.At H g2 o2 c2 p2 := by assumption) (hs1 : c1.Small := by assumption) (hs2 : c2.Small := by assumption) :
    GCalls Try.prog 52 [.slice (some ⟨k, 0, none⟩) 2 2] H (Ret (.bool (B (c1.Is ∧ c2.Is))) H) := by
  have := areCategories_c (two_sl h) (by omega) (C := fun i => if i = 0 then c1 else c2) (P := fun i => if i = 0 then p1 else p2)
    (fun i hi => by match i, hi with | 0, _ => exact h1 | 1, _ => exact h2) (fun i hi => by match i, hi with | 0, _ => exact hs1 | 1, _ => exact hs2)
  rw [B_congr (q := c1.Is ∧ c2.Is)] at this
  · exact this
  · exact ⟨fun h => ⟨h 0 (by omega), h 1 (by omega)⟩, fun h i hi => by match i, hi with | 0, _ => exact h.1 | 1, _ => exact h.2⟩
theorem isFunctor_c {g o : Nat} {f : Fun} {p : FunP} {H : GHeap} (h : Fun.At H g o f p := by assumption) (hsm : f.Small := by assumption) :
    GCalls Try.prog 40 [.pointer (some ⟨g, o, none⟩)] H (Ret (.bool (B f.Is)) H) := by
  refine GCalls.ret rfl ?_
  have hsm' := hsm
  obtain ⟨m1, m2, m3, m4⟩ := hsm'
  refine GCalls.body (N := 15) (rs := [.tmp 2]) Try.func40 rfl rfl rfl rfl (fun Qx hret hend => ?_)
  refine .forget (fr' := [(0, some _)]) ⟨rfl, trivial⟩ ?_
  refine .seq (fun K1 hK1 => ?_)
  refine .region ?_
  refine .m rfl rfl rfl (.assign rfl) ?_
  refine .nil ?_
  refine hK1 _ _ ?_
  refine .seq (fun K2 hK2 => ?_)
  refine .regionD mixed_orders_B (.q 0 (.q 1 (.q 2 (.q 3 (.q 4 (.q 5 (.c 6 0 (.c 7 0 (.q 8 (.q 9 (.c 10 0 (.q 11 (.q 12 (.done)))))))))))))) (by kernel_rfl) ?_
  refine .m rfl rfl rfl rfl (.refl _) (.move rfl) ?_
  refine .m rfl rfl rfl rfl (.refl _) (.nilCheck rfl) ?_
  refine .m rfl rfl rfl rfl (.refl _) (.fieldAddr fo_37_0_E rfl) ?_
  refine .m rfl rfl rfl rfl (.refl _) (.move rfl) ?_
  refine .m rfl rfl rfl rfl (.refl _) (.nilCheck rfl) ?_
  refine .m rfl rfl rfl rfl (.refl _) (.fieldAddr fo_37_1_E rfl) ?_
  refine .d0 rfl rfl rfl rfl (.buildSlice rfl sl_82_F ze_57_G rfl rfl (by omega) (by omega) rfl rfl CIs.mk) ?_
  show GTree _ _ _ _ _ _ (H.push (.row [.pointer (some ⟨g, o + 0, none⟩), .pointer (some ⟨g, o + 5, none⟩)] 57 true)) (H.push (.row [.pointer (some ⟨g, o + 0, none⟩), .pointer (some ⟨g, o + 5, none⟩)] 57 true))
  have hle := GHeap.le_push H (.row [.pointer (some ⟨g, o + 0, none⟩), .pointer (some ⟨g, o + 5, none⟩)] 57 true)
  have hn := GHeap.get_push_new H (.row [.pointer (some ⟨g, o + 0, none⟩), .pointer (some ⟨g, o + 5, none⟩)] 57 true)
  generalize H.push (.row [.pointer (some ⟨g, o + 0, none⟩), .pointer (some ⟨g, o + 5, none⟩)] 57 true) = H1 at *
  generalize H.next = k at hn ⊢
  have hf := h.mono hle
  obtain ⟨fs, ft, c10, c11, j1, j2⟩ := hf.get
  refine .callQ0 rfl rfl rfl rfl rfl @Try.call52 rfl (areCategories2_c) ?_
  refine .m rfl rfl rfl rfl (.refl _) (.move rfl) ?_
  refine .split (fun h11 => ?_) (fun h11 => ?_)
  ·
   simp only [B_iff] at h11
   obtain ⟨hI1, hI2⟩ := h11
   refine .mg rfl rfl rfl rfl rfl rfl (.refl _) (.move rfl) ?_
   refine .callQ0g rfl rfl rfl rfl rfl rfl rfl @Try.call53 rfl (fits_c) ?_
   refine .m rfl rfl rfl rfl (.refl _) (.pickT rfl rfl) ?_
   refine .m rfl rfl rfl rfl (.refl _) (.assign rfl) ?_
   refine .done ?_
   refine hK2 _ _ ?_
   refine .ret ?_
   -- leaf e1
   refine hret _ _ ?_
   refine ⟨_, rfl, ?_⟩
   first
   | exact ⟨congrArg _ (B_congr ⟨fun hI => hI.2.2, fun hF => ⟨hI1, hI2, hF⟩⟩), hle⟩
   | exact ⟨congrArg _ (B_false fun hI => h11 ⟨hI.1, hI.2.1⟩), hle⟩
   | exact ⟨congrArg _ (B_false fun hI => by simp [hI.1, hI.2.1] at h11), hle⟩
  ·
   try simp only [sps] at h11
   refine .sg rfl rfl rfl rfl rfl rfl ?_
   refine .sgc rfl rfl rfl rfl rfl rfl ?_
   refine .m rfl rfl rfl rfl (.refl _) (.pickF rfl rfl) ?_
   refine .m rfl rfl rfl rfl (.refl _) (.assign rfl) ?_
   refine .done ?_
   refine hK2 _ _ ?_
   refine .ret ?_
   -- leaf e2
   refine hret _ _ ?_
   refine ⟨_, rfl, ?_⟩
   first
   | exact ⟨congrArg _ (B_congr ⟨fun hI => hI.2.2, fun hF => ⟨hI1, hI2, hF⟩⟩), hle⟩
   | exact ⟨congrArg _ (B_false fun hI => h11 ⟨hI.1, hI.2.1⟩), hle⟩
   | exact ⟨congrArg _ (B_false fun hI => by simp [hI.1, hI.2.1] at h11), hle⟩
theorem areFunctors_c {a : Option Addr} {n : Nat} {G O : Nat → Nat} {C : Nat → Fun} {P : Nat → FunP} {H : GHeap} (h : SlA H a n (fun i => .pointer (some ⟨G i, O i, none⟩)) := by assumption) (hn : n ≤ 1048576 := by omega) (hc : ∀ i, i < n → Fun.At H (G i) (O i) (C i) (P i) := by assumption) (hs : ∀ i, i < n → (C i).Small := by assumption) :
    GCalls Try.prog 23 [.slice a n n] H (Ret (.bool (B (∀ i, i < n → (C i).Is))) H) := by
  refine GCalls.body (N := 15) (rs := [.tmp 2]) Try.func23 rfl rfl rfl rfl (fun Qx hret hend => ?_)
  refine .forget (fr' := [(0, some _)]) ⟨rfl, trivial⟩ ?_
  refine .seq (fun K1 hK1 => ?_)
  refine .region ?_
  refine .m rfl rfl rfl (.assign rfl) ?_
  refine .nil ?_
  refine hK1 _ _ ?_
  refine .seq (fun K2 hK2 => ?_)
  refine .seq (fun K3 hK3 => ?_)
  refine .region ?_
  refine .m rfl rfl rfl (.move rfl) ?_
  refine .m rfl rfl rfl (.len sl_68_G rfl) ?_
  refine .m rfl rfl rfl (.move rfl) ?_
  refine .nil ?_
  refine hK3 _ _ ?_
  refine .block ?_
  refine .loopR (σ := Nat) [(5, some _), (6, some _)] (fun k => [(7, some (.int .i64 (k : Int)))]) (fun k H' => H = H' ∧ k ≤ n ∧ ∀ i, i < k → (C i).Is) (fun k => n - k) (0) ⟨rfl, rfl, trivial⟩ ⟨rfl, trivial⟩ ?_ ?_
  ·
   refine ⟨rfl, ?_⟩
   exact ⟨by omega, fun i hi => by omega⟩
  ·
   rintro k _ ⟨rfl, hI⟩ KL1 hKL1
   refine .forget (fr' := [(7, some (.int .i64 (k : Int))), (5, some _), (6, some _)]) ⟨rfl, rfl, rfl, trivial⟩ ?_
   obtain ⟨hk, hall⟩ := hI
   refine .seq (fun K4 hK4 => ?_)
   refine .region ?_
   refine .m rfl rfl rfl (.cmp rfl rfl rfl) ?_
   refine .nil ?_
   refine hK4 _ _ ?_
   refine .seq (fun K5 hK5 => ?_)
   refine .cond rfl (fun h8 => ?_) (fun h8 => ?_)
   ·
    try simp only [sps] at h8
    refine .skip ?_
    refine hK5 _ _ ?_
    refine .seq (fun K6 hK6 => ?_)
    refine .block ?_
    refine .seq (fun K7 hK7 => ?_)
    refine .region ?_
    have q1 := hc k (by omega)
    have q2 := hs k (by omega)
    refine .m rfl rfl rfl (.idxN sl_68_G h rfl rfl (by omega)) ?_
    refine .m rfl rfl rfl (.loadE on_54_G h rfl (by omega)) ?_
    refine .m rfl rfl rfl (.assign rfl) ?_
    refine .nil ?_
    refine hK7 _ _ ?_
    refine .seq (fun K8 hK8 => ?_)
    refine .region ?_
    refine .m rfl rfl rfl (.move rfl) ?_
    refine .callQ rfl rfl rfl rfl @Try.call40 rfl (isFunctor_c) ?_
    refine .m rfl rfl rfl (.not rfl) ?_
    refine .nil ?_
    refine hK8 _ _ ?_
    refine .cond rfl (fun h13 => ?_) (fun h13 => ?_)
    ·
     try simp only [sps] at h13
     refine .seq (fun K9 hK9 => ?_)
     refine .region ?_
     refine .m rfl rfl rfl (.assign rfl) ?_
     refine .nil ?_
     refine hK9 _ _ ?_
     refine .ret ?_
     -- leaf e1
     refine hret _ _ ?_
     refine ⟨_, rfl, ?_⟩
     exact .of (congrArg _ (B_false fun e => by have := e k (by omega); simp_all))
    ·
     try simp only [sps] at h13
     refine .skip ?_
     refine hK6 _ _ ?_
     refine .region ?_
     refine .m rfl rfl rfl (.add rfl rfl rfl (by omega) (by omega)) ?_
     refine .m rfl rfl rfl (.move rfl) ?_
     refine .nil ?_
     refine hKL1 (k + 1) _ _ ?_ ?_ ⟨rfl, rfl, rfl, trivial⟩
     ·
      refine ⟨rfl, ?_⟩
      refine ⟨by omega, fun i hi => ?_⟩
      by_cases e : i < k
      · exact hall i e
      · obtain rfl : i = k := by omega
        assumption
     ·
      omega
   ·
    try simp only [sps] at h8
    refine .exit ?_
    refine hK2 _ _ ?_
    refine .seq (fun K10 hK10 => ?_)
    refine .region ?_
    refine .m rfl rfl rfl (.assign rfl) ?_
    refine .nil ?_
    refine hK10 _ _ ?_
    refine .ret ?_
    -- leaf e2
    refine hret _ _ ?_
    refine ⟨_, rfl, ?_⟩
    exact .of (congrArg _ (B_true fun i hi => hall i (by omega)))
theorem areFunctors2_c {k g1 o1 g2 o2 : Nat} {e : TypeId} {c1 c2 : Fun} {p1 p2 : FunP} {H : GHeap} (h : H.get k = some (.row [.pointer (some ⟨g1, o1, none⟩), .pointer (some ⟨g2, o2, none⟩)] e true) := by assumption)
    (h1 : Fun.At H g1 o1 c1 p1 := by assumption) (h2 : Fun.At H g2 o2 c2 p2 := by assumption) (hs1 : c1.Small := by assumption) (hs2 : c2.Small := by assumption) :
    GCalls Try.prog 23 [.slice (some ⟨k, 0, none⟩) 2 2] H (Ret (.bool (B (c1.Is ∧ c2.Is))) H) := by
  have := areFunctors_c (two_sl h) (by omega) (C := fun i => if i = 0 then c1 else c2) (P := fun i => if i = 0 then p1 else p2)
    (fun i hi => by match i, hi with | 0, _ => exact h1 | 1, _ => exact h2) (fun i hi => by match i, hi with | 0, _ => exact hs1 | 1, _ => exact hs2)
  rw [B_congr (q := c1.Is ∧ c2.Is)] at this
  · exact this
  · exact ⟨fun h => ⟨h 0 (by omega), h 1 (by omega)⟩, fun h i hi => by match i, hi with | 0, _ => exact h.1 | 1, _ => exact h.2⟩
end Go.Proofs.Ytgjicdipcofgcaa
