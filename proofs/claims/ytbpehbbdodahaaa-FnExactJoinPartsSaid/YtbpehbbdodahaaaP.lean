/- Set functors, in the program. No condition but those of each statement. -/
import Derived.Test.YtbpehbbdodahaaaG
import Derived.Test.YtbpehbbdodahaaaGlX
namespace Go.Proofs.Ytbpehbbdodahaaa
open Go Go.GL Go.RowKit Go.Proofs
theorem fo_39_0_P : fieldOff Try.prog 39 0 = some 0 := by kernel_rfl
theorem fo_39_1_P : fieldOff Try.prog 39 1 = some 5 := by kernel_rfl
theorem fo_39_2_P : fieldOff Try.prog 39 2 = some 6 := by kernel_rfl
theorem isMapOf_c {a : Option Addr} {xs : List Int} {m n : Int} {H : GHeap} (h : Ints H a xs := by assumption) (hn : -9223372036854775808 < n := by omega) (hn' : n ≤ 9223372036854775807 := by omega) (hl : xs.length ≤ 1048576 := by omega) :
    GCalls Try.prog 90 [.slice a xs.length xs.length, .int .i64 m, .int .i64 n] H (Ret (.bool (B ((xs.length : Int) = m ∧ allIn xs n = true))) H) := by
  refine GCalls.body (N := 16) (rs := [.tmp 6]) Try.func90 rfl rfl rfl rfl (fun Qx hret hend => ?_)
  refine .forget (fr' := [(0, some _), (1, some _), (2, some _)]) ⟨rfl, rfl, rfl, trivial⟩ ?_
  refine .seq (fun K1 hK1 => ?_)
  refine .region ?_
  refine .m rfl rfl rfl (.assign rfl) ?_
  refine .nil ?_
  refine hK1 _ _ ?_
  refine .seq (fun K2 hK2 => ?_)
  refine .region ?_
  refine .m rfl rfl rfl (.move rfl) ?_
  refine .m rfl rfl rfl (.len sl_22_A rfl) ?_
  refine .m rfl rfl rfl (.move rfl) ?_
  refine .m rfl rfl rfl (.cmp rfl rfl rfl) ?_
  refine .m rfl rfl rfl (.move rfl) ?_
  refine .split (fun h11 => ?_) (fun h11 => ?_)
  ·
   simp only [beq_iff_eq, beq_eq_false_iff_ne] at h11
   refine .mg rfl rfl rfl rfl rfl (.move rfl) ?_
   refine .mg rfl rfl rfl rfl rfl (.move rfl) ?_
   refine .callQg rfl rfl rfl rfl rfl rfl @Try.call64 rfl (within_c) ?_
   refine .m rfl rfl rfl (.pickT rfl rfl) ?_
   refine .m rfl rfl rfl (.assign rfl) ?_
   refine .nil ?_
   refine hK2 _ _ ?_
   refine .ret ?_
   -- leaf e1
   refine hret _ _ ?_
   refine ⟨_, rfl, ?_⟩
   first
   | exact .of (congrArg _ (B_false fun hh => h11 hh.1))
   | exact .of (congrArg _ (by rw [Bool.eq_iff_iff, B_iff]; exact ⟨fun hh => hh.2, fun hh => ⟨h11, hh⟩⟩))
  ·
   simp only [beq_iff_eq, beq_eq_false_iff_ne] at h11
   refine .sg rfl rfl rfl rfl rfl ?_
   refine .sg rfl rfl rfl rfl rfl ?_
   refine .sg rfl rfl rfl rfl rfl ?_
   refine .m rfl rfl rfl (.pickF rfl rfl) ?_
   refine .m rfl rfl rfl (.assign rfl) ?_
   refine .nil ?_
   refine hK2 _ _ ?_
   refine .ret ?_
   -- leaf e2
   refine hret _ _ ?_
   refine ⟨_, rfl, ?_⟩
   first
   | exact .of (congrArg _ (B_false fun hh => h11 hh.1))
   | exact .of (congrArg _ (by rw [Bool.eq_iff_iff, B_iff]; exact ⟨fun hh => hh.2, fun hh => ⟨h11, hh⟩⟩))
theorem sfShape_c {g o : Nat} {f : SFun} {p : SFunP} {H : GHeap} (h : SFun.At H g o f p := by assumption) (hs : f.Small := by assumption) : GCalls Try.prog 91 [.pointer (some ⟨g, o, none⟩)] H (Ret (.bool (B f.Shape)) H) := by
  refine GCalls.body (N := 82) (rs := [.tmp 2]) Try.func91 rfl rfl rfl rfl (fun Qx hret hend => ?_)
  refine .forget (fr' := [(0, some _)]) ⟨rfl, trivial⟩ ?_
  have hle := GHeap.Le.refl H
  have base_h := h
  obtain ⟨fsh, c5, c6, i1, i2⟩ := h.get
  have hm : MemN _ _ _ _ _ := ⟨rfl, h.1⟩
  have hi := h.2
  have hmsh : MemN _ _ _ _ _ := ⟨rfl, fsh.1⟩
  have hish := fsh.2
  obtain ⟨c0, c1, c2, c3, c4, d1, d2, d3, d4⟩ := fsh.get
  obtain ⟨s1, s2, s3, s4⟩ := hs
  refine .seq (fun K1 hK1 => ?_)
  refine .region ?_
  refine .m rfl rfl rfl (.assign rfl) ?_
  refine .nil ?_
  refine hK1 _ _ ?_
  refine .seq (fun K2 hK2 => ?_)
  refine .region ?_
  refine .m rfl rfl rfl (.move rfl) ?_
  refine .m rfl rfl rfl (.nilCheck rfl) ?_
  refine .m rfl rfl rfl (.fieldAddr fo_39_0_P rfl) ?_
  refine .m rfl rfl rfl (.assign rfl) ?_
  refine .nil ?_
  refine hK2 _ _ ?_
  refine .seq (fun K3 hK3 => ?_)
  refine .seq (fun K4 hK4 => ?_)
  refine .regionD mixed_orders_B (.q 0 (.c 1 0 (.q 2 (.q 3 (.q 4 (.q 5 (.q 6 (.q 7 (.q 8 (.q 9 (.q 10 (.q 11 (.q 12 (.q 13 (.q 14 (.q 15 (.q 16 (.q 17 (.q 18 (.q 19 (.c 20 0 (.q 21 (.q 22 (.q 23 (.q 24 (.q 25 (.q 26 (.q 27 (.q 28 (.q 29 (.c 30 1 (.q 31 (.q 32 (.done)))))))))))))))))))))))))))))))))) (by kernel_rfl) ?_
  refine .m rfl rfl rfl rfl (.refl _) (.move rfl) ?_
  refine .callQ0 rfl rfl rfl rfl rfl @Try.call96 rfl (isCategory_c) ?_
  refine .m rfl rfl rfl rfl (.refl _) (.not rfl) ?_
  refine .m rfl rfl rfl rfl (.refl _) (.move rfl) ?_
  refine .split (fun h12 => ?_) (fun h12 => ?_)
  ·
   try simp only [sps] at h12
   refine .sg rfl rfl rfl rfl rfl rfl ?_
   refine .sg rfl rfl rfl rfl rfl rfl ?_
   refine .sg rfl rfl rfl rfl rfl rfl ?_
   refine .sg rfl rfl rfl rfl rfl rfl ?_
   refine .sg rfl rfl rfl rfl rfl rfl ?_
   refine .sg rfl rfl rfl rfl rfl rfl ?_
   refine .sg rfl rfl rfl rfl rfl rfl ?_
   refine .sg rfl rfl rfl rfl rfl rfl ?_
   refine .sg rfl rfl rfl rfl rfl rfl ?_
   refine .sg rfl rfl rfl rfl rfl rfl ?_
   refine .m rfl rfl rfl rfl (.refl _) (.pickT rfl rfl) ?_
   refine .m rfl rfl rfl rfl (.refl _) (.move rfl) ?_
   refine .sg rfl rfl rfl rfl rfl rfl ?_
   refine .sg rfl rfl rfl rfl rfl rfl ?_
   refine .sg rfl rfl rfl rfl rfl rfl ?_
   refine .sg rfl rfl rfl rfl rfl rfl ?_
   refine .sgc rfl rfl rfl rfl rfl rfl ?_
   refine .sg rfl rfl rfl rfl rfl rfl ?_
   refine .m rfl rfl rfl rfl (.refl _) (.pickT rfl rfl) ?_
   refine .m rfl rfl rfl rfl (.refl _) (.move rfl) ?_
   refine .sg rfl rfl rfl rfl rfl rfl ?_
   refine .sg rfl rfl rfl rfl rfl rfl ?_
   refine .sg rfl rfl rfl rfl rfl rfl ?_
   refine .sg rfl rfl rfl rfl rfl rfl ?_
   refine .sg rfl rfl rfl rfl rfl rfl ?_
   refine .sg rfl rfl rfl rfl rfl rfl ?_
   refine .sgc rfl rfl rfl rfl rfl rfl ?_
   refine .sg rfl rfl rfl rfl rfl rfl ?_
   refine .m rfl rfl rfl rfl (.refl _) (.pickT rfl rfl) ?_
   refine .done ?_
   refine hK4 _ _ ?_
   refine .condT rfl ?_
   refine .seq (fun K5 hK5 => ?_)
   refine .region ?_
   refine .m rfl rfl rfl (.assign rfl) ?_
   refine .nil ?_
   refine hK5 _ _ ?_
   refine .ret ?_
   -- leaf e1
   refine hret _ _ ?_
   refine ⟨_, rfl, ?_⟩
   exact .of (congrArg _ (B_false fun hh => h12 hh.c))
  ·
   try simp only [sps] at h12
   refine .mg rfl rfl rfl rfl rfl rfl (.refl _) (.move rfl) ?_
   refine .mg rfl rfl rfl rfl rfl rfl (.refl _) (.nilCheck rfl) ?_
   refine .mg rfl rfl rfl rfl rfl rfl (.refl _) (.fieldAddr fo_39_1_P rfl) ?_
   refine .mg rfl rfl rfl rfl rfl rfl (.refl _) (.load on_22_B rfl (by assumption)) ?_
   refine .mg rfl rfl rfl rfl rfl rfl (.refl _) (.len sl_22_A rfl) ?_
   refine .mg rfl rfl rfl rfl rfl rfl (.refl _) (.move rfl) ?_
   refine .mg rfl rfl rfl rfl rfl rfl (.refl _) (.nilCheck rfl) ?_
   refine .mg rfl rfl rfl rfl rfl rfl (.refl _) (.fieldAddr fo_37_0_B rfl) ?_
   refine .mg rfl rfl rfl rfl rfl rfl (.refl _) (.load on_2_A rfl (by assumption)) ?_
   refine .mg rfl rfl rfl rfl rfl rfl (.refl _) (.cmp rfl rfl rfl) ?_
   refine .m rfl rfl rfl rfl (.refl _) (.pickF rfl rfl) ?_
   refine .m rfl rfl rfl rfl (.refl _) (.move rfl) ?_
   refine .split (fun h24 => ?_) (fun h24 => ?_)
   ·
    try simp only [sps] at h24
    refine .sg rfl rfl rfl rfl rfl rfl ?_
    refine .sg rfl rfl rfl rfl rfl rfl ?_
    refine .sg rfl rfl rfl rfl rfl rfl ?_
    refine .sg rfl rfl rfl rfl rfl rfl ?_
    refine .sgc rfl rfl rfl rfl rfl rfl ?_
    refine .sg rfl rfl rfl rfl rfl rfl ?_
    refine .m rfl rfl rfl rfl (.refl _) (.pickT rfl rfl) ?_
    refine .m rfl rfl rfl rfl (.refl _) (.move rfl) ?_
    refine .sg rfl rfl rfl rfl rfl rfl ?_
    refine .sg rfl rfl rfl rfl rfl rfl ?_
    refine .sg rfl rfl rfl rfl rfl rfl ?_
    refine .sg rfl rfl rfl rfl rfl rfl ?_
    refine .sg rfl rfl rfl rfl rfl rfl ?_
    refine .sg rfl rfl rfl rfl rfl rfl ?_
    refine .sgc rfl rfl rfl rfl rfl rfl ?_
    refine .sg rfl rfl rfl rfl rfl rfl ?_
    refine .m rfl rfl rfl rfl (.refl _) (.pickT rfl rfl) ?_
    refine .done ?_
    refine hK4 _ _ ?_
    refine .condT rfl ?_
    refine .seq (fun K6 hK6 => ?_)
    refine .region ?_
    refine .m rfl rfl rfl (.assign rfl) ?_
    refine .nil ?_
    refine hK6 _ _ ?_
    refine .ret ?_
    -- leaf e2
    refine hret _ _ ?_
    refine ⟨_, rfl, ?_⟩
    exact .of (congrArg _ (B_false fun hh => h24 hh.zl))
   ·
    try simp only [sps] at h24
    refine .mg rfl rfl rfl rfl rfl rfl (.refl _) (.move rfl) ?_
    refine .mg rfl rfl rfl rfl rfl rfl (.refl _) (.nilCheck rfl) ?_
    refine .mg rfl rfl rfl rfl rfl rfl (.refl _) (.fieldAddr fo_39_1_P rfl) ?_
    refine .mg rfl rfl rfl rfl rfl rfl (.refl _) (.load on_22_B rfl (by assumption)) ?_
    refine .callQ0g rfl rfl rfl rfl rfl rfl rfl @Try.call64 rfl (within_c) ?_
    refine .mg rfl rfl rfl rfl rfl rfl (.refl _) (.not rfl) ?_
    refine .m rfl rfl rfl rfl (.refl _) (.pickF rfl rfl) ?_
    refine .m rfl rfl rfl rfl (.refl _) (.move rfl) ?_
    refine .split (fun h32 => ?_) (fun h32 => ?_)
    ·
     try simp only [sps] at h32
     refine .sg rfl rfl rfl rfl rfl rfl ?_
     refine .sg rfl rfl rfl rfl rfl rfl ?_
     refine .sg rfl rfl rfl rfl rfl rfl ?_
     refine .sg rfl rfl rfl rfl rfl rfl ?_
     refine .sg rfl rfl rfl rfl rfl rfl ?_
     refine .sg rfl rfl rfl rfl rfl rfl ?_
     refine .sgc rfl rfl rfl rfl rfl rfl ?_
     refine .sg rfl rfl rfl rfl rfl rfl ?_
     refine .m rfl rfl rfl rfl (.refl _) (.pickT rfl rfl) ?_
     refine .done ?_
     refine hK4 _ _ ?_
     refine .condT rfl ?_
     refine .seq (fun K7 hK7 => ?_)
     refine .region ?_
     refine .m rfl rfl rfl (.assign rfl) ?_
     refine .nil ?_
     refine hK7 _ _ ?_
     refine .ret ?_
     -- leaf e3
     refine hret _ _ ?_
     refine ⟨_, rfl, ?_⟩
     exact .of (congrArg _ (B_false fun hh => by rw [allIn_iff.2 fun i hi => by have := hh.sz i hi; omega] at h32; cases h32))
    ·
     try simp only [sps] at h32
     refine .mg rfl rfl rfl rfl rfl rfl (.refl _) (.move rfl) ?_
     refine .mg rfl rfl rfl rfl rfl rfl (.refl _) (.nilCheck rfl) ?_
     refine .mg rfl rfl rfl rfl rfl rfl (.refl _) (.fieldAddr fo_39_2_P rfl) ?_
     refine .mg rfl rfl rfl rfl rfl rfl (.refl _) (.load on_23_B rfl (by assumption)) ?_
     refine .mg rfl rfl rfl rfl rfl rfl (.refl _) (.len sl_23_B rfl) ?_
     refine .mg rfl rfl rfl rfl rfl rfl (.refl _) (.move rfl) ?_
     refine .callQ1g rfl rfl rfl rfl rfl rfl rfl @Try.call97 rfl (arrows_c) (.refl _) ?_
     refine .mg rfl rfl rfl rfl rfl rfl (.refl _) (.cmp rfl rfl rfl) ?_
     refine .m rfl rfl rfl rfl (.refl _) (.pickF rfl rfl) ?_
     refine .done ?_
     refine hK4 _ _ ?_
     refine .cond rfl (fun h41 => ?_) (fun h41 => ?_)
     ·
      try simp only [sps] at h41
      refine .seq (fun K8 hK8 => ?_)
      refine .region ?_
      refine .m rfl rfl rfl (.assign rfl) ?_
      refine .nil ?_
      refine hK8 _ _ ?_
      refine .ret ?_
      -- leaf e4
      refine hret _ _ ?_
      refine ⟨_, rfl, ?_⟩
      exact .of (congrArg _ (B_false fun hh => by have := hh.al; omega))
     ·
      try simp only [sps] at h41
      refine .skip ?_
      refine hK3 _ _ ?_
      refine .seq (fun K9 hK9 => ?_)
      refine .seq (fun K10 hK10 => ?_)
      refine .region ?_
      refine .m rfl rfl rfl (.move rfl) ?_
      refine .m rfl rfl rfl (.nilCheck rfl) ?_
      refine .m rfl rfl rfl (.fieldAddr fo_39_2_P rfl) ?_
      refine .m rfl rfl rfl (.load on_23_B rfl (by assumption)) ?_
      refine .m rfl rfl rfl (.len sl_23_B rfl) ?_
      refine .m rfl rfl rfl (.move rfl) ?_
      refine .nil ?_
      refine hK10 _ _ ?_
      refine .block ?_
      have hC := h12
      have hS := hC.1
      have q1 := hS.tl
      have q2 := hS.obj
      refine .loopR (σ := Nat) [(0, some _), (3, some _), (45, some _), (46, some _)] (fun k => [(47, some (.int .i64 (k : Int)))]) (fun k H' => H = H' ∧ (k : Int) ≤ f.ac.length ∧ ∀ a, a < k → f.AcOk a) (fun k => (f.ac.length - k : Int).toNat) (0) ⟨rfl, rfl, rfl, rfl, trivial⟩ ⟨rfl, trivial⟩ ?_ ?_
      ·
       refine ⟨rfl, ?_⟩
       exact ⟨by omega, fun _ _ => by omega⟩
      ·
       rintro k _ ⟨rfl, hI⟩ KL1 hKL1
       refine .forget (fr' := [(47, some (.int .i64 (k : Int))), (0, some _), (3, some _), (45, some _), (46, some _)]) ⟨rfl, rfl, rfl, rfl, rfl, trivial⟩ ?_
       obtain ⟨hk1, ha1⟩ := hI
       refine .seq (fun K11 hK11 => ?_)
       refine .region ?_
       refine .m rfl rfl rfl (.cmp rfl rfl rfl) ?_
       refine .nil ?_
       refine hK11 _ _ ?_
       refine .seq (fun K12 hK12 => ?_)
       refine .cond rfl (fun h48 => ?_) (fun h48 => ?_)
       ·
        simp only [sps] at h48
        have q3 := hS.src k (by omega)
        have q4 := hS.tgt k (by omega)
        have q5 := h32 (f.sh.tgt.getD k 0).toNat (by omega)
        have q6 := i2.2 k (by omega)
        have q7 := s4 k
        refine .skip ?_
        refine hK12 _ _ ?_
        refine .seq (fun K13 hK13 => ?_)
        refine .block ?_
        refine .seq (fun K14 hK14 => ?_)
        refine .region ?_
        refine .m rfl rfl rfl (.move rfl) ?_
        refine .m rfl rfl rfl (.idxN sl_23_B (Intss.sl (by assumption)) rfl rfl (by omega)) ?_
        refine .m rfl rfl rfl (.loadR on_22_B (by assumption) rfl (by omega)) ?_
        refine .m rfl rfl rfl (.assign rfl) ?_
        refine .m rfl rfl rfl (.assign rfl) ?_
        refine .nil ?_
        refine hK14 _ _ ?_
        refine .seq (fun K15 hK15 => ?_)
        refine .regionD mixed_orders_B (.q 0 (.q 1 (.q 2 (.q 3 (.q 4 (.q 5 (.q 6 (.q 7 (.q 8 (.q 9 (.q 10 (.q 11 (.q 12 (.q 13 (.q 14 (.q 15 (.q 16 (.q 17 (.q 18 (.q 19 (.q 20 (.q 21 (.q 22 (.q 23 (.q 24 (.q 25 (.q 26 (.c 27 0 (.q 28 (.done)))))))))))))))))))))))))))))) (by kernel_rfl) ?_
        refine .m rfl rfl rfl rfl (.refl _) (.move rfl) ?_
        refine .m rfl rfl rfl rfl (.refl _) (.move rfl) ?_
        refine .m rfl rfl rfl rfl (.refl _) (.nilCheck rfl) ?_
        refine .m rfl rfl rfl rfl (.refl _) (.fieldAddr fo_39_1_P rfl) ?_
        refine .m rfl rfl rfl rfl (.refl _) (.load on_22_B rfl (by assumption)) ?_
        refine .m rfl rfl rfl rfl (.refl _) (.move rfl) ?_
        refine .m rfl rfl rfl rfl (.refl _) (.nilCheck rfl) ?_
        refine .m rfl rfl rfl rfl (.refl _) (.fieldAddr fo_37_1_B rfl) ?_
        refine .m rfl rfl rfl rfl (.refl _) (.load on_22_B rfl (by assumption)) ?_
        refine .m rfl rfl rfl rfl (.refl _) (.move rfl) ?_
        refine .m rfl rfl rfl rfl (.refl _) (.idxN sl_22_A (by assumption) rfl rfl (by omega)) ?_
        refine .m rfl rfl rfl rfl (.refl _) (.loadI on_2_A (by assumption) rfl (by omega)) ?_
        refine .m rfl rfl rfl rfl (.refl _) (.idx1 sl_22_A (by assumption) rfl rfl (by omega) (by omega)) ?_
        refine .m rfl rfl rfl rfl (.refl _) (.loadI on_2_A (by assumption) rfl (by omega)) ?_
        refine .m rfl rfl rfl rfl (.refl _) (.move rfl) ?_
        refine .m rfl rfl rfl rfl (.refl _) (.nilCheck rfl) ?_
        refine .m rfl rfl rfl rfl (.refl _) (.fieldAddr fo_39_1_P rfl) ?_
        refine .m rfl rfl rfl rfl (.refl _) (.load on_22_B rfl (by assumption)) ?_
        refine .m rfl rfl rfl rfl (.refl _) (.move rfl) ?_
        refine .m rfl rfl rfl rfl (.refl _) (.nilCheck rfl) ?_
        refine .m rfl rfl rfl rfl (.refl _) (.fieldAddr fo_37_2_B rfl) ?_
        refine .m rfl rfl rfl rfl (.refl _) (.load on_22_B rfl (by assumption)) ?_
        refine .m rfl rfl rfl rfl (.refl _) (.move rfl) ?_
        refine .m rfl rfl rfl rfl (.refl _) (.idxN sl_22_A (by assumption) rfl rfl (by omega)) ?_
        refine .m rfl rfl rfl rfl (.refl _) (.loadI on_2_A (by assumption) rfl (by omega)) ?_
        refine .m rfl rfl rfl rfl (.refl _) (.idx1 sl_22_A (by assumption) rfl rfl (by omega) (by omega)) ?_
        refine .m rfl rfl rfl rfl (.refl _) (.loadI on_2_A (by assumption) rfl (by omega)) ?_
        refine .callQ0 rfl rfl rfl rfl rfl @Try.call90 rfl (isMapOf_c) ?_
        refine .m rfl rfl rfl rfl (.refl _) (.not rfl) ?_
        refine .done ?_
        refine hK15 _ _ ?_
        refine .cond rfl (fun h80 => ?_) (fun h80 => ?_)
        ·
         simp only [B_iff, B_not, Bool.not_eq_true', Bool.not_eq_false'] at h80
         refine .seq (fun K16 hK16 => ?_)
         refine .region ?_
         refine .m rfl rfl rfl (.assign rfl) ?_
         refine .nil ?_
         refine hK16 _ _ ?_
         refine .ret ?_
         -- leaf e5
         refine hret _ _ ?_
         refine ⟨_, rfl, ?_⟩
         exact .of (congrArg _ (B_false fun hh => h80 (hh.ac k (by omega))))
        ·
         simp only [B_iff, B_not, Bool.not_eq_true', Bool.not_eq_false'] at h80
         refine .skip ?_
         refine hK13 _ _ ?_
         refine .region ?_
         refine .m rfl rfl rfl (.add rfl rfl rfl (by omega) (by omega)) ?_
         refine .m rfl rfl rfl (.move rfl) ?_
         refine .nil ?_
         refine hKL1 (k + 1) _ _ ?_ ?_ ⟨rfl, rfl, rfl, rfl, rfl, trivial⟩
         ·
          refine ⟨rfl, ?_⟩
          refine ⟨by omega, fun a hx => ?_⟩
          by_cases hltq : a < k
          · exact ha1 a hltq
          · obtain rfl : a = k := by omega
            exact h80
         ·
          omega
       ·
        try simp only [sps] at h48
        refine .exit ?_
        refine hK9 _ _ ?_
        refine .seq (fun K17 hK17 => ?_)
        refine .region ?_
        refine .m rfl rfl rfl (.assign rfl) ?_
        refine .nil ?_
        refine hK17 _ _ ?_
        refine .ret ?_
        -- leaf e6
        refine hret _ _ ?_
        refine ⟨_, rfl, ?_⟩
        exact .of (congrArg _ (B_true ⟨hC, h24, fun i hi => by have := h32 i hi; omega, by omega, fun a ha => ha1 a (by omega)⟩))
theorem sfFault_c {g o : Nat} {f : SFun} {p : SFunP} {H : GHeap} (h : SFun.At H g o f p := by assumption) (hS : f.Shape := by assumption) :
    GCalls Try.prog 92 [.pointer (some ⟨g, o, none⟩)] H (fun v H' => (∃ k x y z, v = .tuple #[.int .i64 k, .int .i64 x, .int .i64 y, .int .i64 z] ∧ (k = 0 ↔ f.Laws)) ∧ H' = H) := by
  refine GCalls.body (N := 109) (rs := [.tmp 2, .tmp 3, .tmp 4, .tmp 5]) Try.func92 rfl rfl rfl rfl (fun Qx hret hend => ?_)
  refine .forget (fr' := [(0, some _)]) ⟨rfl, trivial⟩ ?_
  have hle := GHeap.Le.refl H
  have base_h := h
  obtain ⟨fsh, c5, c6, i1, i2⟩ := h.get
  have hm : MemN _ _ _ _ _ := ⟨rfl, h.1⟩
  have hi := h.2
  have hmsh : MemN _ _ _ _ _ := ⟨rfl, fsh.1⟩
  have hish := fsh.2
  obtain ⟨c0, c1, c2, c3, c4, d1, d2, d3, d4⟩ := fsh.get
  have hC := hS.c.1
  have q1 := hC.tl
  have q2 := hC.obj
  have q3 := hC.n40
  have q4 := hC.cl
  have q5 := hC.il
  have q6 := hS.al
  have q7 := hS.zl
  refine .seq (fun K1 hK1 => ?_)
  refine .region ?_
  refine .m rfl rfl rfl (.assign rfl) ?_
  refine .m rfl rfl rfl (.assign rfl) ?_
  refine .m rfl rfl rfl (.assign rfl) ?_
  refine .m rfl rfl rfl (.assign rfl) ?_
  refine .nil ?_
  refine hK1 _ _ ?_
  refine .seq (fun K2 hK2 => ?_)
  refine .region ?_
  refine .m rfl rfl rfl (.move rfl) ?_
  refine .m rfl rfl rfl (.nilCheck rfl) ?_
  refine .m rfl rfl rfl (.fieldAddr fo_39_0_P rfl) ?_
  refine .m rfl rfl rfl (.assign rfl) ?_
  refine .nil ?_
  refine hK2 _ _ ?_
  refine .seq (fun K3 hK3 => ?_)
  refine .seq (fun K4 hK4 => ?_)
  refine .region ?_
  refine .m rfl rfl rfl (.move rfl) ?_
  refine .m rfl rfl rfl (.nilCheck rfl) ?_
  refine .m rfl rfl rfl (.fieldAddr fo_37_3_B rfl) ?_
  refine .m rfl rfl rfl (.load on_22_B rfl (by assumption)) ?_
  refine .m rfl rfl rfl (.len sl_22_A rfl) ?_
  refine .m rfl rfl rfl (.move rfl) ?_
  refine .nil ?_
  refine hK4 _ _ ?_
  refine .block ?_
  refine .loopR (σ := Nat) [(0, some _), (6, some _), (23, some _), (24, some _)] (fun k => [(25, some (.int .i64 (k : Int)))]) (fun k H' => H = H' ∧ (k : Int) ≤ f.sh.idn.length ∧ ∀ x, x < k → ∀ e : Nat, e < (f.ac.getD (f.sh.idn.getD x 0).toNat []).length → (f.ac.getD (f.sh.idn.getD x 0).toNat []).getD e 0 = e) (fun k => (f.sh.idn.length - k : Int).toNat) (0) ⟨rfl, rfl, rfl, rfl, trivial⟩ ⟨rfl, trivial⟩ ?_ ?_
  ·
   refine ⟨rfl, ?_⟩
   exact ⟨by omega, fun _ _ => by omega⟩
  ·
   rintro k _ ⟨rfl, hI⟩ KL1 hKL1
   refine .forget (fr' := [(25, some (.int .i64 (k : Int))), (0, some _), (6, some _), (23, some _), (24, some _)]) ⟨rfl, rfl, rfl, rfl, rfl, trivial⟩ ?_
   obtain ⟨hk1, ha1⟩ := hI
   refine .seq (fun K5 hK5 => ?_)
   refine .region ?_
   refine .m rfl rfl rfl (.cmp rfl rfl rfl) ?_
   refine .nil ?_
   refine hK5 _ _ ?_
   refine .seq (fun K6 hK6 => ?_)
   refine .cond rfl (fun h26 => ?_) (fun h26 => ?_)
   ·
    simp only [sps] at h26
    have r1 := hC.idn k (by omega)
    have r2 := i2.2 (f.sh.idn.getD k 0).toNat (by omega)
    have r3 := hS.ends (a := (f.sh.idn.getD k 0).toNat) (by omega)
    have r4 := hS.sz (f.sh.src.getD (f.sh.idn.getD k 0).toNat 0).toNat (by omega)
    refine .skip ?_
    refine hK6 _ _ ?_
    refine .seq (fun K7 hK7 => ?_)
    refine .block ?_
    refine .seq (fun K8 hK8 => ?_)
    refine .region ?_
    refine .m rfl rfl rfl (.move rfl) ?_
    refine .m rfl rfl rfl (.idxN sl_22_A (by assumption) rfl rfl (by omega)) ?_
    refine .m rfl rfl rfl (.loadI on_2_A (by assumption) rfl (by omega)) ?_
    refine .m rfl rfl rfl (.assign rfl) ?_
    refine .m rfl rfl rfl (.assign rfl) ?_
    refine .nil ?_
    refine hK8 _ _ ?_
    refine .seq (fun K9 hK9 => ?_)
    refine .region ?_
    refine .m rfl rfl rfl (.move rfl) ?_
    refine .m rfl rfl rfl (.nilCheck rfl) ?_
    refine .m rfl rfl rfl (.fieldAddr fo_39_2_P rfl) ?_
    refine .m rfl rfl rfl (.load on_23_B rfl (by assumption)) ?_
    refine .m rfl rfl rfl (.move rfl) ?_
    refine .m rfl rfl rfl (.idx1 sl_23_B (Intss.sl (by assumption)) rfl rfl (by omega) (by omega)) ?_
    refine .m rfl rfl rfl (.loadR on_22_B (by assumption) rfl (by omega)) ?_
    refine .m rfl rfl rfl (.len sl_22_A rfl) ?_
    refine .m rfl rfl rfl (.move rfl) ?_
    refine .nil ?_
    refine hK9 _ _ ?_
    refine .block ?_
    refine .loopR (σ := Nat) [(0, some _), (6, some _), (7, some _), (23, some _), (24, some _), (25, some _), (36, some _), (37, some _)] (fun l => [(38, some (.int .i64 (l : Int)))]) (fun l H' => H = H' ∧ (l : Int) ≤ (f.ac.getD (f.sh.idn.getD k 0).toNat []).length ∧ ∀ e, e < l → (f.ac.getD (f.sh.idn.getD k 0).toNat []).getD e 0 = e) (fun l => ((f.ac.getD (f.sh.idn.getD k 0).toNat []).length - l : Int).toNat) (0) ⟨rfl, rfl, rfl, rfl, rfl, rfl, rfl, rfl, trivial⟩ ⟨rfl, trivial⟩ ?_ ?_
    ·
     refine ⟨rfl, ?_⟩
     exact ⟨by omega, fun _ _ => by omega⟩
    ·
     rintro l _ ⟨rfl, hI⟩ KL2 hKL2
     refine .forget (fr' := [(38, some (.int .i64 (l : Int))), (0, some _), (6, some _), (7, some _), (23, some _), (24, some _), (25, some _), (36, some _), (37, some _)]) ⟨rfl, rfl, rfl, rfl, rfl, rfl, rfl, rfl, rfl, trivial⟩ ?_
     obtain ⟨hk2, ha2⟩ := hI
     refine .seq (fun K10 hK10 => ?_)
     refine .region ?_
     refine .m rfl rfl rfl (.cmp rfl rfl rfl) ?_
     refine .nil ?_
     refine hK10 _ _ ?_
     refine .seq (fun K11 hK11 => ?_)
     refine .cond rfl (fun h39 => ?_) (fun h39 => ?_)
     ·
      try simp only [sps] at h39
      refine .skip ?_
      refine hK11 _ _ ?_
      refine .seq (fun K12 hK12 => ?_)
      refine .block ?_
      refine .seq (fun K13 hK13 => ?_)
      refine .region ?_
      refine .m rfl rfl rfl (.move rfl) ?_
      refine .m rfl rfl rfl (.idxN sl_22_A (by assumption) rfl rfl (by omega)) ?_
      refine .m rfl rfl rfl (.loadI on_2_A (by assumption) rfl (by omega)) ?_
      refine .m rfl rfl rfl (.assign rfl) ?_
      refine .m rfl rfl rfl (.assign rfl) ?_
      refine .nil ?_
      refine hK13 _ _ ?_
      refine .seq (fun K14 hK14 => ?_)
      refine .region ?_
      refine .m rfl rfl rfl (.move rfl) ?_
      refine .m rfl rfl rfl (.move rfl) ?_
      refine .m rfl rfl rfl (.cmp rfl rfl rfl) ?_
      refine .nil ?_
      refine hK14 _ _ ?_
      refine .cond rfl (fun h45 => ?_) (fun h45 => ?_)
      ·
       try simp only [sps] at h45
       refine .seq (fun K15 hK15 => ?_)
       refine .region ?_
       refine .m rfl rfl rfl (.move rfl) ?_
       refine .m rfl rfl rfl (.move rfl) ?_
       refine .m rfl rfl rfl (.assign rfl) ?_
       refine .m rfl rfl rfl (.assign rfl) ?_
       refine .m rfl rfl rfl (.assign rfl) ?_
       refine .m rfl rfl rfl (.assign rfl) ?_
       refine .nil ?_
       refine hK15 _ _ ?_
       refine .ret ?_
       -- leaf e1
       refine hret _ _ ?_
       refine ⟨_, _, _, _, rfl, rfl, rfl, rfl, ?_⟩
       exact ⟨⟨_, _, _, _, rfl, ⟨fun hh => absurd hh (by decide), fun hL => absurd (hL.ids k (by omega) l (by omega)) h45⟩⟩, rfl⟩
      ·
       try simp only [sps] at h45
       refine .skip ?_
       refine hK12 _ _ ?_
       refine .region ?_
       refine .m rfl rfl rfl (.add rfl rfl rfl (by omega) (by omega)) ?_
       refine .m rfl rfl rfl (.move rfl) ?_
       refine .nil ?_
       refine hKL2 (l + 1) _ _ ?_ ?_ ⟨rfl, rfl, rfl, rfl, rfl, rfl, rfl, rfl, rfl, trivial⟩
       ·
        refine ⟨rfl, ?_⟩
        refine ⟨by omega, fun e hx => ?_⟩
        by_cases hltq : e < l
        · exact ha2 e hltq
        · obtain rfl : e = l := by omega
          exact h45
       ·
        omega
     ·
      try simp only [sps] at h39
      refine .exit ?_
      refine hK7 _ _ ?_
      refine .region ?_
      refine .m rfl rfl rfl (.add rfl rfl rfl (by omega) (by omega)) ?_
      refine .m rfl rfl rfl (.move rfl) ?_
      refine .nil ?_
      refine hKL1 (k + 1) _ _ ?_ ?_ ⟨rfl, rfl, rfl, rfl, rfl, trivial⟩
      ·
       refine ⟨rfl, ?_⟩
       refine ⟨by omega, fun x hx => ?_⟩
       by_cases hltq : x < k
       · exact ha1 x hltq
       · obtain rfl : x = k := by omega
         exact fun e he => ha2 e (by omega)
      ·
       omega
   ·
    try simp only [sps] at h26
    refine .exit ?_
    refine hK3 _ _ ?_
    refine .seq (fun K16 hK16 => ?_)
    refine .seq (fun K17 hK17 => ?_)
    refine .region ?_
    refine .m rfl rfl rfl (.move rfl) ?_
    refine .m rfl rfl rfl (.nilCheck rfl) ?_
    refine .m rfl rfl rfl (.fieldAddr fo_37_4_B rfl) ?_
    refine .m rfl rfl rfl (.load on_23_B rfl (by assumption)) ?_
    refine .m rfl rfl rfl (.len sl_23_B rfl) ?_
    refine .m rfl rfl rfl (.move rfl) ?_
    refine .nil ?_
    refine hK17 _ _ ?_
    refine .block ?_
    refine .loopR (σ := Nat) [(0, some _), (53, some _), (54, some _)] (fun a => [(55, some (.int .i64 (a : Int)))]) (fun a H' => H = H' ∧ (a : Int) ≤ f.sh.comp.length ∧ ∀ a', a' < a → ∀ b : Nat, b < f.sh.src.length → f.sh.tgt.getD a' 0 = f.sh.src.getD b 0 → ∀ e : Nat, e < (f.ac.getD a' []).length → (f.ac.getD ((f.sh.comp.getD a' []).getD b 0).toNat []).getD e 0 = (f.ac.getD b []).getD ((f.ac.getD a' []).getD e 0).toNat 0) (fun a => (f.sh.comp.length - a : Int).toNat) (0) ⟨rfl, rfl, rfl, trivial⟩ ⟨rfl, trivial⟩ ?_ ?_
    ·
     refine ⟨rfl, ?_⟩
     exact ⟨by omega, fun _ _ => by omega⟩
    ·
     rintro a _ ⟨rfl, hI⟩ KL3 hKL3
     refine .forget (fr' := [(55, some (.int .i64 (a : Int))), (0, some _), (53, some _), (54, some _)]) ⟨rfl, rfl, rfl, rfl, trivial⟩ ?_
     obtain ⟨hk3, ha3⟩ := hI
     refine .seq (fun K18 hK18 => ?_)
     refine .region ?_
     refine .m rfl rfl rfl (.cmp rfl rfl rfl) ?_
     refine .nil ?_
     refine hK18 _ _ ?_
     refine .seq (fun K19 hK19 => ?_)
     refine .cond rfl (fun h56 => ?_) (fun h56 => ?_)
     ·
      simp only [sps] at h56
      have r1 := hC.row a (by omega)
      have r2 := d4.2 a (by omega)
      have r3 := i2.2 a (by omega)
      have r4 := hS.ends (a := a) (by omega)
      have r5 := hS.sz (f.sh.src.getD a 0).toNat (by omega)
      refine .skip ?_
      refine hK19 _ _ ?_
      refine .seq (fun K20 hK20 => ?_)
      refine .block ?_
      refine .seq (fun K21 hK21 => ?_)
      refine .region ?_
      refine .m rfl rfl rfl (.move rfl) ?_
      refine .m rfl rfl rfl (.idxN sl_23_B (Intss.sl (by assumption)) rfl rfl (by omega)) ?_
      refine .m rfl rfl rfl (.loadR on_22_B (by assumption) rfl (by omega)) ?_
      refine .m rfl rfl rfl (.assign rfl) ?_
      refine .m rfl rfl rfl (.assign rfl) ?_
      refine .nil ?_
      refine hK21 _ _ ?_
      refine .seq (fun K22 hK22 => ?_)
      refine .region ?_
      refine .m rfl rfl rfl (.move rfl) ?_
      refine .m rfl rfl rfl (.len sl_22_A rfl) ?_
      refine .m rfl rfl rfl (.move rfl) ?_
      refine .nil ?_
      refine hK22 _ _ ?_
      refine .block ?_
      refine .loopR (σ := Nat) [(0, some _), (11, some _), (53, some _), (54, some _), (55, some _), (60, some _), (61, some _)] (fun b => [(62, some (.int .i64 (b : Int)))]) (fun b H' => H = H' ∧ (b : Int) ≤ (f.sh.comp.getD a []).length ∧ ∀ b', b' < b → f.sh.tgt.getD a 0 = f.sh.src.getD b' 0 → ∀ e : Nat, e < (f.ac.getD a []).length → (f.ac.getD ((f.sh.comp.getD a []).getD b' 0).toNat []).getD e 0 = (f.ac.getD b' []).getD ((f.ac.getD a []).getD e 0).toNat 0) (fun b => ((f.sh.comp.getD a []).length - b : Int).toNat) (0) ⟨rfl, rfl, rfl, rfl, rfl, rfl, rfl, trivial⟩ ⟨rfl, trivial⟩ ?_ ?_
      ·
       refine ⟨rfl, ?_⟩
       exact ⟨by omega, fun _ _ => by omega⟩
      ·
       rintro b _ ⟨rfl, hI⟩ KL4 hKL4
       refine .forget (fr' := [(62, some (.int .i64 (b : Int))), (0, some _), (11, some _), (53, some _), (54, some _), (55, some _), (60, some _), (61, some _)]) ⟨rfl, rfl, rfl, rfl, rfl, rfl, rfl, rfl, trivial⟩ ?_
       obtain ⟨hk4, ha4⟩ := hI
       refine .seq (fun K23 hK23 => ?_)
       refine .region ?_
       refine .m rfl rfl rfl (.cmp rfl rfl rfl) ?_
       refine .nil ?_
       refine hK23 _ _ ?_
       refine .seq (fun K24 hK24 => ?_)
       refine .cond rfl (fun h63 => ?_) (fun h63 => ?_)
       ·
        simp only [sps] at h63
        have t1 := i2.2 b (by omega)
        have t2 := hS.ends (a := b) (by omega)
        refine .skip ?_
        refine hK24 _ _ ?_
        refine .seq (fun K25 hK25 => ?_)
        refine .block ?_
        refine .seq (fun K26 hK26 => ?_)
        refine .region ?_
        refine .m rfl rfl rfl (.move rfl) ?_
        refine .m rfl rfl rfl (.idxN sl_22_A (by assumption) rfl rfl (by omega)) ?_
        refine .m rfl rfl rfl (.loadI on_2_A (by assumption) rfl (by omega)) ?_
        refine .m rfl rfl rfl (.assign rfl) ?_
        refine .m rfl rfl rfl (.assign rfl) ?_
        refine .nil ?_
        refine hK26 _ _ ?_
        refine .seq (fun K27 hK27 => ?_)
        refine .seq (fun K28 hK28 => ?_)
        refine .region ?_
        refine .m rfl rfl rfl (.move rfl) ?_
        refine .m rfl rfl rfl (.cmp rfl rfl rfl) ?_
        refine .nil ?_
        refine hK28 _ _ ?_
        refine .cond rfl (fun h68 => ?_) (fun h68 => ?_)
        ·
         try simp only [sps] at h68
         refine .exit ?_
         refine hK25 _ _ ?_
         refine .region ?_
         refine .m rfl rfl rfl (.add rfl rfl rfl (by omega) (by omega)) ?_
         refine .m rfl rfl rfl (.move rfl) ?_
         refine .nil ?_
         refine hKL4 (b + 1) _ _ ?_ ?_ ⟨rfl, rfl, rfl, rfl, rfl, rfl, rfl, rfl, trivial⟩
         ·
          refine ⟨rfl, ?_⟩
          refine ⟨by omega, fun b' hx => ?_⟩
          by_cases hltq : b' < b
          · exact ha4 b' hltq
          · obtain rfl : b' = b := by omega
            first | exact fun _ e he => ha5 e (by omega) | exact fun hn => absurd ((hC.th_ge (f := a) (g := b') (by omega) (by omega)).2 hn) (by show ¬ (0 ≤ (f.sh.comp.getD a []).getD b' 0); omega)
         ·
          omega
        ·
         simp only [sps] at h68
         have u1 : f.sh.tgt.getD a 0 = f.sh.src.getD b 0 := (hC.th_ge (f := a) (g := b) (by omega) (by omega)).1 h68
         have u2 := (Cat.Cell.pos u1).1 (hC.cell a (by omega) b (by omega))
         have u3 := i2.2 ((f.sh.comp.getD a []).getD b 0).toNat (by omega)
         have u4 := hS.ends (a := ((f.sh.comp.getD a []).getD b 0).toNat) (by omega)
         rw [u2.2.2.1] at u4
         have u5 := t2.2.2.2.2
         rw [← u1] at u5
         refine .skip ?_
         refine hK27 _ _ ?_
         refine .seq (fun K29 hK29 => ?_)
         refine .region ?_
         refine .m rfl rfl rfl (.move rfl) ?_
         refine .m rfl rfl rfl (.nilCheck rfl) ?_
         refine .m rfl rfl rfl (.fieldAddr fo_39_2_P rfl) ?_
         refine .m rfl rfl rfl (.load on_23_B rfl (by assumption)) ?_
         refine .m rfl rfl rfl (.move rfl) ?_
         refine .m rfl rfl rfl (.idxN sl_23_B (Intss.sl (by assumption)) rfl rfl (by omega)) ?_
         refine .m rfl rfl rfl (.loadR on_22_B (by assumption) rfl (by omega)) ?_
         refine .m rfl rfl rfl (.len sl_22_A rfl) ?_
         refine .m rfl rfl rfl (.move rfl) ?_
         refine .nil ?_
         refine hK29 _ _ ?_
         refine .block ?_
         refine .loopR (σ := Nat) [(0, some _), (11, some _), (13, some _), (14, some _), (53, some _), (54, some _), (55, some _), (60, some _), (61, some _), (62, some _), (75, some _), (76, some _)] (fun e => [(77, some (.int .i64 (e : Int)))]) (fun e H' => H = H' ∧ (e : Int) ≤ (f.ac.getD a []).length ∧ ∀ e', e' < e → (f.ac.getD ((f.sh.comp.getD a []).getD b 0).toNat []).getD e' 0 = (f.ac.getD b []).getD ((f.ac.getD a []).getD e' 0).toNat 0) (fun e => ((f.ac.getD a []).length - e : Int).toNat) (0) ⟨rfl, rfl, rfl, rfl, rfl, rfl, rfl, rfl, rfl, rfl, rfl, rfl, trivial⟩ ⟨rfl, trivial⟩ ?_ ?_
         ·
          refine ⟨rfl, ?_⟩
          exact ⟨by omega, fun _ _ => by omega⟩
         ·
          rintro e _ ⟨rfl, hI⟩ KL5 hKL5
          refine .forget (fr' := [(77, some (.int .i64 (e : Int))), (0, some _), (11, some _), (13, some _), (14, some _), (53, some _), (54, some _), (55, some _), (60, some _), (61, some _), (62, some _), (75, some _), (76, some _)]) ⟨rfl, rfl, rfl, rfl, rfl, rfl, rfl, rfl, rfl, rfl, rfl, rfl, rfl, trivial⟩ ?_
          obtain ⟨hk5, ha5⟩ := hI
          refine .seq (fun K30 hK30 => ?_)
          refine .region ?_
          refine .m rfl rfl rfl (.cmp rfl rfl rfl) ?_
          refine .nil ?_
          refine hK30 _ _ ?_
          refine .seq (fun K31 hK31 => ?_)
          refine .cond rfl (fun h78 => ?_) (fun h78 => ?_)
          ·
           simp only [sps] at h78
           have v1 := hS.act (a := a) (by omega) (e := e) (by omega)
           refine .skip ?_
           refine hK31 _ _ ?_
           refine .seq (fun K32 hK32 => ?_)
           refine .block ?_
           refine .seq (fun K33 hK33 => ?_)
           refine .region ?_
           refine .m rfl rfl rfl (.move rfl) ?_
           refine .m rfl rfl rfl (.idxN sl_22_A (by assumption) rfl rfl (by omega)) ?_
           refine .m rfl rfl rfl (.loadI on_2_A (by assumption) rfl (by omega)) ?_
           refine .m rfl rfl rfl (.assign rfl) ?_
           refine .m rfl rfl rfl (.assign rfl) ?_
           refine .nil ?_
           refine hK33 _ _ ?_
           refine .seq (fun K34 hK34 => ?_)
           refine .regionD mixed_orders_B (.q 0 (.q 1 (.q 2 (.q 3 (.q 4 (.q 5 (.q 6 (.q 7 (.q 8 (.q 9 (.q 10 (.q 11 (.q 12 (.q 13 (.q 14 (.q 15 (.q 16 (.q 17 (.q 18 (.q 19 (.q 20 (.done)))))))))))))))))))))) (by kernel_rfl) ?_
           refine .m rfl rfl rfl rfl (.refl _) (.move rfl) ?_
           refine .m rfl rfl rfl rfl (.refl _) (.nilCheck rfl) ?_
           refine .m rfl rfl rfl rfl (.refl _) (.fieldAddr fo_39_2_P rfl) ?_
           refine .m rfl rfl rfl rfl (.refl _) (.load on_23_B rfl (by assumption)) ?_
           refine .m rfl rfl rfl rfl (.refl _) (.move rfl) ?_
           refine .m rfl rfl rfl rfl (.refl _) (.idx1 sl_23_B (Intss.sl (by assumption)) rfl rfl (by omega) (by omega)) ?_
           refine .m rfl rfl rfl rfl (.refl _) (.loadR on_22_B (by assumption) rfl (by omega)) ?_
           refine .m rfl rfl rfl rfl (.refl _) (.move rfl) ?_
           refine .m rfl rfl rfl rfl (.refl _) (.idxN sl_22_A (by assumption) rfl rfl (by omega)) ?_
           refine .m rfl rfl rfl rfl (.refl _) (.loadI on_2_A (by assumption) rfl (by omega)) ?_
           refine .m rfl rfl rfl rfl (.refl _) (.move rfl) ?_
           refine .m rfl rfl rfl rfl (.refl _) (.nilCheck rfl) ?_
           refine .m rfl rfl rfl rfl (.refl _) (.fieldAddr fo_39_2_P rfl) ?_
           refine .m rfl rfl rfl rfl (.refl _) (.load on_23_B rfl (by assumption)) ?_
           refine .m rfl rfl rfl rfl (.refl _) (.move rfl) ?_
           refine .m rfl rfl rfl rfl (.refl _) (.idxN sl_23_B (Intss.sl (by assumption)) rfl rfl (by omega)) ?_
           refine .m rfl rfl rfl rfl (.refl _) (.loadR on_22_B (by assumption) rfl (by omega)) ?_
           refine .m rfl rfl rfl rfl (.refl _) (.move rfl) ?_
           refine .m rfl rfl rfl rfl (.refl _) (.idx1 sl_22_A (by assumption) rfl rfl (by omega) (by omega)) ?_
           refine .m rfl rfl rfl rfl (.refl _) (.loadI on_2_A (by assumption) rfl (by omega)) ?_
           refine .m rfl rfl rfl rfl (.refl _) (.cmp rfl rfl rfl) ?_
           refine .done ?_
           refine hK34 _ _ ?_
           refine .cond rfl (fun h102 => ?_) (fun h102 => ?_)
           ·
            try simp only [sps] at h102
            refine .seq (fun K35 hK35 => ?_)
            refine .region ?_
            refine .m rfl rfl rfl (.move rfl) ?_
            refine .m rfl rfl rfl (.move rfl) ?_
            refine .m rfl rfl rfl (.move rfl) ?_
            refine .m rfl rfl rfl (.assign rfl) ?_
            refine .m rfl rfl rfl (.assign rfl) ?_
            refine .m rfl rfl rfl (.assign rfl) ?_
            refine .m rfl rfl rfl (.assign rfl) ?_
            refine .nil ?_
            refine hK35 _ _ ?_
            refine .ret ?_
            -- leaf e2
            refine hret _ _ ?_
            refine ⟨_, _, _, _, rfl, rfl, rfl, rfl, ?_⟩
            exact ⟨⟨_, _, _, _, rfl, ⟨fun hh => absurd hh (by decide), fun hL => absurd (hL.th a (by omega) b (by omega) u1 e (by omega)) h102⟩⟩, rfl⟩
           ·
            try simp only [sps] at h102
            refine .skip ?_
            refine hK32 _ _ ?_
            refine .region ?_
            refine .m rfl rfl rfl (.add rfl rfl rfl (by omega) (by omega)) ?_
            refine .m rfl rfl rfl (.move rfl) ?_
            refine .nil ?_
            refine hKL5 (e + 1) _ _ ?_ ?_ ⟨rfl, rfl, rfl, rfl, rfl, rfl, rfl, rfl, rfl, rfl, rfl, rfl, rfl, trivial⟩
            ·
             refine ⟨rfl, ?_⟩
             refine ⟨by omega, fun e' hx => ?_⟩
             by_cases hltq : e' < e
             · exact ha5 e' hltq
             · obtain rfl : e' = e := by omega
               exact h102
            ·
             omega
          ·
           try simp only [sps] at h78
           refine .exit ?_
           refine hK25 _ _ ?_
           refine .region ?_
           refine .m rfl rfl rfl (.add rfl rfl rfl (by omega) (by omega)) ?_
           refine .m rfl rfl rfl (.move rfl) ?_
           refine .nil ?_
           refine hKL4 (b + 1) _ _ ?_ ?_ ⟨rfl, rfl, rfl, rfl, rfl, rfl, rfl, rfl, trivial⟩
           ·
            refine ⟨rfl, ?_⟩
            refine ⟨by omega, fun b' hx => ?_⟩
            by_cases hltq : b' < b
            · exact ha4 b' hltq
            · obtain rfl : b' = b := by omega
              first | exact fun _ e he => ha5 e (by omega) | exact fun hn => absurd ((hC.th_ge (f := a) (g := b') (by omega) (by omega)).2 hn) (by show ¬ (0 ≤ (f.sh.comp.getD a []).getD b' 0); omega)
           ·
            omega
       ·
        try simp only [sps] at h63
        refine .exit ?_
        refine hK20 _ _ ?_
        refine .region ?_
        refine .m rfl rfl rfl (.add rfl rfl rfl (by omega) (by omega)) ?_
        refine .m rfl rfl rfl (.move rfl) ?_
        refine .nil ?_
        refine hKL3 (a + 1) _ _ ?_ ?_ ⟨rfl, rfl, rfl, rfl, trivial⟩
        ·
         refine ⟨rfl, ?_⟩
         refine ⟨by omega, fun a' hx => ?_⟩
         by_cases hltq : a' < a
         · exact ha3 a' hltq
         · obtain rfl : a' = a := by omega
           exact fun b hb => ha4 b (by omega)
        ·
         omega
     ·
      try simp only [sps] at h56
      refine .exit ?_
      refine hK16 _ _ ?_
      refine .seq (fun K36 hK36 => ?_)
      refine .region ?_
      refine .m rfl rfl rfl (.assign rfl) ?_
      refine .m rfl rfl rfl (.assign rfl) ?_
      refine .m rfl rfl rfl (.assign rfl) ?_
      refine .m rfl rfl rfl (.assign rfl) ?_
      refine .nil ?_
      refine hK36 _ _ ?_
      refine .ret ?_
      -- leaf e3
      refine hret _ _ ?_
      refine ⟨_, _, _, _, rfl, rfl, rfl, rfl, ?_⟩
      exact ⟨⟨_, _, _, _, rfl, ⟨fun _ => ⟨fun x hx => ha1 x (by omega), fun a ha => ha3 a (by omega)⟩, fun _ => rfl⟩⟩, rfl⟩
theorem isSetFunctor_c {g o : Nat} {f : SFun} {p : SFunP} {H : GHeap} (h : SFun.At H g o f p := by assumption) (hs : f.Small := by assumption) : GCalls Try.prog 84 [.pointer (some ⟨g, o, none⟩)] H (Ret (.bool (B f.Is)) H) := by
  refine GCalls.body (N := 19) (rs := [.tmp 2]) Try.func84 rfl rfl rfl rfl (fun Qx hret hend => ?_)
  refine .forget (fr' := [(0, some _)]) ⟨rfl, trivial⟩ ?_
  have hle := GHeap.Le.refl H
  have base_h := h
  refine .seq (fun K1 hK1 => ?_)
  refine .region ?_
  refine .m rfl rfl rfl (.assign rfl) ?_
  refine .nil ?_
  refine hK1 _ _ ?_
  refine .seq (fun K2 hK2 => ?_)
  refine .seq (fun K3 hK3 => ?_)
  refine .region ?_
  refine .m rfl rfl rfl (.move rfl) ?_
  refine .callQ rfl rfl rfl rfl @Try.call91 rfl (sfShape_c) ?_
  refine .m rfl rfl rfl (.not rfl) ?_
  refine .nil ?_
  refine hK3 _ _ ?_
  refine .cond rfl (fun h9 => ?_) (fun h9 => ?_)
  ·
   try simp only [sps] at h9
   refine .seq (fun K4 hK4 => ?_)
   refine .region ?_
   refine .m rfl rfl rfl (.assign rfl) ?_
   refine .nil ?_
   refine hK4 _ _ ?_
   refine .ret ?_
   -- leaf e1
   refine hret _ _ ?_
   refine ⟨_, rfl, ?_⟩
   exact .of (congrArg _ (B_false fun hh => h9 hh.1))
  ·
   try simp only [sps] at h9
   refine .skip ?_
   refine hK2 _ _ ?_
   refine .seq (fun K5 hK5 => ?_)
   refine .region ?_
   refine .m rfl rfl rfl (.move rfl) ?_
   refine .call rfl rfl rfl rfl @Try.call92 rfl (sfFault_c) ?_
   rintro _ _ ⟨⟨k12, x12, y12, z12, rfl, hk12⟩, heq⟩
   obtain rfl := heq.symm
   refine .m rfl rfl rfl (.move rfl) ?_
   refine .m rfl rfl rfl (.extract rfl rfl) ?_
   refine .m rfl rfl rfl (.extract rfl rfl) ?_
   refine .m rfl rfl rfl (.extract rfl rfl) ?_
   refine .m rfl rfl rfl (.extract rfl rfl) ?_
   refine .m rfl rfl rfl (.assign rfl) ?_
   refine .m rfl rfl rfl (.assign rfl) ?_
   refine .m rfl rfl rfl (.assign rfl) ?_
   refine .m rfl rfl rfl (.assign rfl) ?_
   refine .nil ?_
   refine hK5 _ _ ?_
   refine .seq (fun K6 hK6 => ?_)
   refine .region ?_
   refine .m rfl rfl rfl (.move rfl) ?_
   refine .m rfl rfl rfl (.cmp rfl rfl rfl) ?_
   refine .m rfl rfl rfl (.assign rfl) ?_
   refine .nil ?_
   refine hK6 _ _ ?_
   refine .ret ?_
   -- leaf e2
   refine hret _ _ ?_
   refine ⟨_, rfl, ?_⟩
   exact .of (congrArg _ (by rw [Bool.eq_iff_iff, B_iff]; simp only [sps]; rw [hk12]; exact ⟨fun hh => hh.2, fun hh => ⟨h9, hh⟩⟩))
end Go.Proofs.Ytbpehbbdodahaaa
