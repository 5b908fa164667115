/- Maps of set functors. No condition but those of each statement. -/
import Derived.Test.YtbpehbbdodahaaaZ7
namespace Go.Proofs.Ytbpehbbdodahaaa
open Go Go.GL Go.RowKit Go.Proofs
theorem ze_71_Q : zeroT Try.prog 71 = some ([.pointer none], 1) := by kernel_rfl
theorem smFits_c {g o : Nat} {m : SMap} {p : SMapP} {H : GHeap} (h : SMap.At H g o m p := by assumption) (hs : m.Small := by assumption) (hS : m.s.Shape := by assumption) (hT : m.t.Shape := by assumption) (hsh : m.s.sh = m.t.sh := by assumption) :
    GCalls Try.prog 82 [.pointer (some ⟨g, o, none⟩)] H (Ret (.bool (B m.Fits)) H) := by
  refine GCalls.body (N := 47) (rs := [.tmp 2]) Try.func82 rfl rfl rfl rfl (fun Qx hret hend => ?_)
  refine .forget (fr' := [(0, some _)]) ⟨rfl, trivial⟩ ?_
  have hle := GHeap.Le.refl H
  have base_h := h
  obtain ⟨fs, ft, c14, i2⟩ := h.get
  have hm : MemN _ _ _ _ _ := ⟨rfl, h.1⟩
  have hi := h.2
  have hms : MemN _ _ _ _ _ := ⟨rfl, fs.1⟩
  have his := fs.2
  have hmt : MemN _ _ _ _ _ := ⟨rfl, ft.1⟩
  have hit := ft.2
  obtain ⟨ssh, s5, s6, si1, si2⟩ := fs.get
  obtain ⟨tsh, t5, t6, ti1, ti2⟩ := ft.get
  obtain ⟨_, _, s3, s4⟩ := hs
  have q1 := hS.zl
  have q2 := hT.zl
  have q3 := hS.c.1.obj
  rw [← hsh] at q2
  refine .seq (fun K1 hK1 => ?_)
  refine .region ?_
  refine .m rfl rfl rfl (.assign rfl) ?_
  refine .nil ?_
  refine hK1 _ _ ?_
  refine .seq (fun K2 hK2 => ?_)
  refine .seq (fun K3 hK3 => ?_)
  refine .regionD mixed_orders_B (.q 0 (.q 1 (.q 2 (.q 3 (.q 4 (.q 5 (.q 6 (.q 7 (.q 8 (.q 9 (.q 10 (.q 11 (.done))))))))))))) (by kernel_rfl) ?_
  refine .m rfl rfl rfl rfl (.refl _) (.move rfl) ?_
  refine .m rfl rfl rfl rfl (.refl _) (.nilCheck rfl) ?_
  refine .m rfl rfl rfl rfl (.refl _) (.fieldAddr fo_41_2_VSMap rfl) ?_
  refine .m rfl rfl rfl rfl (.refl _) (.load on_23_B rfl (by assumption)) ?_
  refine .m rfl rfl rfl rfl (.refl _) (.len sl_23_B rfl) ?_
  refine .m rfl rfl rfl rfl (.refl _) (.move rfl) ?_
  refine .m rfl rfl rfl rfl (.refl _) (.nilCheck rfl) ?_
  refine .m rfl rfl rfl rfl (.refl _) (.fieldAddr fo_41_0_VSMap rfl) ?_
  refine .m rfl rfl rfl rfl (.refl _) (.fieldAddr fo_39_1_P rfl) ?_
  refine .m rfl rfl rfl rfl (.refl _) (.load on_22_B rfl (by assumption)) ?_
  refine .m rfl rfl rfl rfl (.refl _) (.len sl_22_A rfl) ?_
  refine .m rfl rfl rfl rfl (.refl _) (.cmp rfl rfl rfl) ?_
  refine .done ?_
  refine hK3 _ _ ?_
  refine .cond rfl (fun h16 => ?_) (fun h16 => ?_)
  ·
   try simp only [sps] at h16
   refine .seq (fun K4 hK4 => ?_)
   refine .region ?_
   refine .m rfl rfl rfl (.assign rfl) ?_
   refine .nil ?_
   refine hK4 _ _ ?_
   refine .ret ?_
   -- leaf e1
   refine hret _ _ ?_
   refine ⟨_, rfl, ?_⟩
   exact .of (congrArg _ (B_false fun hh => by have := hh.pl; omega))
  ·
   try simp only [sps] at h16
   refine .skip ?_
   refine hK2 _ _ ?_
   refine .seq (fun K5 hK5 => ?_)
   refine .seq (fun K6 hK6 => ?_)
   refine .region ?_
   refine .m rfl rfl rfl (.move rfl) ?_
   refine .m rfl rfl rfl (.nilCheck rfl) ?_
   refine .m rfl rfl rfl (.fieldAddr fo_41_2_VSMap rfl) ?_
   refine .m rfl rfl rfl (.load on_23_B rfl (by assumption)) ?_
   refine .m rfl rfl rfl (.len sl_23_B rfl) ?_
   refine .m rfl rfl rfl (.move rfl) ?_
   refine .nil ?_
   refine hK6 _ _ ?_
   refine .block ?_
   refine .loopR (σ := Nat) [(0, some _), (20, some _), (21, some _)] (fun k => [(22, some (.int .i64 (k : Int)))]) (fun k H' => H = H' ∧ (k : Int) ≤ m.pa.length ∧ ∀ x, x < k → m.PaOk x) (fun k => (m.pa.length - k : Int).toNat) (0) ⟨rfl, rfl, rfl, trivial⟩ ⟨rfl, trivial⟩ ?_ ?_
   ·
    refine ⟨rfl, ?_⟩
    exact ⟨by omega, fun _ _ => by omega⟩
   ·
    rintro k _ ⟨rfl, hI⟩ KL1 hKL1
    refine .forget (fr' := [(22, some (.int .i64 (k : Int))), (0, some _), (20, some _), (21, some _)]) ⟨rfl, rfl, rfl, rfl, trivial⟩ ?_
    obtain ⟨hk1, ha1⟩ := hI
    refine .seq (fun K7 hK7 => ?_)
    refine .region ?_
    refine .m rfl rfl rfl (.cmp rfl rfl rfl) ?_
    refine .nil ?_
    refine hK7 _ _ ?_
    refine .seq (fun K8 hK8 => ?_)
    refine .cond rfl (fun h23 => ?_) (fun h23 => ?_)
    ·
     simp only [sps] at h23
     have r1 := i2.2 k (by omega)
     have r2 := hT.sz k (by omega)
     have r3 := s4 k
     refine .skip ?_
     refine hK8 _ _ ?_
     refine .seq (fun K9 hK9 => ?_)
     refine .block ?_
     refine .seq (fun K10 hK10 => ?_)
     refine .region ?_
     refine .m rfl rfl rfl (.move rfl) ?_
     refine .m rfl rfl rfl (.idxN sl_23_B (Intss.sl (by assumption)) rfl rfl (by omega)) ?_
     refine .m rfl rfl rfl (.loadR on_22_B (by assumption) rfl (by omega)) ?_
     refine .m rfl rfl rfl (.assign rfl) ?_
     refine .m rfl rfl rfl (.assign rfl) ?_
     refine .nil ?_
     refine hK10 _ _ ?_
     refine .seq (fun K11 hK11 => ?_)
     refine .regionD mixed_orders_B (.q 0 (.q 1 (.q 2 (.q 3 (.q 4 (.q 5 (.q 6 (.q 7 (.q 8 (.q 9 (.q 10 (.q 11 (.q 12 (.q 13 (.q 14 (.q 15 (.q 16 (.c 17 0 (.q 18 (.done)))))))))))))))))))) (by kernel_rfl) ?_
     refine .m rfl rfl rfl rfl (.refl _) (.move rfl) ?_
     refine .m rfl rfl rfl rfl (.refl _) (.move rfl) ?_
     refine .m rfl rfl rfl rfl (.refl _) (.nilCheck rfl) ?_
     refine .m rfl rfl rfl rfl (.refl _) (.fieldAddr fo_41_0_VSMap rfl) ?_
     refine .m rfl rfl rfl rfl (.refl _) (.fieldAddr fo_39_1_P rfl) ?_
     refine .m rfl rfl rfl rfl (.refl _) (.load on_22_B rfl (by assumption)) ?_
     refine .m rfl rfl rfl rfl (.refl _) (.move rfl) ?_
     refine .m rfl rfl rfl rfl (.refl _) (.idxN sl_22_A (by assumption) rfl rfl (by omega)) ?_
     refine .m rfl rfl rfl rfl (.refl _) (.loadI on_2_A (by assumption) rfl (by omega)) ?_
     refine .m rfl rfl rfl rfl (.refl _) (.move rfl) ?_
     refine .m rfl rfl rfl rfl (.refl _) (.nilCheck rfl) ?_
     refine .m rfl rfl rfl rfl (.refl _) (.fieldAddr fo_41_1_VSMap rfl) ?_
     refine .m rfl rfl rfl rfl (.refl _) (.fieldAddr fo_39_1_P rfl) ?_
     refine .m rfl rfl rfl rfl (.refl _) (.load on_22_B rfl (by assumption)) ?_
     refine .m rfl rfl rfl rfl (.refl _) (.move rfl) ?_
     refine .m rfl rfl rfl rfl (.refl _) (.idxN sl_22_A (by assumption) rfl rfl (by omega)) ?_
     refine .m rfl rfl rfl rfl (.refl _) (.loadI on_2_A (by assumption) rfl (by omega)) ?_
     refine .callQ0 rfl rfl rfl rfl rfl @Try.call90 rfl (isMapOf_c) ?_
     refine .m rfl rfl rfl rfl (.refl _) (.not rfl) ?_
     refine .done ?_
     refine hK11 _ _ ?_
     refine .cond rfl (fun h45 => ?_) (fun h45 => ?_)
     ·
      simp only [B_iff, B_not, Bool.not_eq_true', Bool.not_eq_false'] at h45
      refine .seq (fun K12 hK12 => ?_)
      refine .region ?_
      refine .m rfl rfl rfl (.assign rfl) ?_
      refine .nil ?_
      refine hK12 _ _ ?_
      refine .ret ?_
      -- leaf e2
      refine hret _ _ ?_
      refine ⟨_, rfl, ?_⟩
      exact .of (congrArg _ (B_false fun hh => h45 (hh.pa k (by omega))))
     ·
      simp only [B_iff, B_not, Bool.not_eq_true', Bool.not_eq_false'] at h45
      refine .skip ?_
      refine hK9 _ _ ?_
      refine .region ?_
      refine .m rfl rfl rfl (.add rfl rfl rfl (by omega) (by omega)) ?_
      refine .m rfl rfl rfl (.move rfl) ?_
      refine .nil ?_
      refine hKL1 (k + 1) _ _ ?_ ?_ ⟨rfl, rfl, rfl, rfl, trivial⟩
      ·
       refine ⟨rfl, ?_⟩
       refine ⟨by omega, fun x hx => ?_⟩
       by_cases hltq : x < k
       · exact ha1 x hltq
       · obtain rfl : x = k := by omega
         exact h45
      ·
       omega
    ·
     try simp only [sps] at h23
     refine .exit ?_
     refine hK5 _ _ ?_
     refine .seq (fun K13 hK13 => ?_)
     refine .region ?_
     refine .m rfl rfl rfl (.assign rfl) ?_
     refine .nil ?_
     refine hK13 _ _ ?_
     refine .ret ?_
     -- leaf e3
     refine hret _ _ ?_
     refine ⟨_, rfl, ?_⟩
     exact .of (congrArg _ (B_true ⟨by omega, fun a ha => ha1 a (by omega)⟩))
theorem smShape_c {g o : Nat} {m : SMap} {p : SMapP} {H : GHeap} (h : SMap.At H g o m p := by assumption) (hs : m.Small := by assumption) :
    GCalls Try.prog 61 [.pointer (some ⟨g, o, none⟩)] H (Ret (.bool (B m.Shape)) H) := by
  refine GCalls.ret rfl ?_
  have hs' := hs
  obtain ⟨w1, w2, _⟩ := hs'
  have w1' := w1
  have w2' := w2
  obtain ⟨v1, _⟩ := w1'
  obtain ⟨v2, _⟩ := w2'
  refine GCalls.body (N := 26) (rs := [.tmp 2]) Try.func61 rfl rfl rfl rfl (fun Qx hret hend => ?_)
  refine .forget (fr' := [(0, some _)]) ⟨rfl, trivial⟩ ?_
  have hle := GHeap.Le.refl H
  have base_h := h
  obtain ⟨fs, ft, c14, i2⟩ := h.get
  have hm : MemN _ _ _ _ _ := ⟨rfl, h.1⟩
  have hi := h.2
  have hms : MemN _ _ _ _ _ := ⟨rfl, fs.1⟩
  have his := fs.2
  have hmt : MemN _ _ _ _ _ := ⟨rfl, ft.1⟩
  have hit := ft.2
  obtain ⟨ssh, s5, s6, si1, si2⟩ := fs.get
  obtain ⟨tsh, t5, t6, ti1, ti2⟩ := ft.get
  refine .seq (fun K1 hK1 => ?_)
  refine .region ?_
  refine .m rfl rfl rfl (.assign rfl) ?_
  refine .nil ?_
  refine hK1 _ _ ?_
  refine .seq (fun K2 hK2 => ?_)
  refine .regionD mixed_orders_B (.q 0 (.q 1 (.q 2 (.q 3 (.q 4 (.q 5 (.c 6 0 (.c 7 0 (.q 8 (.q 9 (.q 10 (.q 11 (.q 12 (.q 13 (.q 14 (.q 15 (.q 16 (.c 17 0 (.q 18 (.q 19 (.q 20 (.c 21 0 (.q 22 (.q 23 (.done))))))))))))))))))))))))) (by kernel_rfl) ?_
  refine .m rfl rfl rfl rfl (.refl _) (.move rfl) ?_
  refine .m rfl rfl rfl rfl (.refl _) (.nilCheck rfl) ?_
  refine .m rfl rfl rfl rfl (.refl _) (.fieldAddr fo_41_0_VSMap rfl) ?_
  refine .m rfl rfl rfl rfl (.refl _) (.move rfl) ?_
  refine .m rfl rfl rfl rfl (.refl _) (.nilCheck rfl) ?_
  refine .m rfl rfl rfl rfl (.refl _) (.fieldAddr fo_41_1_VSMap rfl) ?_
  refine .c0 rfl rfl rfl rfl (.litR rfl sl_102_P ze_71_Q rfl rfl (by omega) (by omega) rfl rfl) ?_
  rintro _ H9 ⟨g9, rfl, le9, ge9, at9⟩
  have nx_H9 := le9.1
  replace hle := hle.trans le9
  have lt_at9 := GHeap.lt_of_get at9
  replace h := base_h.mono hle
  clear fs ft c14 i2 hm hi hms his hmt hit ssh s5 s6 si1 si2 tsh t5 t6 ti1 ti2
  obtain ⟨fs, ft, c14, i2⟩ := h.get
  have hm : MemN _ _ _ _ _ := ⟨rfl, h.1⟩
  have hi := h.2
  have hms : MemN _ _ _ _ _ := ⟨rfl, fs.1⟩
  have his := fs.2
  have hmt : MemN _ _ _ _ _ := ⟨rfl, ft.1⟩
  have hit := ft.2
  obtain ⟨ssh, s5, s6, si1, si2⟩ := fs.get
  obtain ⟨tsh, t5, t6, ti1, ti2⟩ := ft.get
  refine .callQ0 rfl rfl rfl rfl rfl @Try.call80 rfl (areSetFunctors2_c) ?_
  refine .m rfl rfl rfl rfl (.refl _) (.move rfl) ?_
  refine .split (fun h11 => ?_) (fun h11 => ?_)
  ·
   simp only [sps] at h11
   have hS := h11.1.1
   have hT := h11.2.1
   refine .mg rfl rfl rfl rfl rfl rfl (.refl _) (.move rfl) ?_
   refine .mg rfl rfl rfl rfl rfl rfl (.refl _) (.nilCheck rfl) ?_
   refine .mg rfl rfl rfl rfl rfl rfl (.refl _) (.fieldAddr fo_41_0_VSMap rfl) ?_
   refine .mg rfl rfl rfl rfl rfl rfl (.refl _) (.fieldAddr fo_39_0_P rfl) ?_
   refine .mg rfl rfl rfl rfl rfl rfl (.refl _) (.move rfl) ?_
   refine .mg rfl rfl rfl rfl rfl rfl (.refl _) (.nilCheck rfl) ?_
   refine .mg rfl rfl rfl rfl rfl rfl (.refl _) (.fieldAddr fo_41_1_VSMap rfl) ?_
   refine .mg rfl rfl rfl rfl rfl rfl (.refl _) (.fieldAddr fo_39_0_P rfl) ?_
   refine .callQ0g rfl rfl rfl rfl rfl rfl rfl @Try.call81 rfl (sameCategory_c) ?_
   refine .m rfl rfl rfl rfl (.refl _) (.pickT rfl rfl) ?_
   refine .m rfl rfl rfl rfl (.refl _) (.move rfl) ?_
   refine .split (fun h22 => ?_) (fun h22 => ?_)
   ·
    try simp only [sps] at h22
    refine .mg rfl rfl rfl rfl rfl rfl (.refl _) (.move rfl) ?_
    refine .callQ0g rfl rfl rfl rfl rfl rfl rfl @Try.call82 rfl (smFits_c) ?_
    refine .m rfl rfl rfl rfl (.refl _) (.pickT rfl rfl) ?_
    refine .m rfl rfl rfl rfl (.refl _) (.assign rfl) ?_
    refine .done ?_
    refine hK2 _ _ ?_
    refine .ret ?_
    -- leaf e1
    refine hret _ _ ?_
    refine ⟨_, rfl, ?_⟩
    first
    | exact ⟨congrArg _ (B_congr ⟨fun hh => hh.fits, fun hf => ⟨h11.1, h11.2, h22, hf⟩⟩), hle⟩
    | exact ⟨congrArg _ (B_false fun hh => h22 hh.sh), hle⟩
    | exact ⟨congrArg _ (B_false fun hh => h11 ⟨hh.s, hh.t⟩), hle⟩
   ·
    try simp only [sps] at h22
    refine .sg rfl rfl rfl rfl rfl rfl ?_
    refine .sgc rfl rfl rfl rfl rfl rfl ?_
    refine .m rfl rfl rfl rfl (.refl _) (.pickF rfl rfl) ?_
    refine .m rfl rfl rfl rfl (.refl _) (.assign rfl) ?_
    refine .done ?_
    refine hK2 _ _ ?_
    refine .ret ?_
    -- leaf e2
    refine hret _ _ ?_
    refine ⟨_, rfl, ?_⟩
    first
    | exact ⟨congrArg _ (B_congr ⟨fun hh => hh.fits, fun hf => ⟨h11.1, h11.2, h22, hf⟩⟩), hle⟩
    | exact ⟨congrArg _ (B_false fun hh => h22 hh.sh), hle⟩
    | exact ⟨congrArg _ (B_false fun hh => h11 ⟨hh.s, hh.t⟩), hle⟩
  ·
   try simp only [sps] at h11
   refine .sg rfl rfl rfl rfl rfl rfl ?_
   refine .sg rfl rfl rfl rfl rfl rfl ?_
   refine .sg rfl rfl rfl rfl rfl rfl ?_
   refine .sg rfl rfl rfl rfl rfl rfl ?_
   refine .sg rfl rfl rfl rfl rfl rfl ?_
   refine .sg rfl rfl rfl rfl rfl rfl ?_
   refine .sg rfl rfl rfl rfl rfl rfl ?_
   refine .sg rfl rfl rfl rfl rfl rfl ?_
   refine .sgc rfl rfl rfl rfl rfl rfl ?_
   refine .m rfl rfl rfl rfl (.refl _) (.pickF rfl rfl) ?_
   refine .m rfl rfl rfl rfl (.refl _) (.move rfl) ?_
   refine .sg rfl rfl rfl rfl rfl rfl ?_
   refine .sgc rfl rfl rfl rfl rfl rfl ?_
   refine .m rfl rfl rfl rfl (.refl _) (.pickF rfl rfl) ?_
   refine .m rfl rfl rfl rfl (.refl _) (.assign rfl) ?_
   refine .done ?_
   refine hK2 _ _ ?_
   refine .ret ?_
   -- leaf e3
   refine hret _ _ ?_
   refine ⟨_, rfl, ?_⟩
   first
   | exact ⟨congrArg _ (B_congr ⟨fun hh => hh.fits, fun hf => ⟨h11.1, h11.2, h22, hf⟩⟩), hle⟩
   | exact ⟨congrArg _ (B_false fun hh => h22 hh.sh), hle⟩
   | exact ⟨congrArg _ (B_false fun hh => h11 ⟨hh.s, hh.t⟩), hle⟩
theorem unnatural_c {g o : Nat} {m : SMap} {p : SMapP} {H : GHeap} (h : SMap.At H g o m p := by assumption) (hM : m.Shape := by assumption) :
    GCalls Try.prog 62 [.pointer (some ⟨g, o, none⟩)] H (Ret (.tuple #[.int .i64 m.first.1, .int .i64 m.first.2]) H) := by
  refine GCalls.body (N := 81) (rs := [.tmp 2, .tmp 3]) Try.func62 rfl rfl rfl rfl (fun Qx hret hend => ?_)
  refine .forget (fr' := [(0, some _)]) ⟨rfl, trivial⟩ ?_
  have hle := GHeap.Le.refl H
  have base_h := h
  obtain ⟨fs, ft, c14, i2⟩ := h.get
  have hm : MemN _ _ _ _ _ := ⟨rfl, h.1⟩
  have hi := h.2
  have hms : MemN _ _ _ _ _ := ⟨rfl, fs.1⟩
  have his := fs.2
  have hmt : MemN _ _ _ _ _ := ⟨rfl, ft.1⟩
  have hit := ft.2
  obtain ⟨ssh, s5, s6, si1, si2⟩ := fs.get
  obtain ⟨tsh, t5, t6, ti1, ti2⟩ := ft.get
  obtain ⟨c0, c1, c2, c3, c4, d1, d2, d3, d4⟩ := ssh.get
  have hS := hM.s.1
  have hT := hM.t.1
  have hC := hS.c.1
  have q1 := hC.tl
  have q2 := hC.n40
  have q3 := hS.al
  have q4 := hT.al
  rw [← hM.sh] at q4
  have q5 := hM.fits.pl
  refine .seq (fun K1 hK1 => ?_)
  refine .region ?_
  refine .m rfl rfl rfl (.assign rfl) ?_
  refine .m rfl rfl rfl (.assign rfl) ?_
  refine .nil ?_
  refine hK1 _ _ ?_
  refine .seq (fun K2 hK2 => ?_)
  refine .region ?_
  refine .m rfl rfl rfl (.move rfl) ?_
  refine .m rfl rfl rfl (.nilCheck rfl) ?_
  refine .m rfl rfl rfl (.fieldAddr fo_41_0_VSMap rfl) ?_
  refine .m rfl rfl rfl (.fieldAddr fo_39_0_P rfl) ?_
  refine .m rfl rfl rfl (.assign rfl) ?_
  refine .nil ?_
  refine hK2 _ _ ?_
  refine .seq (fun K3 hK3 => ?_)
  refine .seq (fun K4 hK4 => ?_)
  refine .region ?_
  refine .m rfl rfl rfl (.move rfl) ?_
  refine .m rfl rfl rfl (.nilCheck rfl) ?_
  refine .m rfl rfl rfl (.fieldAddr fo_37_1_B rfl) ?_
  refine .m rfl rfl rfl (.load on_22_B rfl (by assumption)) ?_
  refine .m rfl rfl rfl (.len sl_22_A rfl) ?_
  refine .m rfl rfl rfl (.move rfl) ?_
  refine .nil ?_
  refine hK4 _ _ ?_
  refine .block ?_
  refine .loopR (σ := Nat) [(0, some _), (4, some _), (16, some _)] (fun k => [(17, some (.int .i64 (k : Int)))]) (fun k H' => H = H' ∧ (k : Int) ≤ m.s.ac.length ∧ ∀ a, a < k → ∀ e, e < (m.s.ac.getD a []).length → m.bad a e = false) (fun k => (m.s.ac.length - k : Int).toNat) (0) ⟨rfl, rfl, rfl, trivial⟩ ⟨rfl, trivial⟩ ?_ ?_
  ·
   refine ⟨rfl, ?_⟩
   exact ⟨by omega, fun _ _ => by omega⟩
  ·
   rintro k _ ⟨rfl, hI⟩ KL1 hKL1
   refine .forget (fr' := [(17, some (.int .i64 (k : Int))), (0, some _), (4, some _), (16, some _)]) ⟨rfl, rfl, rfl, rfl, trivial⟩ ?_
   obtain ⟨hk1, ha1⟩ := hI
   refine .seq (fun K5 hK5 => ?_)
   refine .region ?_
   refine .m rfl rfl rfl (.cmp rfl rfl rfl) ?_
   refine .nil ?_
   refine hK5 _ _ ?_
   refine .seq (fun K6 hK6 => ?_)
   refine .cond rfl (fun h18 => ?_) (fun h18 => ?_)
   ·
    simp only [sps] at h18
    have r1 := hS.ends (a := k) (by omega)
    have r2 := hT.ends (a := k) (by rw [← hM.sh]; omega)
    rw [← hM.sh] at r2
    have r3 := si2.2 k (by omega)
    have r4 := ti2.2 k (by omega)
    have r5 := i2.2 (m.s.sh.src.getD k 0).toNat (by omega)
    have r6 := i2.2 (m.s.sh.tgt.getD k 0).toNat (by omega)
    have r7 := hM.fits.pa (m.s.sh.src.getD k 0).toNat (by omega)
    have r8 := hM.fits.pa (m.s.sh.tgt.getD k 0).toNat (by omega)
    have r9 := hS.sz (m.s.sh.src.getD k 0).toNat (by omega)
    refine .skip ?_
    refine hK6 _ _ ?_
    refine .seq (fun K7 hK7 => ?_)
    refine .block ?_
    refine .seq (fun K8 hK8 => ?_)
    refine .region ?_
    refine .m rfl rfl rfl (.move rfl) ?_
    refine .m rfl rfl rfl (.assign rfl) ?_
    refine .nil ?_
    refine hK8 _ _ ?_
    refine .seq (fun K9 hK9 => ?_)
    refine .region ?_
    refine .m rfl rfl rfl (.move rfl) ?_
    refine .m rfl rfl rfl (.nilCheck rfl) ?_
    refine .m rfl rfl rfl (.fieldAddr fo_41_0_VSMap rfl) ?_
    refine .m rfl rfl rfl (.fieldAddr fo_39_2_P rfl) ?_
    refine .m rfl rfl rfl (.load on_23_B rfl (by assumption)) ?_
    refine .m rfl rfl rfl (.move rfl) ?_
    refine .m rfl rfl rfl (.idxN sl_23_B (Intss.sl (by assumption)) rfl rfl (by omega)) ?_
    refine .m rfl rfl rfl (.loadR on_22_B (by assumption) rfl (by omega)) ?_
    refine .m rfl rfl rfl (.len sl_22_A rfl) ?_
    refine .m rfl rfl rfl (.move rfl) ?_
    refine .nil ?_
    refine hK9 _ _ ?_
    refine .block ?_
    refine .loopR (σ := Nat) [(0, some _), (4, some _), (5, some _), (16, some _), (17, some _), (27, some _), (28, some _)] (fun l => [(29, some (.int .i64 (l : Int)))]) (fun l H' => H = H' ∧ (l : Int) ≤ (m.s.ac.getD k []).length ∧ ∀ e, e < l → m.bad k e = false) (fun l => ((m.s.ac.getD k []).length - l : Int).toNat) (0) ⟨rfl, rfl, rfl, rfl, rfl, rfl, rfl, trivial⟩ ⟨rfl, trivial⟩ ?_ ?_
    ·
     refine ⟨rfl, ?_⟩
     exact ⟨by omega, fun _ _ => by omega⟩
    ·
     rintro l _ ⟨rfl, hI⟩ KL2 hKL2
     refine .forget (fr' := [(29, some (.int .i64 (l : Int))), (0, some _), (4, some _), (5, some _), (16, some _), (17, some _), (27, some _), (28, some _)]) ⟨rfl, rfl, rfl, rfl, rfl, rfl, rfl, rfl, trivial⟩ ?_
     obtain ⟨hk2, ha2⟩ := hI
     refine .seq (fun K10 hK10 => ?_)
     refine .region ?_
     refine .m rfl rfl rfl (.cmp rfl rfl rfl) ?_
     refine .nil ?_
     refine hK10 _ _ ?_
     refine .seq (fun K11 hK11 => ?_)
     refine .cond rfl (fun h30 => ?_) (fun h30 => ?_)
     ·
      simp only [sps] at h30
      have u1 := hS.act (a := k) (by omega) (e := l) (by omega)
      have u2 := r7.1
      have u3 := allIn_iff.1 r7.2 l (by omega)
      have u4 := r8.1
      refine .skip ?_
      refine hK11 _ _ ?_
      refine .seq (fun K12 hK12 => ?_)
      refine .block ?_
      refine .seq (fun K13 hK13 => ?_)
      refine .region ?_
      refine .m rfl rfl rfl (.move rfl) ?_
      refine .m rfl rfl rfl (.idxN sl_22_A (by assumption) rfl rfl (by omega)) ?_
      refine .m rfl rfl rfl (.loadI on_2_A (by assumption) rfl (by omega)) ?_
      refine .m rfl rfl rfl (.assign rfl) ?_
      refine .m rfl rfl rfl (.assign rfl) ?_
      refine .nil ?_
      refine hK13 _ _ ?_
      refine .seq (fun K14 hK14 => ?_)
      refine .regionD mixed_orders_B (.q 0 (.q 1 (.q 2 (.q 3 (.q 4 (.q 5 (.q 6 (.q 7 (.q 8 (.q 9 (.q 10 (.q 11 (.q 12 (.q 13 (.q 14 (.q 15 (.q 16 (.q 17 (.q 18 (.q 19 (.q 20 (.q 21 (.q 22 (.q 23 (.q 24 (.q 25 (.q 26 (.q 27 (.q 28 (.q 29 (.q 30 (.q 31 (.q 32 (.q 33 (.q 34 (.q 35 (.q 36 (.q 37 (.q 38 (.q 39 (.q 40 (.q 41 (.q 42 (.done)))))))))))))))))))))))))))))))))))))))))))) (by kernel_rfl) ?_
      refine .m rfl rfl rfl rfl (.refl _) (.move rfl) ?_
      refine .m rfl rfl rfl rfl (.refl _) (.nilCheck rfl) ?_
      refine .m rfl rfl rfl rfl (.refl _) (.fieldAddr fo_41_2_VSMap rfl) ?_
      refine .m rfl rfl rfl rfl (.refl _) (.load on_23_B rfl (by assumption)) ?_
      refine .m rfl rfl rfl rfl (.refl _) (.move rfl) ?_
      refine .m rfl rfl rfl rfl (.refl _) (.nilCheck rfl) ?_
      refine .m rfl rfl rfl rfl (.refl _) (.fieldAddr fo_37_2_B rfl) ?_
      refine .m rfl rfl rfl rfl (.refl _) (.load on_22_B rfl (by assumption)) ?_
      refine .m rfl rfl rfl rfl (.refl _) (.move rfl) ?_
      refine .m rfl rfl rfl rfl (.refl _) (.idxN sl_22_A (by assumption) rfl rfl (by omega)) ?_
      refine .m rfl rfl rfl rfl (.refl _) (.loadI on_2_A (by assumption) rfl (by omega)) ?_
      refine .m rfl rfl rfl rfl (.refl _) (.idx1 sl_23_B (Intss.sl (by assumption)) rfl rfl (by omega) (by omega)) ?_
      refine .m rfl rfl rfl rfl (.refl _) (.loadR on_22_B (by assumption) rfl (by omega)) ?_
      refine .m rfl rfl rfl rfl (.refl _) (.move rfl) ?_
      refine .m rfl rfl rfl rfl (.refl _) (.idx1 sl_22_A (by assumption) rfl rfl (by omega) (by omega)) ?_
      refine .m rfl rfl rfl rfl (.refl _) (.loadI on_2_A (by assumption) rfl (by omega)) ?_
      refine .m rfl rfl rfl rfl (.refl _) (.move rfl) ?_
      refine .m rfl rfl rfl rfl (.refl _) (.nilCheck rfl) ?_
      refine .m rfl rfl rfl rfl (.refl _) (.fieldAddr fo_41_1_VSMap rfl) ?_
      refine .m rfl rfl rfl rfl (.refl _) (.fieldAddr fo_39_2_P rfl) ?_
      refine .m rfl rfl rfl rfl (.refl _) (.load on_23_B rfl (by assumption)) ?_
      refine .m rfl rfl rfl rfl (.refl _) (.move rfl) ?_
      refine .m rfl rfl rfl rfl (.refl _) (.idxN sl_23_B (Intss.sl (by assumption)) rfl rfl (by omega)) ?_
      refine .m rfl rfl rfl rfl (.refl _) (.loadR on_22_B (by assumption) rfl (by omega)) ?_
      refine .m rfl rfl rfl rfl (.refl _) (.move rfl) ?_
      refine .m rfl rfl rfl rfl (.refl _) (.nilCheck rfl) ?_
      refine .m rfl rfl rfl rfl (.refl _) (.fieldAddr fo_41_2_VSMap rfl) ?_
      refine .m rfl rfl rfl rfl (.refl _) (.load on_23_B rfl (by assumption)) ?_
      refine .m rfl rfl rfl rfl (.refl _) (.move rfl) ?_
      refine .m rfl rfl rfl rfl (.refl _) (.nilCheck rfl) ?_
      refine .m rfl rfl rfl rfl (.refl _) (.fieldAddr fo_37_1_B rfl) ?_
      refine .m rfl rfl rfl rfl (.refl _) (.load on_22_B rfl (by assumption)) ?_
      refine .m rfl rfl rfl rfl (.refl _) (.move rfl) ?_
      refine .m rfl rfl rfl rfl (.refl _) (.idxN sl_22_A (by assumption) rfl rfl (by omega)) ?_
      refine .m rfl rfl rfl rfl (.refl _) (.loadI on_2_A (by assumption) rfl (by omega)) ?_
      refine .m rfl rfl rfl rfl (.refl _) (.idx1 sl_23_B (Intss.sl (by assumption)) rfl rfl (by omega) (by omega)) ?_
      refine .m rfl rfl rfl rfl (.refl _) (.loadR on_22_B (by assumption) rfl (by omega)) ?_
      refine .m rfl rfl rfl rfl (.refl _) (.move rfl) ?_
      refine .m rfl rfl rfl rfl (.refl _) (.idxN sl_22_A (by assumption) rfl rfl (by omega)) ?_
      refine .m rfl rfl rfl rfl (.refl _) (.loadI on_2_A (by assumption) rfl (by omega)) ?_
      refine .m rfl rfl rfl rfl (.refl _) (.idx1 sl_22_A (by assumption) rfl rfl (by omega) (by omega)) ?_
      refine .m rfl rfl rfl rfl (.refl _) (.loadI on_2_A (by assumption) rfl (by omega)) ?_
      refine .m rfl rfl rfl rfl (.refl _) (.cmp rfl rfl rfl) ?_
      refine .done ?_
      refine hK14 _ _ ?_
      refine .cond rfl (fun h76 => ?_) (fun h76 => ?_)
      ·
       try simp only [sps] at h76
       refine .seq (fun K15 hK15 => ?_)
       refine .region ?_
       refine .m rfl rfl rfl (.move rfl) ?_
       refine .m rfl rfl rfl (.move rfl) ?_
       refine .m rfl rfl rfl (.assign rfl) ?_
       refine .m rfl rfl rfl (.assign rfl) ?_
       refine .nil ?_
       refine hK15 _ _ ?_
       refine .ret ?_
       -- leaf e1
       refine hret _ _ ?_
       refine ⟨_, _, rfl, rfl, ?_⟩
       have := first2_some (n := m.s.ac.length) (len := fun a => (m.s.ac.getD a []).length) (p := m.bad) (a := k) (e := l) (by omega) (by omega) (by simp only [SMap.bad, sps]; exact h76) ha2 ha1
       exact .of (by rw [show m.first = _ from this])
      ·
       try simp only [sps] at h76
       refine .skip ?_
       refine hK12 _ _ ?_
       refine .region ?_
       refine .m rfl rfl rfl (.add rfl rfl rfl (by omega) (by omega)) ?_
       refine .m rfl rfl rfl (.move rfl) ?_
       refine .nil ?_
       refine hKL2 (l + 1) _ _ ?_ ?_ ⟨rfl, rfl, rfl, rfl, rfl, rfl, rfl, rfl, trivial⟩
       ·
        refine ⟨rfl, ?_⟩
        refine ⟨by omega, fun e hx => ?_⟩
        by_cases hltq : e < l
        · exact ha2 e hltq
        · obtain rfl : e = l := by omega
          simp only [SMap.bad, sps]; exact h76
       ·
        omega
     ·
      try simp only [sps] at h30
      refine .exit ?_
      refine hK7 _ _ ?_
      refine .region ?_
      refine .m rfl rfl rfl (.add rfl rfl rfl (by omega) (by omega)) ?_
      refine .m rfl rfl rfl (.move rfl) ?_
      refine .nil ?_
      refine hKL1 (k + 1) _ _ ?_ ?_ ⟨rfl, rfl, rfl, rfl, trivial⟩
      ·
       refine ⟨rfl, ?_⟩
       refine ⟨by omega, fun a hx => ?_⟩
       by_cases hltq : a < k
       · exact ha1 a hltq
       · obtain rfl : a = k := by omega
         exact fun e he => ha2 e (by omega)
      ·
       omega
   ·
    try simp only [sps] at h18
    refine .exit ?_
    refine hK3 _ _ ?_
    refine .seq (fun K16 hK16 => ?_)
    refine .region ?_
    refine .m rfl rfl rfl (.assign rfl) ?_
    refine .m rfl rfl rfl (.assign rfl) ?_
    refine .nil ?_
    refine hK16 _ _ ?_
    refine .ret ?_
    -- leaf e2
    refine hret _ _ ?_
    refine ⟨_, _, rfl, rfl, ?_⟩
    have := first2_none (n := m.s.ac.length) (len := fun a => (m.s.ac.getD a []).length) (p := m.bad) fun a ha => ha1 a (by omega)
    exact .of (by rw [show m.first = _ from this])
theorem smNatural_c {g o : Nat} {m : SMap} {p : SMapP} {H : GHeap} (h : SMap.At H g o m p := by assumption) (hs : m.Small := by assumption) :
    GCalls Try.prog 33 [.pointer (some ⟨g, o, none⟩)] H (Ret (.bool (B m.Is)) H) := by
  refine GCalls.body (N := 15) (rs := [.tmp 2]) Try.func33 rfl rfl rfl rfl (fun Qx hret hend => ?_)
  refine .forget (fr' := [(0, some _)]) ⟨rfl, trivial⟩ ?_
  have hle := GHeap.Le.refl H
  have base_h := h
  refine .seq (fun K1 hK1 => ?_)
  refine .region ?_
  refine .m rfl rfl rfl (.assign rfl) ?_
  refine .nil ?_
  refine hK1 _ _ ?_
  refine .seq (fun K2 hK2 => ?_)
  refine .seq (fun K3 hK3 => ?_)
  refine .region ?_
  refine .m rfl rfl rfl (.move rfl) ?_
  refine .callQ rfl rfl rfl rfl @Try.call61 rfl (smShape_c) ?_
  refine .m rfl rfl rfl (.not rfl) ?_
  refine .nil ?_
  refine hK3 _ _ ?_
  refine .cond rfl (fun h7 => ?_) (fun h7 => ?_)
  ·
   try simp only [sps] at h7
   refine .seq (fun K4 hK4 => ?_)
   refine .region ?_
   refine .m rfl rfl rfl (.assign rfl) ?_
   refine .nil ?_
   refine hK4 _ _ ?_
   refine .ret ?_
   -- leaf e1
   refine hret _ _ ?_
   refine ⟨_, rfl, ?_⟩
   first
   | exact .of (congrArg _ (B_false fun hh => absurd hh.1 (by assumption)))
   | exact .of (congrArg _ (by rw [Bool.eq_iff_iff, B_iff, decide_eq_true_eq]; exact ⟨fun hh => first2_neg.2 hh.2, fun hh => ⟨by assumption, first2_neg.1 hh⟩⟩))
  ·
   try simp only [sps] at h7
   refine .skip ?_
   refine hK2 _ _ ?_
   refine .seq (fun K5 hK5 => ?_)
   refine .region ?_
   refine .m rfl rfl rfl (.move rfl) ?_
   refine .callQ rfl rfl rfl rfl @Try.call62 rfl (unnatural_c) ?_
   refine .m rfl rfl rfl (.move rfl) ?_
   refine .m rfl rfl rfl (.extract rfl rfl) ?_
   refine .m rfl rfl rfl (.extract rfl rfl) ?_
   refine .m rfl rfl rfl (.assign rfl) ?_
   refine .m rfl rfl rfl (.assign rfl) ?_
   refine .nil ?_
   refine hK5 _ _ ?_
   refine .seq (fun K6 hK6 => ?_)
   refine .region ?_
   refine .m rfl rfl rfl (.move rfl) ?_
   refine .m rfl rfl rfl (.cmp rfl rfl rfl) ?_
   refine .m rfl rfl rfl (.assign rfl) ?_
   refine .nil ?_
   refine hK6 _ _ ?_
   refine .ret ?_
   -- leaf e2
   refine hret _ _ ?_
   refine ⟨_, rfl, ?_⟩
   first
   | exact .of (congrArg _ (B_false fun hh => absurd hh.1 (by assumption)))
   | exact .of (congrArg _ (by rw [Bool.eq_iff_iff, B_iff, decide_eq_true_eq]; exact ⟨fun hh => first2_neg.2 hh.2, fun hh => ⟨by assumption, first2_neg.1 hh⟩⟩))
theorem l19Shape_c {f : SFun} {p : SFunP} {H : GHeap} (hin : f.In H p := by assumption) (hs : f.Small := by assumption) : GCalls Try.prog 85 [.agg (f.cells p).toArray] H (Ret (.bool (B f.Shape)) H) := by
  refine GCalls.ret rfl ?_
  refine GCalls.body (N := 85) (rs := [.tmp 2]) Try.func85 rfl rfl rfl rfl (fun Qx hret hend => ?_)
  refine .forget (fr' := [(0, some _)]) ⟨rfl, trivial⟩ ?_
  have hle := GHeap.Le.refl H
  have base_hin := hin
  obtain ⟨s1, s2, s3, s4⟩ := hs
  refine .seq (fun K1 hK1 => ?_)
  refine .region ?_
  refine .r rfl rfl rfl (.boxR rfl sz_39_VSFun rfl) ?_
  rintro _ H1 ⟨g1, rfl, le1, ge1, at1⟩
  have nx_H1 := le1.1
  replace hle := hle.trans le1
  have lt_at1 := GHeap.lt_of_get at1
  replace hin := base_hin.mono hle
  have hb1 : SFun.At _ g1 0 f p := ⟨Mem.of_get at1, hin⟩
  obtain ⟨fsh1, c51, c61, i11, i21⟩ := hb1.get
  have hm1 : MemN _ _ _ _ _ := ⟨rfl, hb1.1⟩
  have hi1 := hb1.2
  have hmsh1 : MemN _ _ _ _ _ := ⟨rfl, fsh1.1⟩
  have hish1 := fsh1.2
  refine .m rfl rfl rfl (.assign rfl) ?_
  refine .nil ?_
  refine hK1 _ _ ?_
  refine .seq (fun K2 hK2 => ?_)
  refine .seq (fun K3 hK3 => ?_)
  refine .region ?_
  obtain ⟨c0, c1, c2, c3, c4, d1, d2, d3, d4⟩ := fsh1.get
  refine .m rfl rfl rfl (.fieldAddr fo_39_0_P rfl) ?_
  refine .m rfl rfl rfl (.loadM ag_37_D rfl (by assumption)) ?_
  refine .callQ rfl rfl rfl rfl @Try.call93 rfl (l02Is_c) ?_
  refine .m rfl rfl rfl (.not rfl) ?_
  refine .m rfl rfl rfl (.move rfl) ?_
  refine .split (fun h9 => ?_) (fun h9 => ?_)
  ·
   try simp only [sps] at h9
   refine .sg rfl rfl rfl rfl rfl ?_
   refine .sg rfl rfl rfl rfl rfl ?_
   refine .sg rfl rfl rfl rfl rfl ?_
   refine .sg rfl rfl rfl rfl rfl ?_
   refine .sg rfl rfl rfl rfl rfl ?_
   refine .sg rfl rfl rfl rfl rfl ?_
   refine .sg rfl rfl rfl rfl rfl ?_
   refine .m rfl rfl rfl (.pickT rfl rfl) ?_
   refine .m rfl rfl rfl (.move rfl) ?_
   refine .sg rfl rfl rfl rfl rfl ?_
   refine .sg rfl rfl rfl rfl rfl ?_
   refine .sg rfl rfl rfl rfl rfl ?_
   refine .sg rfl rfl rfl rfl rfl ?_
   refine .sg rfl rfl rfl rfl rfl ?_
   refine .sg rfl rfl rfl rfl rfl ?_
   refine .sg rfl rfl rfl rfl rfl ?_
   refine .sg rfl rfl rfl rfl rfl ?_
   refine .m rfl rfl rfl (.pickT rfl rfl) ?_
   refine .nil ?_
   refine hK3 _ _ ?_
   refine .condT rfl ?_
   refine .seq (fun K4 hK4 => ?_)
   refine .region ?_
   refine .m rfl rfl rfl (.assign rfl) ?_
   refine .nil ?_
   refine hK4 _ _ ?_
   refine .ret ?_
   -- leaf e1
   refine hret _ _ ?_
   refine ⟨_, rfl, ?_⟩
   exact ⟨congrArg _ (B_false fun hh => h9 hh.c), hle⟩
  ·
   try simp only [sps] at h9
   refine .mg rfl rfl rfl rfl rfl (.fieldAddr fo_39_1_P rfl) ?_
   refine .mg rfl rfl rfl rfl rfl (.load on_22_B rfl (by assumption)) ?_
   refine .mg rfl rfl rfl rfl rfl (.len sl_22_A rfl) ?_
   refine .mg rfl rfl rfl rfl rfl (.fieldAddr fo_39_0_P rfl) ?_
   refine .mg rfl rfl rfl rfl rfl (.fieldAddr fo_37_0_B rfl) ?_
   refine .mg rfl rfl rfl rfl rfl (.load on_2_A rfl (by assumption)) ?_
   refine .mg rfl rfl rfl rfl rfl (.cmp rfl rfl rfl) ?_
   refine .m rfl rfl rfl (.pickF rfl rfl) ?_
   refine .m rfl rfl rfl (.move rfl) ?_
   refine .split (fun h18 => ?_) (fun h18 => ?_)
   ·
    try simp only [sps] at h18
    refine .sg rfl rfl rfl rfl rfl ?_
    refine .sg rfl rfl rfl rfl rfl ?_
    refine .sg rfl rfl rfl rfl rfl ?_
    refine .sg rfl rfl rfl rfl rfl ?_
    refine .sg rfl rfl rfl rfl rfl ?_
    refine .sg rfl rfl rfl rfl rfl ?_
    refine .sg rfl rfl rfl rfl rfl ?_
    refine .sg rfl rfl rfl rfl rfl ?_
    refine .m rfl rfl rfl (.pickT rfl rfl) ?_
    refine .nil ?_
    refine hK3 _ _ ?_
    refine .condT rfl ?_
    refine .seq (fun K5 hK5 => ?_)
    refine .region ?_
    refine .m rfl rfl rfl (.assign rfl) ?_
    refine .nil ?_
    refine hK5 _ _ ?_
    refine .ret ?_
    -- leaf e2
    refine hret _ _ ?_
    refine ⟨_, rfl, ?_⟩
    exact ⟨congrArg _ (B_false fun hh => h18 hh.zl), hle⟩
   ·
    try simp only [sps] at h18
    refine .mg rfl rfl rfl rfl rfl (.fieldAddr fo_39_2_P rfl) ?_
    refine .mg rfl rfl rfl rfl rfl (.load on_23_B rfl (by assumption)) ?_
    refine .mg rfl rfl rfl rfl rfl (.len sl_23_B rfl) ?_
    refine .mg rfl rfl rfl rfl rfl (.fieldAddr fo_39_0_P rfl) ?_
    refine .mg rfl rfl rfl rfl rfl (.fieldAddr fo_37_1_B rfl) ?_
    refine .mg rfl rfl rfl rfl rfl (.load on_22_B rfl (by assumption)) ?_
    refine .mg rfl rfl rfl rfl rfl (.len sl_22_A rfl) ?_
    refine .mg rfl rfl rfl rfl rfl (.cmp rfl rfl rfl) ?_
    refine .m rfl rfl rfl (.pickF rfl rfl) ?_
    refine .nil ?_
    refine hK3 _ _ ?_
    refine .cond rfl (fun h27 => ?_) (fun h27 => ?_)
    ·
     try simp only [sps] at h27
     refine .seq (fun K6 hK6 => ?_)
     refine .region ?_
     refine .m rfl rfl rfl (.assign rfl) ?_
     refine .nil ?_
     refine hK6 _ _ ?_
     refine .ret ?_
     -- leaf e3
     refine hret _ _ ?_
     refine ⟨_, rfl, ?_⟩
     exact ⟨congrArg _ (B_false fun hh => by have := hh.al; omega), hle⟩
    ·
     try simp only [sps] at h27
     refine .skip ?_
     refine hK2 _ _ ?_
     refine .seq (fun K7 hK7 => ?_)
     refine .seq (fun K8 hK8 => ?_)
     refine .region ?_
     refine .m rfl rfl rfl (.assign rfl) ?_
     refine .nil ?_
     refine hK8 _ _ ?_
     refine .block ?_
     have hC := h9
     have hS := hC.1
     have q1 := hS.tl
     have q2 := hS.obj
     refine .loopR (σ := Nat) [(1, some _)] (fun j => [(3, some (.int .i64 (j : Int)))]) (fun j H' => H1 = H' ∧ (j : Int) ≤ f.sz.length ∧ ∀ i, i < j → 0 ≤ f.sz.getD i 0 ∧ f.sz.getD i 0 ≤ 16) (fun j => (f.sz.length - j : Int).toNat) (0) ⟨rfl, trivial⟩ ⟨rfl, trivial⟩ ?_ ?_
     ·
      refine ⟨rfl, ?_⟩
      exact ⟨by omega, fun _ _ => by omega⟩
     ·
      rintro j _ ⟨rfl, hI⟩ KL1 hKL1
      refine .forget (fr' := [(3, some (.int .i64 (j : Int))), (1, some _)]) ⟨rfl, rfl, trivial⟩ ?_
      obtain ⟨hk1, ha1⟩ := hI
      refine .seq (fun K9 hK9 => ?_)
      refine .seq (fun K10 hK10 => ?_)
      refine .region ?_
      refine .m rfl rfl rfl (.move rfl) ?_
      refine .m rfl rfl rfl (.fieldAddr fo_39_1_P rfl) ?_
      refine .m rfl rfl rfl (.load on_22_B rfl (by assumption)) ?_
      refine .m rfl rfl rfl (.len sl_22_A rfl) ?_
      refine .m rfl rfl rfl (.cmp rfl rfl rfl) ?_
      refine .nil ?_
      refine hK10 _ _ ?_
      refine .cond rfl (fun h32 => ?_) (fun h32 => ?_)
      ·
       try simp only [sps] at h32
       refine .skip ?_
       refine hK9 _ _ ?_
       refine .seq (fun K11 hK11 => ?_)
       refine .block ?_
       refine .seq (fun K12 hK12 => ?_)
       refine .region ?_
       refine .m rfl rfl rfl (.fieldAddr fo_39_1_P rfl) ?_
       refine .m rfl rfl rfl (.load on_22_B rfl (by assumption)) ?_
       refine .m rfl rfl rfl (.move rfl) ?_
       refine .m rfl rfl rfl (.idxN sl_22_A (by assumption) rfl rfl (by omega)) ?_
       refine .m rfl rfl rfl (.loadI on_2_A (by assumption) rfl (by omega)) ?_
       refine .callQ rfl rfl rfl rfl @Try.call94 rfl (l01In_c) ?_
       refine .m rfl rfl rfl (.not rfl) ?_
       refine .nil ?_
       refine hK12 _ _ ?_
       refine .cond rfl (fun h41 => ?_) (fun h41 => ?_)
       ·
        try simp only [sps] at h41
        refine .seq (fun K13 hK13 => ?_)
        refine .region ?_
        refine .m rfl rfl rfl (.assign rfl) ?_
        refine .nil ?_
        refine hK13 _ _ ?_
        refine .ret ?_
        -- leaf e4
        refine hret _ _ ?_
        refine ⟨_, rfl, ?_⟩
        exact ⟨congrArg _ (B_false fun hh => by have := hh.sz j (by omega); omega), hle⟩
       ·
        try simp only [sps] at h41
        refine .skip ?_
        refine hK11 _ _ ?_
        refine .region ?_
        refine .m rfl rfl rfl (.move rfl) ?_
        refine .m rfl rfl rfl (.add rfl rfl rfl (by omega) (by omega)) ?_
        refine .m rfl rfl rfl (.assign rfl) ?_
        refine .nil ?_
        refine hKL1 (j + 1) _ _ ?_ ?_ ⟨rfl, rfl, trivial⟩
        ·
         refine ⟨rfl, ?_⟩
         refine ⟨by omega, fun i hx => ?_⟩
         by_cases hltq : i < j
         · exact ha1 i hltq
         · obtain rfl : i = j := by omega
           exact h41
        ·
         omega
      ·
       try simp only [sps] at h32
       refine .exit ?_
       refine hK7 _ _ ?_
       refine .seq (fun K14 hK14 => ?_)
       refine .seq (fun K15 hK15 => ?_)
       refine .region ?_
       refine .m rfl rfl rfl (.assign rfl) ?_
       refine .nil ?_
       refine hK15 _ _ ?_
       refine .block ?_
       refine .loopR (σ := Nat) [(1, some _)] (fun k => [(4, some (.int .i64 (k : Int)))]) (fun k H' => H1 = H' ∧ (k : Int) ≤ f.ac.length ∧ ∀ a, a < k → f.AcOk a) (fun k => (f.ac.length - k : Int).toNat) (0) ⟨rfl, trivial⟩ ⟨rfl, trivial⟩ ?_ ?_
       ·
        refine ⟨rfl, ?_⟩
        exact ⟨by omega, fun _ _ => by omega⟩
       ·
        rintro k _ ⟨rfl, hI⟩ KL2 hKL2
        refine .forget (fr' := [(4, some (.int .i64 (k : Int))), (1, some _)]) ⟨rfl, rfl, trivial⟩ ?_
        obtain ⟨hk2, ha2⟩ := hI
        refine .seq (fun K16 hK16 => ?_)
        refine .seq (fun K17 hK17 => ?_)
        refine .region ?_
        refine .m rfl rfl rfl (.move rfl) ?_
        refine .m rfl rfl rfl (.fieldAddr fo_39_2_P rfl) ?_
        refine .m rfl rfl rfl (.load on_23_B rfl (by assumption)) ?_
        refine .m rfl rfl rfl (.len sl_23_B rfl) ?_
        refine .m rfl rfl rfl (.cmp rfl rfl rfl) ?_
        refine .nil ?_
        refine hK17 _ _ ?_
        refine .cond rfl (fun h46 => ?_) (fun h46 => ?_)
        ·
         simp only [sps] at h46
         have q3 := hS.src k (by omega)
         have q4 := hS.tgt k (by omega)
         have q6 := i21.2 k (by omega)
         have q7 := s4 k
         refine .skip ?_
         refine hK16 _ _ ?_
         refine .seq (fun K18 hK18 => ?_)
         refine .block ?_
         refine .seq (fun K19 hK19 => ?_)
         refine .regionD mixed_orders_B (.q 0 (.q 1 (.q 2 (.q 3 (.q 4 (.q 5 (.q 6 (.q 7 (.q 8 (.q 9 (.q 10 (.q 11 (.q 12 (.q 13 (.q 14 (.q 15 (.q 16 (.q 17 (.q 18 (.q 19 (.q 20 (.q 21 (.q 22 (.q 23 (.q 24 (.q 25 (.q 26 (.q 27 (.q 28 (.q 29 (.q 30 (.q 31 (.q 32 (.c 33 0 (.q 34 (.q 35 (.done))))))))))))))))))))))))))))))))))))) (by kernel_rfl) ?_
         refine .m rfl rfl rfl rfl (.refl _) (.fieldAddr fo_39_2_P rfl) ?_
         refine .m rfl rfl rfl rfl (.refl _) (.load on_23_B rfl (by assumption)) ?_
         refine .m rfl rfl rfl rfl (.refl _) (.move rfl) ?_
         refine .m rfl rfl rfl rfl (.refl _) (.idxN sl_23_B (Intss.sl (by assumption)) rfl rfl (by omega)) ?_
         refine .m rfl rfl rfl rfl (.refl _) (.loadR on_22_B (by assumption) rfl (by omega)) ?_
         refine .m rfl rfl rfl rfl (.refl _) (.len sl_22_A rfl) ?_
         refine .m rfl rfl rfl rfl (.refl _) (.fieldAddr fo_39_1_P rfl) ?_
         refine .m rfl rfl rfl rfl (.refl _) (.load on_22_B rfl (by assumption)) ?_
         refine .m rfl rfl rfl rfl (.refl _) (.fieldAddr fo_39_0_P rfl) ?_
         refine .m rfl rfl rfl rfl (.refl _) (.fieldAddr fo_37_1_B rfl) ?_
         refine .m rfl rfl rfl rfl (.refl _) (.load on_22_B rfl (by assumption)) ?_
         refine .m rfl rfl rfl rfl (.refl _) (.move rfl) ?_
         refine .m rfl rfl rfl rfl (.refl _) (.idxN sl_22_A (by assumption) rfl rfl (by omega)) ?_
         refine .m rfl rfl rfl rfl (.refl _) (.loadI on_2_A (by assumption) rfl (by omega)) ?_
         refine .m rfl rfl rfl rfl (.refl _) (.idx1 sl_22_A (by assumption) rfl rfl (by omega) (by omega)) ?_
         refine .m rfl rfl rfl rfl (.refl _) (.loadI on_2_A (by assumption) rfl (by omega)) ?_
         refine .m rfl rfl rfl rfl (.refl _) (.cmp rfl rfl rfl) ?_
         refine .m rfl rfl rfl rfl (.refl _) (.move rfl) ?_
         refine .split (fun h66 => ?_) (fun h66 => ?_)
         ·
          try simp only [sps] at h66
          refine .sg rfl rfl rfl rfl rfl rfl ?_
          refine .sg rfl rfl rfl rfl rfl rfl ?_
          refine .sg rfl rfl rfl rfl rfl rfl ?_
          refine .sg rfl rfl rfl rfl rfl rfl ?_
          refine .sg rfl rfl rfl rfl rfl rfl ?_
          refine .sg rfl rfl rfl rfl rfl rfl ?_
          refine .sg rfl rfl rfl rfl rfl rfl ?_
          refine .sg rfl rfl rfl rfl rfl rfl ?_
          refine .sg rfl rfl rfl rfl rfl rfl ?_
          refine .sg rfl rfl rfl rfl rfl rfl ?_
          refine .sg rfl rfl rfl rfl rfl rfl ?_
          refine .sg rfl rfl rfl rfl rfl rfl ?_
          refine .sg rfl rfl rfl rfl rfl rfl ?_
          refine .sg rfl rfl rfl rfl rfl rfl ?_
          refine .sg rfl rfl rfl rfl rfl rfl ?_
          refine .sgc rfl rfl rfl rfl rfl rfl ?_
          refine .sg rfl rfl rfl rfl rfl rfl ?_
          refine .m rfl rfl rfl rfl (.refl _) (.pickT rfl rfl) ?_
          refine .done ?_
          refine hK19 _ _ ?_
          refine .condT rfl ?_
          refine .seq (fun K20 hK20 => ?_)
          refine .region ?_
          refine .m rfl rfl rfl (.assign rfl) ?_
          refine .nil ?_
          refine hK20 _ _ ?_
          refine .ret ?_
          -- leaf e5
          refine hret _ _ ?_
          refine ⟨_, rfl, ?_⟩
          exact ⟨congrArg _ (B_false fun hh => h66 (hh.ac k (by omega)).1), hle⟩
         ·
          try simp only [sps] at h66
          refine .mg rfl rfl rfl rfl rfl rfl (.refl _) (.fieldAddr fo_39_1_P rfl) ?_
          refine .mg rfl rfl rfl rfl rfl rfl (.refl _) (.load on_22_B rfl (by assumption)) ?_
          refine .mg rfl rfl rfl rfl rfl rfl (.refl _) (.fieldAddr fo_39_0_P rfl) ?_
          refine .mg rfl rfl rfl rfl rfl rfl (.refl _) (.fieldAddr fo_37_2_B rfl) ?_
          refine .mg rfl rfl rfl rfl rfl rfl (.refl _) (.load on_22_B rfl (by assumption)) ?_
          refine .mg rfl rfl rfl rfl rfl rfl (.refl _) (.move rfl) ?_
          refine .mg rfl rfl rfl rfl rfl rfl (.refl _) (.idxN sl_22_A (by assumption) rfl rfl (by omega)) ?_
          refine .mg rfl rfl rfl rfl rfl rfl (.refl _) (.loadI on_2_A (by assumption) rfl (by omega)) ?_
          refine .mg rfl rfl rfl rfl rfl rfl (.refl _) (.idx1 sl_22_A (by assumption) rfl rfl (by omega) (by omega)) ?_
          refine .mg rfl rfl rfl rfl rfl rfl (.refl _) (.loadI on_2_A (by assumption) rfl (by omega)) ?_
          refine .mg rfl rfl rfl rfl rfl rfl (.refl _) (.fieldAddr fo_39_2_P rfl) ?_
          refine .mg rfl rfl rfl rfl rfl rfl (.refl _) (.load on_23_B rfl (by assumption)) ?_
          refine .mg rfl rfl rfl rfl rfl rfl (.refl _) (.move rfl) ?_
          refine .mg rfl rfl rfl rfl rfl rfl (.refl _) (.idxN sl_23_B (Intss.sl (by assumption)) rfl rfl (by omega)) ?_
          refine .mg rfl rfl rfl rfl rfl rfl (.refl _) (.loadR on_22_B (by assumption) rfl (by omega)) ?_
          refine .callQ0g rfl rfl rfl rfl rfl rfl rfl @Try.call59 rfl (l01Map_c) ?_
          refine .mg rfl rfl rfl rfl rfl rfl (.refl _) (.not rfl) ?_
          refine .m rfl rfl rfl rfl (.refl _) (.pickF rfl rfl) ?_
          refine .done ?_
          refine hK19 _ _ ?_
          refine .cond rfl (fun h84 => ?_) (fun h84 => ?_)
          ·
           simp only [B_iff, B_not, Bool.not_eq_true', Bool.not_eq_false'] at h84
           refine .seq (fun K21 hK21 => ?_)
           refine .region ?_
           refine .m rfl rfl rfl (.assign rfl) ?_
           refine .nil ?_
           refine hK21 _ _ ?_
           refine .ret ?_
           -- leaf e6
           refine hret _ _ ?_
           refine ⟨_, rfl, ?_⟩
           exact ⟨congrArg _ (B_false fun hh => by rw [(hh.ac k (by omega)).2] at h84; cases h84), hle⟩
          ·
           simp only [B_iff, B_not, Bool.not_eq_true', Bool.not_eq_false'] at h84
           refine .skip ?_
           refine hK18 _ _ ?_
           refine .region ?_
           refine .m rfl rfl rfl (.move rfl) ?_
           refine .m rfl rfl rfl (.add rfl rfl rfl (by omega) (by omega)) ?_
           refine .m rfl rfl rfl (.assign rfl) ?_
           refine .nil ?_
           refine hKL2 (k + 1) _ _ ?_ ?_ ⟨rfl, rfl, trivial⟩
           ·
            refine ⟨rfl, ?_⟩
            refine ⟨by omega, fun a hx => ?_⟩
            by_cases hltq : a < k
            · exact ha2 a hltq
            · obtain rfl : a = k := by omega
              exact ⟨by omega, h84⟩
           ·
            omega
        ·
         try simp only [sps] at h46
         refine .exit ?_
         refine hK14 _ _ ?_
         refine .seq (fun K22 hK22 => ?_)
         refine .region ?_
         refine .m rfl rfl rfl (.assign rfl) ?_
         refine .nil ?_
         refine hK22 _ _ ?_
         refine .ret ?_
         -- leaf e7
         refine hret _ _ ?_
         refine ⟨_, rfl, ?_⟩
         exact ⟨congrArg _ (B_true ⟨hC, by omega, fun i hi => ha1 i (by omega), by omega, fun a ha => ha2 a (by omega)⟩), hle⟩
theorem l19Fault_c {f : SFun} {p : SFunP} {H : GHeap} (hin : f.In H p := by assumption) (hS : f.Shape := by assumption) :
    GCalls Try.prog 86 [.agg (f.cells p).toArray] H (fun v H' => ((∃ k x y z, v = .tuple #[.int .i64 k, .int .i64 x, .int .i64 y, .int .i64 z] ∧ (k = 0 ↔ f.Laws)) ∧ flat v = true) ∧ H' = H) := by
  refine (GCalls.quiet (φ := fun v => (∃ k x y z, v = .tuple #[.int .i64 k, .int .i64 x, .int .i64 y, .int .i64 z] ∧ (k = 0 ↔ f.Laws)) ∧ flat v = true) ?_)
  refine GCalls.body (N := 117) (rs := [.tmp 2, .tmp 3, .tmp 4, .tmp 5]) Try.func86 rfl rfl rfl rfl (fun Qx hret hend => ?_)
  refine .forget (fr' := [(0, some _)]) ⟨rfl, trivial⟩ ?_
  have hle := GHeap.Le.refl H
  have base_hin := hin
  have hC := hS.c.1
  have q1 := hC.tl
  have q2 := hC.obj
  have q3 := hC.n40
  have q4 := hC.cl
  have q5 := hC.il
  have q6 := hS.al
  have q7 := hS.zl
  refine .seq (fun K1 hK1 => ?_)
  refine .region ?_
  refine .r rfl rfl rfl (.boxR rfl sz_39_VSFun rfl) ?_
  rintro _ H1 ⟨g1, rfl, le1, ge1, at1⟩
  have nx_H1 := le1.1
  replace hle := hle.trans le1
  have lt_at1 := GHeap.lt_of_get at1
  replace hin := base_hin.mono hle
  have hb1 : SFun.At _ g1 0 f p := ⟨Mem.of_get at1, hin⟩
  obtain ⟨fsh1, c51, c61, i11, i21⟩ := hb1.get
  have hm1 : MemN _ _ _ _ _ := ⟨rfl, hb1.1⟩
  have hi1 := hb1.2
  have hmsh1 : MemN _ _ _ _ _ := ⟨rfl, fsh1.1⟩
  have hish1 := fsh1.2
  refine .m rfl rfl rfl (.assign rfl) ?_
  refine .m rfl rfl rfl (.assign rfl) ?_
  refine .m rfl rfl rfl (.assign rfl) ?_
  refine .m rfl rfl rfl (.assign rfl) ?_
  refine .nil ?_
  refine hK1 _ _ ?_
  refine .seq (fun K2 hK2 => ?_)
  refine .region ?_
  refine .m rfl rfl rfl (.fieldAddr fo_39_0_P rfl) ?_
  refine .m rfl rfl rfl (.loadM ag_37_D rfl (by assumption)) ?_
  refine .r rfl rfl rfl (.allocR rfl ze_37_E rfl) ?_
  rintro _ H6 ⟨g6, rfl, le6, ge6, at6⟩
  have nx_H6 := le6.1
  replace hle := hle.trans le6
  replace at1 := le6.2 _ _ at1
  have lt_at6 := GHeap.lt_of_get at6
  replace hin := base_hin.mono hle
  clear hb1 fsh1 c51 c61 i11 i21 hm1 hi1 hmsh1 hish1
  have hb1 : SFun.At _ g1 0 f p := ⟨Mem.of_get at1, hin⟩
  obtain ⟨fsh1, c51, c61, i11, i21⟩ := hb1.get
  have hm1 : MemN _ _ _ _ _ := ⟨rfl, hb1.1⟩
  have hi1 := hb1.2
  have hmsh1 : MemN _ _ _ _ _ := ⟨rfl, fsh1.1⟩
  have hish1 := fsh1.2
  refine .r0 rfl rfl (.fillR rfl sz_37_D rfl rfl rfl rfl (by assumption) (by first | rfl | exact Nat.le_of_ble_eq_true rfl | simp)) ?_
  rintro _ H1003 ⟨rfl, st1003, at1003⟩
  have nx_H1003 := st1003.nx
  replace hle := hle.st st1003 (fun k hk => ⟨by omega, trivial⟩)
  replace at1 := st1003.same _ _ ⟨by omega, trivial⟩ at1
  have lt_at1003 := GHeap.lt_of_get at1003
  replace hin := base_hin.mono hle
  clear hb1 fsh1 c51 c61 i11 i21 hm1 hi1 hmsh1 hish1
  have hb1 : SFun.At _ g1 0 f p := ⟨Mem.of_get at1, hin⟩
  obtain ⟨fsh1, c51, c61, i11, i21⟩ := hb1.get
  have hm1 : MemN _ _ _ _ _ := ⟨rfl, hb1.1⟩
  have hi1 := hb1.2
  have hmsh1 : MemN _ _ _ _ _ := ⟨rfl, fsh1.1⟩
  have hish1 := fsh1.2
  have mm1003 : MemN _ _ _ _ _ := ⟨rfl, Mem.of_get at1003⟩
  have hb6 : Cat.At _ g6 0 f.sh p.sh := ⟨Mem.of_get at1003, hish1⟩
  obtain ⟨c06, c16, c26, c36, c46, i16, i26, i36, i46⟩ := hb6.get
  have hm6 : MemN _ _ _ _ _ := ⟨rfl, hb6.1⟩
  have hi6 := hb6.2
  refine .nil ?_
  refine hK2 _ _ ?_
  refine .seq (fun K3 hK3 => ?_)
  refine .seq (fun K4 hK4 => ?_)
  refine .region ?_
  refine .m rfl rfl rfl (.assign rfl) ?_
  refine .nil ?_
  refine hK4 _ _ ?_
  refine .block ?_
  refine .loopR (σ := Nat) [(1, some _), (6, some _)] (fun k => [(7, some (.int .i64 (k : Int)))]) (fun k H' => H1003 = H' ∧ (k : Int) ≤ f.sh.obj ∧ ∀ x, x < k → ∀ e : Nat, e < (f.ac.getD (f.sh.idn.getD x 0).toNat []).length → (f.ac.getD (f.sh.idn.getD x 0).toNat []).getD e 0 = e) (fun k => (f.sh.obj - k : Int).toNat) (0) ⟨rfl, rfl, trivial⟩ ⟨rfl, trivial⟩ ?_ ?_
  ·
   refine ⟨rfl, ?_⟩
   exact ⟨by omega, fun _ _ => by omega⟩
  ·
   rintro k _ ⟨rfl, hI⟩ KL1 hKL1
   refine .forget (fr' := [(7, some (.int .i64 (k : Int))), (1, some _), (6, some _)]) ⟨rfl, rfl, rfl, trivial⟩ ?_
   obtain ⟨hk1, ha1⟩ := hI
   refine .seq (fun K5 hK5 => ?_)
   refine .seq (fun K6 hK6 => ?_)
   refine .region ?_
   refine .m rfl rfl rfl (.move rfl) ?_
   refine .m rfl rfl rfl (.fieldAddr fo_37_0_B rfl) ?_
   refine .m rfl rfl rfl (.load on_2_A rfl (by assumption)) ?_
   refine .m rfl rfl rfl (.cmp rfl rfl rfl) ?_
   refine .nil ?_
   refine hK6 _ _ ?_
   refine .cond rfl (fun h17 => ?_) (fun h17 => ?_)
   ·
    simp only [sps] at h17
    have r1 := hC.idn k (by omega)
    have r2 := i21.2 (f.sh.idn.getD k 0).toNat (by omega)
    have r3 := hS.ends (a := (f.sh.idn.getD k 0).toNat) (by omega)
    rw [(hC.ids k (by omega)).1] at r3
    have r4 := hS.sz k (by omega)
    have r5 : ((k : Int)).toNat = k := Int.toNat_natCast k
    rw [r5] at r3
    refine .skip ?_
    refine hK5 _ _ ?_
    refine .seq (fun K7 hK7 => ?_)
    refine .block ?_
    refine .seq (fun K8 hK8 => ?_)
    refine .region ?_
    refine .m rfl rfl rfl (.assign rfl) ?_
    refine .nil ?_
    refine hK8 _ _ ?_
    refine .block ?_
    refine .loopR (σ := Nat) [(1, some _), (6, some _), (7, some _)] (fun l => [(8, some (.int .i64 (l : Int)))]) (fun l H' => H1003 = H' ∧ (l : Int) ≤ (f.ac.getD (f.sh.idn.getD k 0).toNat []).length ∧ ∀ e, e < l → (f.ac.getD (f.sh.idn.getD k 0).toNat []).getD e 0 = e) (fun l => ((f.ac.getD (f.sh.idn.getD k 0).toNat []).length - l : Int).toNat) (0) ⟨rfl, rfl, rfl, trivial⟩ ⟨rfl, trivial⟩ ?_ ?_
    ·
     refine ⟨rfl, ?_⟩
     exact ⟨by omega, fun _ _ => by omega⟩
    ·
     rintro l _ ⟨rfl, hI⟩ KL2 hKL2
     refine .forget (fr' := [(8, some (.int .i64 (l : Int))), (1, some _), (6, some _), (7, some _)]) ⟨rfl, rfl, rfl, rfl, trivial⟩ ?_
     obtain ⟨hk2, ha2⟩ := hI
     refine .seq (fun K9 hK9 => ?_)
     refine .seq (fun K10 hK10 => ?_)
     refine .region ?_
     refine .m rfl rfl rfl (.move rfl) ?_
     refine .m rfl rfl rfl (.fieldAddr fo_39_1_P rfl) ?_
     refine .m rfl rfl rfl (.load on_22_B rfl (by assumption)) ?_
     refine .m rfl rfl rfl (.move rfl) ?_
     refine .m rfl rfl rfl (.idxN sl_22_A (by assumption) rfl rfl (by omega)) ?_
     refine .m rfl rfl rfl (.loadI on_2_A (by assumption) rfl (by omega)) ?_
     refine .m rfl rfl rfl (.cmp rfl rfl rfl) ?_
     refine .nil ?_
     refine hK10 _ _ ?_
     refine .cond rfl (fun h26 => ?_) (fun h26 => ?_)
     ·
      try simp only [sps] at h26
      refine .skip ?_
      refine hK9 _ _ ?_
      refine .seq (fun K11 hK11 => ?_)
      refine .block ?_
      refine .seq (fun K12 hK12 => ?_)
      refine .regionD mixed_orders_B (.q 0 (.q 1 (.q 2 (.q 3 (.q 4 (.q 5 (.q 6 (.q 7 (.q 8 (.q 9 (.q 10 (.q 11 (.q 12 (.q 13 (.done))))))))))))))) (by kernel_rfl) ?_
      refine .m rfl rfl rfl rfl (.refl _) (.fieldAddr fo_39_2_P rfl) ?_
      refine .m rfl rfl rfl rfl (.refl _) (.load on_23_B rfl (by assumption)) ?_
      refine .m rfl rfl rfl rfl (.refl _) (.fieldAddr fo_37_3_B rfl) ?_
      refine .m rfl rfl rfl rfl (.refl _) (.load on_22_B rfl (by assumption)) ?_
      refine .m rfl rfl rfl rfl (.refl _) (.move rfl) ?_
      refine .m rfl rfl rfl rfl (.refl _) (.idxN sl_22_A (by assumption) rfl rfl (by omega)) ?_
      refine .m rfl rfl rfl rfl (.refl _) (.loadI on_2_A (by assumption) rfl (by omega)) ?_
      refine .m rfl rfl rfl rfl (.refl _) (.idx1 sl_23_B (Intss.sl (by assumption)) rfl rfl (by omega) (by omega)) ?_
      refine .m rfl rfl rfl rfl (.refl _) (.loadR on_22_B (by assumption) rfl (by omega)) ?_
      refine .m rfl rfl rfl rfl (.refl _) (.move rfl) ?_
      refine .m rfl rfl rfl rfl (.refl _) (.idxN sl_22_A (by assumption) rfl rfl (by omega)) ?_
      refine .m rfl rfl rfl rfl (.refl _) (.loadI on_2_A (by assumption) rfl (by omega)) ?_
      refine .m rfl rfl rfl rfl (.refl _) (.move rfl) ?_
      refine .m rfl rfl rfl rfl (.refl _) (.cmp rfl rfl rfl) ?_
      refine .done ?_
      refine hK12 _ _ ?_
      refine .cond rfl (fun h42 => ?_) (fun h42 => ?_)
      ·
       try simp only [sps] at h42
       refine .seq (fun K13 hK13 => ?_)
       refine .region ?_
       refine .m rfl rfl rfl (.move rfl) ?_
       refine .m rfl rfl rfl (.move rfl) ?_
       refine .m rfl rfl rfl (.assign rfl) ?_
       refine .m rfl rfl rfl (.assign rfl) ?_
       refine .m rfl rfl rfl (.assign rfl) ?_
       refine .m rfl rfl rfl (.assign rfl) ?_
       refine .nil ?_
       refine hK13 _ _ ?_
       refine .ret ?_
       -- leaf e1
       refine hret _ _ ?_
       refine ⟨_, _, _, _, rfl, rfl, rfl, rfl, ?_⟩
       exact ⟨⟨⟨_, _, _, _, rfl, ⟨fun hh => absurd hh (by decide), fun hL => absurd (hL.ids k (by omega) l (by omega)) h42⟩⟩, rfl⟩, rfl, hle⟩
      ·
       try simp only [sps] at h42
       refine .skip ?_
       refine hK11 _ _ ?_
       refine .region ?_
       refine .m rfl rfl rfl (.move rfl) ?_
       refine .m rfl rfl rfl (.add rfl rfl rfl (by omega) (by omega)) ?_
       refine .m rfl rfl rfl (.assign rfl) ?_
       refine .nil ?_
       refine hKL2 (l + 1) _ _ ?_ ?_ ⟨rfl, rfl, rfl, rfl, trivial⟩
       ·
        refine ⟨rfl, ?_⟩
        refine ⟨by omega, fun e hx => ?_⟩
        by_cases hltq : e < l
        · exact ha2 e hltq
        · obtain rfl : e = l := by omega
          exact h42
       ·
        omega
     ·
      try simp only [sps] at h26
      refine .exit ?_
      refine hK7 _ _ ?_
      refine .region ?_
      refine .m rfl rfl rfl (.move rfl) ?_
      refine .m rfl rfl rfl (.add rfl rfl rfl (by omega) (by omega)) ?_
      refine .m rfl rfl rfl (.assign rfl) ?_
      refine .nil ?_
      refine hKL1 (k + 1) _ _ ?_ ?_ ⟨rfl, rfl, rfl, trivial⟩
      ·
       refine ⟨rfl, ?_⟩
       refine ⟨by omega, fun x hx => ?_⟩
       by_cases hltq : x < k
       · exact ha1 x hltq
       · obtain rfl : x = k := by omega
         exact fun e he => ha2 e (by omega)
      ·
       omega
   ·
    try simp only [sps] at h17
    refine .exit ?_
    refine hK3 _ _ ?_
    refine .seq (fun K14 hK14 => ?_)
    refine .seq (fun K15 hK15 => ?_)
    refine .region ?_
    refine .m rfl rfl rfl (.assign rfl) ?_
    refine .nil ?_
    refine hK15 _ _ ?_
    refine .block ?_
    refine .loopR (σ := Nat) [(1, some _), (6, some _)] (fun a => [(9, some (.int .i64 (a : Int)))]) (fun a H' => H1003 = H' ∧ (a : Int) ≤ f.sh.src.length ∧ ∀ a', a' < a → ∀ b : Nat, b < f.sh.src.length → f.sh.tgt.getD a' 0 = f.sh.src.getD b 0 → ∀ e : Nat, e < (f.ac.getD a' []).length → (f.ac.getD ((f.sh.comp.getD a' []).getD b 0).toNat []).getD e 0 = (f.ac.getD b []).getD ((f.ac.getD a' []).getD e 0).toNat 0) (fun a => (f.sh.src.length - a : Int).toNat) (0) ⟨rfl, rfl, trivial⟩ ⟨rfl, trivial⟩ ?_ ?_
    ·
     refine ⟨rfl, ?_⟩
     exact ⟨by omega, fun _ _ => by omega⟩
    ·
     rintro a _ ⟨rfl, hI⟩ KL3 hKL3
     refine .forget (fr' := [(9, some (.int .i64 (a : Int))), (1, some _), (6, some _)]) ⟨rfl, rfl, rfl, trivial⟩ ?_
     obtain ⟨hk3, ha3⟩ := hI
     refine .seq (fun K16 hK16 => ?_)
     refine .seq (fun K17 hK17 => ?_)
     refine .region ?_
     refine .m rfl rfl rfl (.move rfl) ?_
     refine .m rfl rfl rfl (.fieldAddr fo_37_1_B rfl) ?_
     refine .m rfl rfl rfl (.load on_22_B rfl (by assumption)) ?_
     refine .m rfl rfl rfl (.len sl_22_A rfl) ?_
     refine .m rfl rfl rfl (.cmp rfl rfl rfl) ?_
     refine .nil ?_
     refine hK17 _ _ ?_
     refine .cond rfl (fun h49 => ?_) (fun h49 => ?_)
     ·
      simp only [sps] at h49
      have r1 := hC.row a (by omega)
      have r2 := i46.2 a (by omega)
      have r3 := i21.2 a (by omega)
      have r4 := hS.ends (a := a) (by omega)
      have r5 := hS.sz (f.sh.src.getD a 0).toNat (by omega)
      refine .skip ?_
      refine hK16 _ _ ?_
      refine .seq (fun K18 hK18 => ?_)
      refine .block ?_
      refine .seq (fun K19 hK19 => ?_)
      refine .region ?_
      refine .m rfl rfl rfl (.assign rfl) ?_
      refine .nil ?_
      refine hK19 _ _ ?_
      refine .block ?_
      refine .loopR (σ := Nat) [(1, some _), (6, some _), (9, some _)] (fun b => [(10, some (.int .i64 (b : Int)))]) (fun b H' => H1003 = H' ∧ (b : Int) ≤ f.sh.src.length ∧ ∀ b', b' < b → f.sh.tgt.getD a 0 = f.sh.src.getD b' 0 → ∀ e : Nat, e < (f.ac.getD a []).length → (f.ac.getD ((f.sh.comp.getD a []).getD b' 0).toNat []).getD e 0 = (f.ac.getD b' []).getD ((f.ac.getD a []).getD e 0).toNat 0) (fun b => (f.sh.src.length - b : Int).toNat) (0) ⟨rfl, rfl, rfl, trivial⟩ ⟨rfl, trivial⟩ ?_ ?_
      ·
       refine ⟨rfl, ?_⟩
       exact ⟨by omega, fun _ _ => by omega⟩
      ·
       rintro b _ ⟨rfl, hI⟩ KL4 hKL4
       refine .forget (fr' := [(10, some (.int .i64 (b : Int))), (1, some _), (6, some _), (9, some _)]) ⟨rfl, rfl, rfl, rfl, trivial⟩ ?_
       obtain ⟨hk4, ha4⟩ := hI
       refine .seq (fun K20 hK20 => ?_)
       refine .seq (fun K21 hK21 => ?_)
       refine .region ?_
       refine .m rfl rfl rfl (.move rfl) ?_
       refine .m rfl rfl rfl (.fieldAddr fo_37_1_B rfl) ?_
       refine .m rfl rfl rfl (.load on_22_B rfl (by assumption)) ?_
       refine .m rfl rfl rfl (.len sl_22_A rfl) ?_
       refine .m rfl rfl rfl (.cmp rfl rfl rfl) ?_
       refine .nil ?_
       refine hK21 _ _ ?_
       refine .cond rfl (fun h56 => ?_) (fun h56 => ?_)
       ·
        simp only [sps] at h56
        have t1 := i21.2 b (by omega)
        have t2 := hS.ends (a := b) (by omega)
        refine .skip ?_
        refine hK20 _ _ ?_
        refine .seq (fun K22 hK22 => ?_)
        refine .block ?_
        refine .seq (fun K23 hK23 => ?_)
        refine .seq (fun K24 hK24 => ?_)
        refine .regionD mixed_orders_B (.q 0 (.q 1 (.q 2 (.q 3 (.q 4 (.q 5 (.q 6 (.q 7 (.q 8 (.q 9 (.q 10 (.done)))))))))))) (by kernel_rfl) ?_
        refine .m rfl rfl rfl rfl (.refl _) (.fieldAddr fo_37_2_B rfl) ?_
        refine .m rfl rfl rfl rfl (.refl _) (.load on_22_B rfl (by assumption)) ?_
        refine .m rfl rfl rfl rfl (.refl _) (.move rfl) ?_
        refine .m rfl rfl rfl rfl (.refl _) (.idxN sl_22_A (by assumption) rfl rfl (by omega)) ?_
        refine .m rfl rfl rfl rfl (.refl _) (.loadI on_2_A (by assumption) rfl (by omega)) ?_
        refine .m rfl rfl rfl rfl (.refl _) (.fieldAddr fo_37_1_B rfl) ?_
        refine .m rfl rfl rfl rfl (.refl _) (.load on_22_B rfl (by assumption)) ?_
        refine .m rfl rfl rfl rfl (.refl _) (.move rfl) ?_
        refine .m rfl rfl rfl rfl (.refl _) (.idxN sl_22_A (by assumption) rfl rfl (by omega)) ?_
        refine .m rfl rfl rfl rfl (.refl _) (.loadI on_2_A (by assumption) rfl (by omega)) ?_
        refine .m rfl rfl rfl rfl (.refl _) (.cmp rfl rfl rfl) ?_
        refine .done ?_
        refine hK24 _ _ ?_
        refine .cond rfl (fun h69 => ?_) (fun h69 => ?_)
        ·
         try simp only [sps] at h69
         refine .exit ?_
         refine hK22 _ _ ?_
         refine .region ?_
         refine .m rfl rfl rfl (.move rfl) ?_
         refine .m rfl rfl rfl (.add rfl rfl rfl (by omega) (by omega)) ?_
         refine .m rfl rfl rfl (.assign rfl) ?_
         refine .nil ?_
         refine hKL4 (b + 1) _ _ ?_ ?_ ⟨rfl, rfl, rfl, rfl, trivial⟩
         ·
          refine ⟨rfl, ?_⟩
          refine ⟨by omega, fun b' hx => ?_⟩
          by_cases hltq : b' < b
          · exact ha4 b' hltq
          · obtain rfl : b' = b := by omega
            first | exact fun _ e he => ha5 e (by omega) | exact fun hn => absurd hn h69
         ·
          omega
        ·
         simp only [sps] at h69
         have u1 : f.sh.tgt.getD a 0 = f.sh.src.getD b 0 := h69
         have u2 := (Cat.Cell.pos u1).1 (hC.cell a (by omega) b (by omega))
         have u3 := i21.2 ((f.sh.comp.getD a []).getD b 0).toNat (by omega)
         have u4 := hS.ends (a := ((f.sh.comp.getD a []).getD b 0).toNat) (by omega)
         rw [u2.2.2.1] at u4
         have u5 := t2.2.2.2.2
         rw [← u1] at u5
         refine .skip ?_
         refine hK23 _ _ ?_
         refine .seq (fun K25 hK25 => ?_)
         refine .region ?_
         refine .m rfl rfl rfl (.assign rfl) ?_
         refine .nil ?_
         refine hK25 _ _ ?_
         refine .block ?_
         refine .loopR (σ := Nat) [(1, some _), (6, some _), (9, some _), (10, some _)] (fun e => [(11, some (.int .i64 (e : Int)))]) (fun e H' => H1003 = H' ∧ (e : Int) ≤ (f.ac.getD a []).length ∧ ∀ e', e' < e → (f.ac.getD ((f.sh.comp.getD a []).getD b 0).toNat []).getD e' 0 = (f.ac.getD b []).getD ((f.ac.getD a []).getD e' 0).toNat 0) (fun e => ((f.ac.getD a []).length - e : Int).toNat) (0) ⟨rfl, rfl, rfl, rfl, trivial⟩ ⟨rfl, trivial⟩ ?_ ?_
         ·
          refine ⟨rfl, ?_⟩
          exact ⟨by omega, fun _ _ => by omega⟩
         ·
          rintro e _ ⟨rfl, hI⟩ KL5 hKL5
          refine .forget (fr' := [(11, some (.int .i64 (e : Int))), (1, some _), (6, some _), (9, some _), (10, some _)]) ⟨rfl, rfl, rfl, rfl, rfl, trivial⟩ ?_
          obtain ⟨hk5, ha5⟩ := hI
          refine .seq (fun K26 hK26 => ?_)
          refine .seq (fun K27 hK27 => ?_)
          refine .regionD mixed_orders_B (.q 0 (.q 1 (.q 2 (.q 3 (.q 4 (.q 5 (.q 6 (.q 7 (.q 8 (.q 9 (.q 10 (.done)))))))))))) (by kernel_rfl) ?_
          refine .m rfl rfl rfl rfl (.refl _) (.move rfl) ?_
          refine .m rfl rfl rfl rfl (.refl _) (.fieldAddr fo_39_1_P rfl) ?_
          refine .m rfl rfl rfl rfl (.refl _) (.load on_22_B rfl (by assumption)) ?_
          refine .m rfl rfl rfl rfl (.refl _) (.fieldAddr fo_37_1_B rfl) ?_
          refine .m rfl rfl rfl rfl (.refl _) (.load on_22_B rfl (by assumption)) ?_
          refine .m rfl rfl rfl rfl (.refl _) (.move rfl) ?_
          refine .m rfl rfl rfl rfl (.refl _) (.idxN sl_22_A (by assumption) rfl rfl (by omega)) ?_
          refine .m rfl rfl rfl rfl (.refl _) (.loadI on_2_A (by assumption) rfl (by omega)) ?_
          refine .m rfl rfl rfl rfl (.refl _) (.idx1 sl_22_A (by assumption) rfl rfl (by omega) (by omega)) ?_
          refine .m rfl rfl rfl rfl (.refl _) (.loadI on_2_A (by assumption) rfl (by omega)) ?_
          refine .m rfl rfl rfl rfl (.refl _) (.cmp rfl rfl rfl) ?_
          refine .done ?_
          refine hK27 _ _ ?_
          refine .cond rfl (fun h80 => ?_) (fun h80 => ?_)
          ·
           simp only [sps] at h80
           have v1 := hS.act (a := a) (by omega) (e := e) (by omega)
           refine .skip ?_
           refine hK26 _ _ ?_
           refine .seq (fun K28 hK28 => ?_)
           refine .block ?_
           refine .seq (fun K29 hK29 => ?_)
           refine .regionD mixed_orders_B (.q 0 (.q 1 (.q 2 (.q 3 (.q 4 (.q 5 (.q 6 (.q 7 (.q 8 (.q 9 (.q 10 (.q 11 (.q 12 (.q 13 (.q 14 (.q 15 (.q 16 (.q 17 (.q 18 (.q 19 (.q 20 (.q 21 (.q 22 (.q 23 (.q 24 (.q 25 (.q 26 (.q 27 (.q 28 (.q 29 (.q 30 (.done)))))))))))))))))))))))))))))))) (by kernel_rfl) ?_
           refine .m rfl rfl rfl rfl (.refl _) (.fieldAddr fo_39_2_P rfl) ?_
           refine .m rfl rfl rfl rfl (.refl _) (.load on_23_B rfl (by assumption)) ?_
           refine .m rfl rfl rfl rfl (.refl _) (.fieldAddr fo_37_4_B rfl) ?_
           refine .m rfl rfl rfl rfl (.refl _) (.load on_23_B rfl (by assumption)) ?_
           refine .m rfl rfl rfl rfl (.refl _) (.move rfl) ?_
           refine .m rfl rfl rfl rfl (.refl _) (.idxN sl_23_B (Intss.sl (by assumption)) rfl rfl (by omega)) ?_
           refine .m rfl rfl rfl rfl (.refl _) (.loadR on_22_B (by assumption) rfl (by omega)) ?_
           refine .m rfl rfl rfl rfl (.refl _) (.move rfl) ?_
           refine .m rfl rfl rfl rfl (.refl _) (.idxN sl_22_A (by assumption) rfl rfl (by omega)) ?_
           refine .m rfl rfl rfl rfl (.refl _) (.loadI on_2_A (by assumption) rfl (by omega)) ?_
           refine .m rfl rfl rfl rfl (.refl _) (.idx1 sl_23_B (Intss.sl (by assumption)) rfl rfl (by omega) (by omega)) ?_
           refine .m rfl rfl rfl rfl (.refl _) (.loadR on_22_B (by assumption) rfl (by omega)) ?_
           refine .m rfl rfl rfl rfl (.refl _) (.move rfl) ?_
           refine .m rfl rfl rfl rfl (.refl _) (.idxN sl_22_A (by assumption) rfl rfl (by omega)) ?_
           refine .m rfl rfl rfl rfl (.refl _) (.loadI on_2_A (by assumption) rfl (by omega)) ?_
           refine .m rfl rfl rfl rfl (.refl _) (.fieldAddr fo_39_2_P rfl) ?_
           refine .m rfl rfl rfl rfl (.refl _) (.load on_23_B rfl (by assumption)) ?_
           refine .m rfl rfl rfl rfl (.refl _) (.move rfl) ?_
           refine .m rfl rfl rfl rfl (.refl _) (.idxN sl_23_B (Intss.sl (by assumption)) rfl rfl (by omega)) ?_
           refine .m rfl rfl rfl rfl (.refl _) (.loadR on_22_B (by assumption) rfl (by omega)) ?_
           refine .m rfl rfl rfl rfl (.refl _) (.fieldAddr fo_39_2_P rfl) ?_
           refine .m rfl rfl rfl rfl (.refl _) (.load on_23_B rfl (by assumption)) ?_
           refine .m rfl rfl rfl rfl (.refl _) (.move rfl) ?_
           refine .m rfl rfl rfl rfl (.refl _) (.idxN sl_23_B (Intss.sl (by assumption)) rfl rfl (by omega)) ?_
           refine .m rfl rfl rfl rfl (.refl _) (.loadR on_22_B (by assumption) rfl (by omega)) ?_
           refine .m rfl rfl rfl rfl (.refl _) (.move rfl) ?_
           refine .m rfl rfl rfl rfl (.refl _) (.idxN sl_22_A (by assumption) rfl rfl (by omega)) ?_
           refine .m rfl rfl rfl rfl (.refl _) (.loadI on_2_A (by assumption) rfl (by omega)) ?_
           refine .m rfl rfl rfl rfl (.refl _) (.idx1 sl_22_A (by assumption) rfl rfl (by omega) (by omega)) ?_
           refine .m rfl rfl rfl rfl (.refl _) (.loadI on_2_A (by assumption) rfl (by omega)) ?_
           refine .m rfl rfl rfl rfl (.refl _) (.cmp rfl rfl rfl) ?_
           refine .done ?_
           refine hK29 _ _ ?_
           refine .cond rfl (fun h113 => ?_) (fun h113 => ?_)
           ·
            try simp only [sps] at h113
            refine .seq (fun K30 hK30 => ?_)
            refine .region ?_
            refine .m rfl rfl rfl (.move rfl) ?_
            refine .m rfl rfl rfl (.move rfl) ?_
            refine .m rfl rfl rfl (.move rfl) ?_
            refine .m rfl rfl rfl (.assign rfl) ?_
            refine .m rfl rfl rfl (.assign rfl) ?_
            refine .m rfl rfl rfl (.assign rfl) ?_
            refine .m rfl rfl rfl (.assign rfl) ?_
            refine .nil ?_
            refine hK30 _ _ ?_
            refine .ret ?_
            -- leaf e2
            refine hret _ _ ?_
            refine ⟨_, _, _, _, rfl, rfl, rfl, rfl, ?_⟩
            exact ⟨⟨⟨_, _, _, _, rfl, ⟨fun hh => absurd hh (by decide), fun hL => absurd (hL.th a (by omega) b (by omega) u1 e (by omega)) h113⟩⟩, rfl⟩, rfl, hle⟩
           ·
            try simp only [sps] at h113
            refine .skip ?_
            refine hK28 _ _ ?_
            refine .region ?_
            refine .m rfl rfl rfl (.move rfl) ?_
            refine .m rfl rfl rfl (.add rfl rfl rfl (by omega) (by omega)) ?_
            refine .m rfl rfl rfl (.assign rfl) ?_
            refine .nil ?_
            refine hKL5 (e + 1) _ _ ?_ ?_ ⟨rfl, rfl, rfl, rfl, rfl, trivial⟩
            ·
             refine ⟨rfl, ?_⟩
             refine ⟨by omega, fun e' hx => ?_⟩
             by_cases hltq : e' < e
             · exact ha5 e' hltq
             · obtain rfl : e' = e := by omega
               exact h113
            ·
             omega
          ·
           try simp only [sps] at h80
           refine .exit ?_
           refine hK22 _ _ ?_
           refine .region ?_
           refine .m rfl rfl rfl (.move rfl) ?_
           refine .m rfl rfl rfl (.add rfl rfl rfl (by omega) (by omega)) ?_
           refine .m rfl rfl rfl (.assign rfl) ?_
           refine .nil ?_
           refine hKL4 (b + 1) _ _ ?_ ?_ ⟨rfl, rfl, rfl, rfl, trivial⟩
           ·
            refine ⟨rfl, ?_⟩
            refine ⟨by omega, fun b' hx => ?_⟩
            by_cases hltq : b' < b
            · exact ha4 b' hltq
            · obtain rfl : b' = b := by omega
              first | exact fun _ e he => ha5 e (by omega) | exact fun hn => absurd hn h69
           ·
            omega
       ·
        try simp only [sps] at h56
        refine .exit ?_
        refine hK18 _ _ ?_
        refine .region ?_
        refine .m rfl rfl rfl (.move rfl) ?_
        refine .m rfl rfl rfl (.add rfl rfl rfl (by omega) (by omega)) ?_
        refine .m rfl rfl rfl (.assign rfl) ?_
        refine .nil ?_
        refine hKL3 (a + 1) _ _ ?_ ?_ ⟨rfl, rfl, rfl, trivial⟩
        ·
         refine ⟨rfl, ?_⟩
         refine ⟨by omega, fun a' hx => ?_⟩
         by_cases hltq : a' < a
         · exact ha3 a' hltq
         · obtain rfl : a' = a := by omega
           exact fun b hb => ha4 b (by omega)
        ·
         omega
     ·
      try simp only [sps] at h49
      refine .exit ?_
      refine hK14 _ _ ?_
      refine .seq (fun K31 hK31 => ?_)
      refine .region ?_
      refine .m rfl rfl rfl (.assign rfl) ?_
      refine .m rfl rfl rfl (.assign rfl) ?_
      refine .m rfl rfl rfl (.assign rfl) ?_
      refine .m rfl rfl rfl (.assign rfl) ?_
      refine .nil ?_
      refine hK31 _ _ ?_
      refine .ret ?_
      -- leaf e3
      refine hret _ _ ?_
      refine ⟨_, _, _, _, rfl, rfl, rfl, rfl, ?_⟩
      exact ⟨⟨⟨_, _, _, _, rfl, ⟨fun _ => ⟨fun x hx => ha1 x (by omega), fun a ha => ha3 a (by omega)⟩, fun _ => rfl⟩⟩, rfl⟩, rfl, hle⟩
theorem l19Is_c {f : SFun} {p : SFunP} {H : GHeap} (hin : f.In H p := by assumption) (hs : f.Small := by assumption) : GCalls Try.prog 78 [.agg (f.cells p).toArray] H (Ret (.bool (B f.Is)) H) := by
  refine GCalls.ret rfl ?_
  refine GCalls.body (N := 19) (rs := [.tmp 2]) Try.func78 rfl rfl rfl rfl (fun Qx hret hend => ?_)
  refine .forget (fr' := [(0, some _)]) ⟨rfl, trivial⟩ ?_
  have hle := GHeap.Le.refl H
  have base_hin := hin
  refine .seq (fun K1 hK1 => ?_)
  refine .region ?_
  refine .r rfl rfl rfl (.boxR rfl sz_39_VSFun rfl) ?_
  rintro _ H1 ⟨g1, rfl, le1, ge1, at1⟩
  have nx_H1 := le1.1
  replace hle := hle.trans le1
  have lt_at1 := GHeap.lt_of_get at1
  replace hin := base_hin.mono hle
  have hb1 : SFun.At _ g1 0 f p := ⟨Mem.of_get at1, hin⟩
  obtain ⟨fsh1, c51, c61, i11, i21⟩ := hb1.get
  have hm1 : MemN _ _ _ _ _ := ⟨rfl, hb1.1⟩
  have hi1 := hb1.2
  have hmsh1 : MemN _ _ _ _ _ := ⟨rfl, fsh1.1⟩
  have hish1 := fsh1.2
  refine .m rfl rfl rfl (.assign rfl) ?_
  refine .nil ?_
  refine hK1 _ _ ?_
  refine .seq (fun K2 hK2 => ?_)
  refine .seq (fun K3 hK3 => ?_)
  refine .region ?_
  refine .m rfl rfl rfl (.loadM ag_39_VSFun rfl ⟨rfl, Mem.of_get at1⟩) ?_
  refine .callQ rfl rfl rfl rfl @Try.call85 rfl (l19Shape_c) ?_
  refine .m rfl rfl rfl (.not rfl) ?_
  refine .nil ?_
  refine hK3 _ _ ?_
  refine .cond rfl (fun h9 => ?_) (fun h9 => ?_)
  ·
   try simp only [sps] at h9
   refine .seq (fun K4 hK4 => ?_)
   refine .region ?_
   refine .m rfl rfl rfl (.assign rfl) ?_
   refine .nil ?_
   refine hK4 _ _ ?_
   refine .ret ?_
   -- leaf e1
   refine hret _ _ ?_
   refine ⟨_, rfl, ?_⟩
   exact ⟨congrArg _ (B_false fun hh => h9 hh.1), hle⟩
  ·
   try simp only [sps] at h9
   refine .skip ?_
   refine hK2 _ _ ?_
   refine .seq (fun K5 hK5 => ?_)
   refine .region ?_
   refine .m rfl rfl rfl (.loadM ag_39_VSFun rfl ⟨rfl, Mem.of_get at1⟩) ?_
   refine .call rfl rfl rfl rfl @Try.call86 rfl (l19Fault_c) ?_
   rintro _ _ ⟨⟨⟨k12, x12, y12, z12, rfl, hk12⟩, _⟩, heq⟩
   obtain rfl := heq.symm
   refine .m rfl rfl rfl (.move rfl) ?_
   refine .m rfl rfl rfl (.extract rfl rfl) ?_
   refine .m rfl rfl rfl (.extract rfl rfl) ?_
   refine .m rfl rfl rfl (.extract rfl rfl) ?_
   refine .m rfl rfl rfl (.extract rfl rfl) ?_
   refine .m rfl rfl rfl (.assign rfl) ?_
   refine .m rfl rfl rfl (.assign rfl) ?_
   refine .m rfl rfl rfl (.assign rfl) ?_
   refine .m rfl rfl rfl (.assign rfl) ?_
   refine .nil ?_
   refine hK5 _ _ ?_
   refine .seq (fun K6 hK6 => ?_)
   refine .region ?_
   refine .m rfl rfl rfl (.move rfl) ?_
   refine .m rfl rfl rfl (.cmp rfl rfl rfl) ?_
   refine .m rfl rfl rfl (.assign rfl) ?_
   refine .nil ?_
   refine hK6 _ _ ?_
   refine .ret ?_
   -- leaf e2
   refine hret _ _ ?_
   refine ⟨_, rfl, ?_⟩
   exact ⟨congrArg _ (by rw [Bool.eq_iff_iff, B_iff]; simp only [sps]; rw [hk12]; exact ⟨fun hh => hh.2, fun hh => ⟨h9, hh⟩⟩), hle⟩
theorem l19Between_c {f g : SFun} {p q : SFunP} {H : GHeap} (hin : f.In H p := by assumption) (hin' : g.In H q := by assumption) (hs : f.Small := by assumption) (hs' : g.Small := by assumption) :
    GCalls Try.prog 55 [.agg (f.cells p).toArray, .agg (g.cells q).toArray] H (Ret (.bool (B (f.Is ∧ g.Is ∧ f.sh = g.sh))) H) := by
  refine GCalls.ret rfl ?_
  have hs1 := hs
  have hs1' := hs'
  obtain ⟨w1, _⟩ := hs1
  obtain ⟨w2, _⟩ := hs1'
  refine GCalls.body (N := 18) (rs := [.tmp 4]) Try.func55 rfl rfl rfl rfl (fun Qx hret hend => ?_)
  refine .forget (fr' := [(0, some _), (1, some _)]) ⟨rfl, rfl, trivial⟩ ?_
  have hle := GHeap.Le.refl H
  have base_hin := hin
  have base_hin' := hin'
  refine .seq (fun K1 hK1 => ?_)
  refine .region ?_
  refine .r rfl rfl rfl (.boxR rfl sz_39_VSFun rfl) ?_
  rintro _ H2 ⟨g2, rfl, le2, ge2, at2⟩
  have nx_H2 := le2.1
  replace hle := hle.trans le2
  have lt_at2 := GHeap.lt_of_get at2
  replace hin := base_hin.mono hle
  replace hin' := base_hin'.mono hle
  have hb2 : SFun.At _ g2 0 f p := ⟨Mem.of_get at2, hin⟩
  obtain ⟨fsh2, c52, c62, i12, i22⟩ := hb2.get
  have hm2 : MemN _ _ _ _ _ := ⟨rfl, hb2.1⟩
  have hi2 := hb2.2
  have hmsh2 : MemN _ _ _ _ _ := ⟨rfl, fsh2.1⟩
  have hish2 := fsh2.2
  refine .r rfl rfl rfl (.boxR rfl sz_39_VSFun rfl) ?_
  rintro _ H3 ⟨g3, rfl, le3, ge3, at3⟩
  have nx_H3 := le3.1
  replace hle := hle.trans le3
  replace at2 := le3.2 _ _ at2
  have lt_at3 := GHeap.lt_of_get at3
  replace hin := base_hin.mono hle
  replace hin' := base_hin'.mono hle
  clear hb2 fsh2 c52 c62 i12 i22 hm2 hi2 hmsh2 hish2
  have hb2 : SFun.At _ g2 0 f p := ⟨Mem.of_get at2, hin⟩
  obtain ⟨fsh2, c52, c62, i12, i22⟩ := hb2.get
  have hm2 : MemN _ _ _ _ _ := ⟨rfl, hb2.1⟩
  have hi2 := hb2.2
  have hmsh2 : MemN _ _ _ _ _ := ⟨rfl, fsh2.1⟩
  have hish2 := fsh2.2
  have hb3 : SFun.At _ g3 0 g q := ⟨Mem.of_get at3, hin'⟩
  obtain ⟨fsh3, c53, c63, i13, i23⟩ := hb3.get
  have hm3 : MemN _ _ _ _ _ := ⟨rfl, hb3.1⟩
  have hi3 := hb3.2
  have hmsh3 : MemN _ _ _ _ _ := ⟨rfl, fsh3.1⟩
  have hish3 := fsh3.2
  refine .m rfl rfl rfl (.assign rfl) ?_
  refine .nil ?_
  refine hK1 _ _ ?_
  refine .seq (fun K2 hK2 => ?_)
  refine .region ?_
  refine .m rfl rfl rfl (.loadM ag_39_VSFun rfl ⟨rfl, Mem.of_get at2⟩) ?_
  refine .callQ rfl rfl rfl rfl @Try.call78 rfl (l19Is_c) ?_
  refine .m rfl rfl rfl (.move rfl) ?_
  refine .split (fun h7 => ?_) (fun h7 => ?_)
  ·
   try simp only [sps] at h7
   refine .mg rfl rfl rfl rfl rfl (.loadM ag_39_VSFun rfl ⟨rfl, Mem.of_get at3⟩) ?_
   refine .callQg rfl rfl rfl rfl rfl rfl @Try.call78 rfl (l19Is_c) ?_
   refine .m rfl rfl rfl (.pickT rfl rfl) ?_
   refine .m rfl rfl rfl (.move rfl) ?_
   refine .split (fun h11 => ?_) (fun h11 => ?_)
   ·
    try simp only [sps] at h11
    refine .mg rfl rfl rfl rfl rfl (.fieldAddr fo_39_0_P rfl) ?_
    refine .mg rfl rfl rfl rfl rfl (.loadM ag_37_D rfl (by assumption)) ?_
    refine .mg rfl rfl rfl rfl rfl (.fieldAddr fo_39_0_P rfl) ?_
    refine .mg rfl rfl rfl rfl rfl (.loadM ag_37_D rfl (by assumption)) ?_
    refine .callQg rfl rfl rfl rfl rfl rfl @Try.call79 rfl (l02Same_c) ?_
    refine .m rfl rfl rfl (.pickT rfl rfl) ?_
    refine .m rfl rfl rfl (.assign rfl) ?_
    refine .nil ?_
    refine hK2 _ _ ?_
    refine .ret ?_
    -- leaf e1
    refine hret _ _ ?_
    refine ⟨_, rfl, ?_⟩
    first
    | exact ⟨congrArg _ (B_congr ⟨fun hh => hh.2.2, fun hf => ⟨by assumption, by assumption, hf⟩⟩), hle⟩
    | exact ⟨congrArg _ (B_false fun hh => absurd hh.1 (by assumption)), hle⟩
    | exact ⟨congrArg _ (B_false fun hh => absurd hh.2.1 (by assumption)), hle⟩
   ·
    try simp only [sps] at h11
    refine .sg rfl rfl rfl rfl rfl ?_
    refine .sg rfl rfl rfl rfl rfl ?_
    refine .sg rfl rfl rfl rfl rfl ?_
    refine .sg rfl rfl rfl rfl rfl ?_
    refine .sg rfl rfl rfl rfl rfl ?_
    refine .m rfl rfl rfl (.pickF rfl rfl) ?_
    refine .m rfl rfl rfl (.assign rfl) ?_
    refine .nil ?_
    refine hK2 _ _ ?_
    refine .ret ?_
    -- leaf e2
    refine hret _ _ ?_
    refine ⟨_, rfl, ?_⟩
    first
    | exact ⟨congrArg _ (B_congr ⟨fun hh => hh.2.2, fun hf => ⟨by assumption, by assumption, hf⟩⟩), hle⟩
    | exact ⟨congrArg _ (B_false fun hh => absurd hh.1 (by assumption)), hle⟩
    | exact ⟨congrArg _ (B_false fun hh => absurd hh.2.1 (by assumption)), hle⟩
  ·
   try simp only [sps] at h7
   refine .sg rfl rfl rfl rfl rfl ?_
   refine .sg rfl rfl rfl rfl rfl ?_
   refine .m rfl rfl rfl (.pickF rfl rfl) ?_
   refine .m rfl rfl rfl (.move rfl) ?_
   refine .sg rfl rfl rfl rfl rfl ?_
   refine .sg rfl rfl rfl rfl rfl ?_
   refine .sg rfl rfl rfl rfl rfl ?_
   refine .sg rfl rfl rfl rfl rfl ?_
   refine .sg rfl rfl rfl rfl rfl ?_
   refine .m rfl rfl rfl (.pickF rfl rfl) ?_
   refine .m rfl rfl rfl (.assign rfl) ?_
   refine .nil ?_
   refine hK2 _ _ ?_
   refine .ret ?_
   -- leaf e3
   refine hret _ _ ?_
   refine ⟨_, rfl, ?_⟩
   first
   | exact ⟨congrArg _ (B_congr ⟨fun hh => hh.2.2, fun hf => ⟨by assumption, by assumption, hf⟩⟩), hle⟩
   | exact ⟨congrArg _ (B_false fun hh => absurd hh.1 (by assumption)), hle⟩
   | exact ⟨congrArg _ (B_false fun hh => absurd hh.2.1 (by assumption)), hle⟩
theorem l19Parts_c {m : SMap} {p q : SFunP} {a : Option Addr} {r : Nat → Option Addr} {H : GHeap} (hin : m.s.In H p := by assumption) (hin' : m.t.In H q := by assumption) (hp : Intss H a m.pa r := by assumption) (hs : m.Small := by assumption) (hS : m.s.Shape := by assumption) (hT : m.t.Shape := by assumption) (hsh : m.s.sh = m.t.sh := by assumption) :
    GCalls Try.prog 56 [.agg (m.s.cells p).toArray, .agg (m.t.cells q).toArray, .slice a m.pa.length m.pa.length] H (Ret (.bool (B m.Fits)) H) := by
  refine GCalls.ret rfl ?_
  refine GCalls.body (N := 44) (rs := [.tmp 6]) Try.func56 rfl rfl rfl rfl (fun Qx hret hend => ?_)
  refine .forget (fr' := [(0, some _), (1, some _), (2, some _)]) ⟨rfl, rfl, rfl, trivial⟩ ?_
  have hle := GHeap.Le.refl H
  have base_hin := hin
  have base_hin' := hin'
  have base_hp := hp
  obtain ⟨_, _, s3, s4⟩ := hs
  have q1 := hS.zl
  have q2 := hT.zl
  have q3 := hS.c.1.obj
  rw [← hsh] at q2
  refine .seq (fun K1 hK1 => ?_)
  refine .region ?_
  refine .r rfl rfl rfl (.boxR rfl sz_39_VSFun rfl) ?_
  rintro _ H3 ⟨g3, rfl, le3, ge3, at3⟩
  have nx_H3 := le3.1
  replace hle := hle.trans le3
  have lt_at3 := GHeap.lt_of_get at3
  replace hin := base_hin.mono hle
  replace hin' := base_hin'.mono hle
  replace hp := base_hp.mono hle
  have hb3 : SFun.At _ g3 0 m.s p := ⟨Mem.of_get at3, hin⟩
  obtain ⟨fsh3, c53, c63, i13, i23⟩ := hb3.get
  have hm3 : MemN _ _ _ _ _ := ⟨rfl, hb3.1⟩
  have hi3 := hb3.2
  have hmsh3 : MemN _ _ _ _ _ := ⟨rfl, fsh3.1⟩
  have hish3 := fsh3.2
  refine .r rfl rfl rfl (.boxR rfl sz_39_VSFun rfl) ?_
  rintro _ H4 ⟨g4, rfl, le4, ge4, at4⟩
  have nx_H4 := le4.1
  replace hle := hle.trans le4
  replace at3 := le4.2 _ _ at3
  have lt_at4 := GHeap.lt_of_get at4
  replace hin := base_hin.mono hle
  replace hin' := base_hin'.mono hle
  replace hp := base_hp.mono hle
  clear hb3 fsh3 c53 c63 i13 i23 hm3 hi3 hmsh3 hish3
  have hb3 : SFun.At _ g3 0 m.s p := ⟨Mem.of_get at3, hin⟩
  obtain ⟨fsh3, c53, c63, i13, i23⟩ := hb3.get
  have hm3 : MemN _ _ _ _ _ := ⟨rfl, hb3.1⟩
  have hi3 := hb3.2
  have hmsh3 : MemN _ _ _ _ _ := ⟨rfl, fsh3.1⟩
  have hish3 := fsh3.2
  have hb4 : SFun.At _ g4 0 m.t q := ⟨Mem.of_get at4, hin'⟩
  obtain ⟨fsh4, c54, c64, i14, i24⟩ := hb4.get
  have hm4 : MemN _ _ _ _ _ := ⟨rfl, hb4.1⟩
  have hi4 := hb4.2
  have hmsh4 : MemN _ _ _ _ _ := ⟨rfl, fsh4.1⟩
  have hish4 := fsh4.2
  refine .m rfl rfl rfl (.assign rfl) ?_
  refine .nil ?_
  refine hK1 _ _ ?_
  refine .seq (fun K2 hK2 => ?_)
  refine .seq (fun K3 hK3 => ?_)
  refine .region ?_
  refine .m rfl rfl rfl (.move rfl) ?_
  refine .m rfl rfl rfl (.len sl_23_B rfl) ?_
  refine .m rfl rfl rfl (.fieldAddr fo_39_1_P rfl) ?_
  refine .m rfl rfl rfl (.load on_22_B rfl (by assumption)) ?_
  refine .m rfl rfl rfl (.len sl_22_A rfl) ?_
  refine .m rfl rfl rfl (.cmp rfl rfl rfl) ?_
  refine .nil ?_
  refine hK3 _ _ ?_
  refine .cond rfl (fun h13 => ?_) (fun h13 => ?_)
  ·
   try simp only [sps] at h13
   refine .seq (fun K4 hK4 => ?_)
   refine .region ?_
   refine .m rfl rfl rfl (.assign rfl) ?_
   refine .nil ?_
   refine hK4 _ _ ?_
   refine .ret ?_
   -- leaf e1
   refine hret _ _ ?_
   refine ⟨_, rfl, ?_⟩
   exact ⟨congrArg _ (B_false fun hh => by have := hh.pl; omega), hle⟩
  ·
   try simp only [sps] at h13
   refine .skip ?_
   refine hK2 _ _ ?_
   refine .seq (fun K5 hK5 => ?_)
   refine .seq (fun K6 hK6 => ?_)
   refine .region ?_
   refine .m rfl rfl rfl (.assign rfl) ?_
   refine .nil ?_
   refine hK6 _ _ ?_
   refine .block ?_
   refine .loopR (σ := Nat) [(2, some _), (3, some _), (4, some _)] (fun k => [(7, some (.int .i64 (k : Int)))]) (fun k H' => H4 = H' ∧ (k : Int) ≤ m.pa.length ∧ ∀ x, x < k → m.PaOk x) (fun k => (m.pa.length - k : Int).toNat) (0) ⟨rfl, rfl, rfl, trivial⟩ ⟨rfl, trivial⟩ ?_ ?_
   ·
    refine ⟨rfl, ?_⟩
    exact ⟨by omega, fun _ _ => by omega⟩
   ·
    rintro k _ ⟨rfl, hI⟩ KL1 hKL1
    refine .forget (fr' := [(7, some (.int .i64 (k : Int))), (2, some _), (3, some _), (4, some _)]) ⟨rfl, rfl, rfl, rfl, trivial⟩ ?_
    obtain ⟨hk1, ha1⟩ := hI
    refine .seq (fun K7 hK7 => ?_)
    refine .seq (fun K8 hK8 => ?_)
    refine .region ?_
    refine .m rfl rfl rfl (.move rfl) ?_
    refine .m rfl rfl rfl (.move rfl) ?_
    refine .m rfl rfl rfl (.len sl_23_B rfl) ?_
    refine .m rfl rfl rfl (.cmp rfl rfl rfl) ?_
    refine .nil ?_
    refine hK8 _ _ ?_
    refine .cond rfl (fun h17 => ?_) (fun h17 => ?_)
    ·
     simp only [sps] at h17
     have r1 := hp.2 k (by omega)
     have r2 := hT.sz k (by omega)
     have r3 := s4 k
     refine .skip ?_
     refine hK7 _ _ ?_
     refine .seq (fun K9 hK9 => ?_)
     refine .block ?_
     refine .seq (fun K10 hK10 => ?_)
     refine .regionD mixed_orders_B (.q 0 (.q 1 (.q 2 (.q 3 (.q 4 (.q 5 (.q 6 (.q 7 (.q 8 (.q 9 (.q 10 (.q 11 (.q 12 (.q 13 (.q 14 (.q 15 (.q 16 (.q 17 (.q 18 (.q 19 (.q 20 (.c 21 0 (.q 22 (.q 23 (.done))))))))))))))))))))))))) (by kernel_rfl) ?_
     refine .m rfl rfl rfl rfl (.refl _) (.move rfl) ?_
     refine .m rfl rfl rfl rfl (.refl _) (.move rfl) ?_
     refine .m rfl rfl rfl rfl (.refl _) (.idxN sl_23_B (Intss.sl (by assumption)) rfl rfl (by omega)) ?_
     refine .m rfl rfl rfl rfl (.refl _) (.loadR on_22_B (by assumption) rfl (by omega)) ?_
     refine .m rfl rfl rfl rfl (.refl _) (.len sl_22_A rfl) ?_
     refine .m rfl rfl rfl rfl (.refl _) (.fieldAddr fo_39_1_P rfl) ?_
     refine .m rfl rfl rfl rfl (.refl _) (.load on_22_B rfl (by assumption)) ?_
     refine .m rfl rfl rfl rfl (.refl _) (.move rfl) ?_
     refine .m rfl rfl rfl rfl (.refl _) (.idxN sl_22_A (by assumption) rfl rfl (by omega)) ?_
     refine .m rfl rfl rfl rfl (.refl _) (.loadI on_2_A (by assumption) rfl (by omega)) ?_
     refine .m rfl rfl rfl rfl (.refl _) (.cmp rfl rfl rfl) ?_
     refine .m rfl rfl rfl rfl (.refl _) (.move rfl) ?_
     refine .split (fun h31 => ?_) (fun h31 => ?_)
     ·
      try simp only [sps] at h31
      refine .sg rfl rfl rfl rfl rfl rfl ?_
      refine .sg rfl rfl rfl rfl rfl rfl ?_
      refine .sg rfl rfl rfl rfl rfl rfl ?_
      refine .sg rfl rfl rfl rfl rfl rfl ?_
      refine .sg rfl rfl rfl rfl rfl rfl ?_
      refine .sg rfl rfl rfl rfl rfl rfl ?_
      refine .sg rfl rfl rfl rfl rfl rfl ?_
      refine .sg rfl rfl rfl rfl rfl rfl ?_
      refine .sg rfl rfl rfl rfl rfl rfl ?_
      refine .sgc rfl rfl rfl rfl rfl rfl ?_
      refine .sg rfl rfl rfl rfl rfl rfl ?_
      refine .m rfl rfl rfl rfl (.refl _) (.pickT rfl rfl) ?_
      refine .done ?_
      refine hK10 _ _ ?_
      refine .condT rfl ?_
      refine .seq (fun K11 hK11 => ?_)
      refine .region ?_
      refine .m rfl rfl rfl (.assign rfl) ?_
      refine .nil ?_
      refine hK11 _ _ ?_
      refine .ret ?_
      -- leaf e2
      refine hret _ _ ?_
      refine ⟨_, rfl, ?_⟩
      exact ⟨congrArg _ (B_false fun hh => h31 (hh.pa k (by omega)).1), hle⟩
     ·
      try simp only [sps] at h31
      refine .mg rfl rfl rfl rfl rfl rfl (.refl _) (.fieldAddr fo_39_1_P rfl) ?_
      refine .mg rfl rfl rfl rfl rfl rfl (.refl _) (.load on_22_B rfl (by assumption)) ?_
      refine .mg rfl rfl rfl rfl rfl rfl (.refl _) (.move rfl) ?_
      refine .mg rfl rfl rfl rfl rfl rfl (.refl _) (.idxN sl_22_A (by assumption) rfl rfl (by omega)) ?_
      refine .mg rfl rfl rfl rfl rfl rfl (.refl _) (.loadI on_2_A (by assumption) rfl (by omega)) ?_
      refine .mg rfl rfl rfl rfl rfl rfl (.refl _) (.move rfl) ?_
      refine .mg rfl rfl rfl rfl rfl rfl (.refl _) (.move rfl) ?_
      refine .mg rfl rfl rfl rfl rfl rfl (.refl _) (.idxN sl_23_B (Intss.sl (by assumption)) rfl rfl (by omega)) ?_
      refine .mg rfl rfl rfl rfl rfl rfl (.refl _) (.loadR on_22_B (by assumption) rfl (by omega)) ?_
      refine .callQ0g rfl rfl rfl rfl rfl rfl rfl @Try.call59 rfl (l01Map_c) ?_
      refine .mg rfl rfl rfl rfl rfl rfl (.refl _) (.not rfl) ?_
      refine .m rfl rfl rfl rfl (.refl _) (.pickF rfl rfl) ?_
      refine .done ?_
      refine hK10 _ _ ?_
      refine .cond rfl (fun h43 => ?_) (fun h43 => ?_)
      ·
       simp only [B_iff, B_not, Bool.not_eq_true', Bool.not_eq_false'] at h43
       refine .seq (fun K12 hK12 => ?_)
       refine .region ?_
       refine .m rfl rfl rfl (.assign rfl) ?_
       refine .nil ?_
       refine hK12 _ _ ?_
       refine .ret ?_
       -- leaf e3
       refine hret _ _ ?_
       refine ⟨_, rfl, ?_⟩
       exact ⟨congrArg _ (B_false fun hh => by rw [(hh.pa k (by omega)).2] at h43; cases h43), hle⟩
      ·
       simp only [B_iff, B_not, Bool.not_eq_true', Bool.not_eq_false'] at h43
       refine .skip ?_
       refine hK9 _ _ ?_
       refine .region ?_
       refine .m rfl rfl rfl (.move rfl) ?_
       refine .m rfl rfl rfl (.add rfl rfl rfl (by omega) (by omega)) ?_
       refine .m rfl rfl rfl (.assign rfl) ?_
       refine .nil ?_
       refine hKL1 (k + 1) _ _ ?_ ?_ ⟨rfl, rfl, rfl, rfl, trivial⟩
       ·
        refine ⟨rfl, ?_⟩
        refine ⟨by omega, fun x hx => ?_⟩
        by_cases hltq : x < k
        · exact ha1 x hltq
        · obtain rfl : x = k := by omega
          exact ⟨by omega, h43⟩
       ·
        omega
    ·
     try simp only [sps] at h17
     refine .exit ?_
     refine hK5 _ _ ?_
     refine .seq (fun K13 hK13 => ?_)
     refine .region ?_
     refine .m rfl rfl rfl (.assign rfl) ?_
     refine .nil ?_
     refine hK13 _ _ ?_
     refine .ret ?_
     -- leaf e4
     refine hret _ _ ?_
     refine ⟨_, rfl, ?_⟩
     exact ⟨congrArg _ (B_true ⟨by omega, fun a ha => ha1 a (by omega)⟩), hle⟩
theorem l19Unnatural_c {m : SMap} {p q : SFunP} {a : Option Addr} {r : Nat → Option Addr} {H : GHeap} (hin : m.s.In H p := by assumption) (hin' : m.t.In H q := by assumption) (hp : Intss H a m.pa r := by assumption) (hM : m.Shape := by assumption) :
    GCalls Try.prog 57 [.agg (m.s.cells p).toArray, .agg (m.t.cells q).toArray, .slice a m.pa.length m.pa.length] H (Ret (.tuple #[.int .i64 m.first.1, .int .i64 m.first.2]) H) := by
  refine GCalls.ret rfl ?_
  refine GCalls.body (N := 71) (rs := [.tmp 6, .tmp 7]) Try.func57 rfl rfl rfl rfl (fun Qx hret hend => ?_)
  refine .forget (fr' := [(0, some _), (1, some _), (2, some _)]) ⟨rfl, rfl, rfl, trivial⟩ ?_
  have hle := GHeap.Le.refl H
  have base_hin := hin
  have base_hin' := hin'
  have base_hp := hp
  have hS := hM.s.1
  have hT := hM.t.1
  have hC := hS.c.1
  have q1 := hC.tl
  have q2 := hC.n40
  have q3 := hS.al
  have q4 := hT.al
  rw [← hM.sh] at q4
  have q5 := hM.fits.pl
  refine .seq (fun K1 hK1 => ?_)
  refine .region ?_
  refine .r rfl rfl rfl (.boxR rfl sz_39_VSFun rfl) ?_
  rintro _ H3 ⟨g3, rfl, le3, ge3, at3⟩
  have nx_H3 := le3.1
  replace hle := hle.trans le3
  have lt_at3 := GHeap.lt_of_get at3
  replace hin := base_hin.mono hle
  replace hin' := base_hin'.mono hle
  replace hp := base_hp.mono hle
  have hb3 : SFun.At _ g3 0 m.s p := ⟨Mem.of_get at3, hin⟩
  obtain ⟨fsh3, c53, c63, i13, i23⟩ := hb3.get
  have hm3 : MemN _ _ _ _ _ := ⟨rfl, hb3.1⟩
  have hi3 := hb3.2
  have hmsh3 : MemN _ _ _ _ _ := ⟨rfl, fsh3.1⟩
  have hish3 := fsh3.2
  refine .r rfl rfl rfl (.boxR rfl sz_39_VSFun rfl) ?_
  rintro _ H4 ⟨g4, rfl, le4, ge4, at4⟩
  have nx_H4 := le4.1
  replace hle := hle.trans le4
  replace at3 := le4.2 _ _ at3
  have lt_at4 := GHeap.lt_of_get at4
  replace hin := base_hin.mono hle
  replace hin' := base_hin'.mono hle
  replace hp := base_hp.mono hle
  clear hb3 fsh3 c53 c63 i13 i23 hm3 hi3 hmsh3 hish3
  have hb3 : SFun.At _ g3 0 m.s p := ⟨Mem.of_get at3, hin⟩
  obtain ⟨fsh3, c53, c63, i13, i23⟩ := hb3.get
  have hm3 : MemN _ _ _ _ _ := ⟨rfl, hb3.1⟩
  have hi3 := hb3.2
  have hmsh3 : MemN _ _ _ _ _ := ⟨rfl, fsh3.1⟩
  have hish3 := fsh3.2
  have hb4 : SFun.At _ g4 0 m.t q := ⟨Mem.of_get at4, hin'⟩
  obtain ⟨fsh4, c54, c64, i14, i24⟩ := hb4.get
  have hm4 : MemN _ _ _ _ _ := ⟨rfl, hb4.1⟩
  have hi4 := hb4.2
  have hmsh4 : MemN _ _ _ _ _ := ⟨rfl, fsh4.1⟩
  have hish4 := fsh4.2
  refine .m rfl rfl rfl (.assign rfl) ?_
  refine .m rfl rfl rfl (.assign rfl) ?_
  refine .nil ?_
  refine hK1 _ _ ?_
  refine .seq (fun K2 hK2 => ?_)
  refine .seq (fun K3 hK3 => ?_)
  refine .region ?_
  refine .m rfl rfl rfl (.assign rfl) ?_
  refine .nil ?_
  refine hK3 _ _ ?_
  refine .block ?_
  obtain ⟨c0, c1, c2, c3, c4, d1, d2, d3, d4⟩ := fsh3.get
  refine .loopR (σ := Nat) [(2, some _), (3, some _), (4, some _)] (fun k => [(8, some (.int .i64 (k : Int)))]) (fun k H' => H4 = H' ∧ (k : Int) ≤ m.s.ac.length ∧ ∀ a, a < k → ∀ e, e < (m.s.ac.getD a []).length → m.bad a e = false) (fun k => (m.s.ac.length - k : Int).toNat) (0) ⟨rfl, rfl, rfl, trivial⟩ ⟨rfl, trivial⟩ ?_ ?_
  ·
   refine ⟨rfl, ?_⟩
   exact ⟨by omega, fun _ _ => by omega⟩
  ·
   rintro k _ ⟨rfl, hI⟩ KL1 hKL1
   refine .forget (fr' := [(8, some (.int .i64 (k : Int))), (2, some _), (3, some _), (4, some _)]) ⟨rfl, rfl, rfl, rfl, trivial⟩ ?_
   obtain ⟨hk1, ha1⟩ := hI
   refine .seq (fun K4 hK4 => ?_)
   refine .seq (fun K5 hK5 => ?_)
   refine .region ?_
   refine .m rfl rfl rfl (.move rfl) ?_
   refine .m rfl rfl rfl (.fieldAddr fo_39_2_P rfl) ?_
   refine .m rfl rfl rfl (.load on_23_B rfl (by assumption)) ?_
   refine .m rfl rfl rfl (.len sl_23_B rfl) ?_
   refine .m rfl rfl rfl (.cmp rfl rfl rfl) ?_
   refine .nil ?_
   refine hK5 _ _ ?_
   refine .cond rfl (fun h16 => ?_) (fun h16 => ?_)
   ·
    simp only [sps] at h16
    have r1 := hS.ends (a := k) (by omega)
    have r2 := hT.ends (a := k) (by rw [← hM.sh]; omega)
    rw [← hM.sh] at r2
    have r3 := i23.2 k (by omega)
    have r4 := i24.2 k (by omega)
    have r5 := hp.2 (m.s.sh.src.getD k 0).toNat (by omega)
    have r6 := hp.2 (m.s.sh.tgt.getD k 0).toNat (by omega)
    have r7 := hM.fits.pa (m.s.sh.src.getD k 0).toNat (by omega)
    have r8 := hM.fits.pa (m.s.sh.tgt.getD k 0).toNat (by omega)
    have r9 := hS.sz (m.s.sh.src.getD k 0).toNat (by omega)
    refine .skip ?_
    refine hK4 _ _ ?_
    refine .seq (fun K6 hK6 => ?_)
    refine .block ?_
    refine .seq (fun K7 hK7 => ?_)
    refine .regionD mixed_orders_B (.q 0 (.q 1 (.q 2 (.q 3 (.q 4 (.q 5 (.q 6 (.q 7 (.q 8 (.q 9 (.q 10 (.q 11 (.q 12 (.q 13 (.done))))))))))))))) (by kernel_rfl) ?_
    refine .m rfl rfl rfl rfl (.refl _) (.fieldAddr fo_39_0_P rfl) ?_
    refine .m rfl rfl rfl rfl (.refl _) (.fieldAddr fo_37_1_B rfl) ?_
    refine .m rfl rfl rfl rfl (.refl _) (.load on_22_B rfl (by assumption)) ?_
    refine .m rfl rfl rfl rfl (.refl _) (.move rfl) ?_
    refine .m rfl rfl rfl rfl (.refl _) (.idxN sl_22_A (by assumption) rfl rfl (by omega)) ?_
    refine .m rfl rfl rfl rfl (.refl _) (.loadI on_2_A (by assumption) rfl (by omega)) ?_
    refine .m rfl rfl rfl rfl (.refl _) (.fieldAddr fo_39_0_P rfl) ?_
    refine .m rfl rfl rfl rfl (.refl _) (.fieldAddr fo_37_2_B rfl) ?_
    refine .m rfl rfl rfl rfl (.refl _) (.load on_22_B rfl (by assumption)) ?_
    refine .m rfl rfl rfl rfl (.refl _) (.move rfl) ?_
    refine .m rfl rfl rfl rfl (.refl _) (.idxN sl_22_A (by assumption) rfl rfl (by omega)) ?_
    refine .m rfl rfl rfl rfl (.refl _) (.loadI on_2_A (by assumption) rfl (by omega)) ?_
    refine .m rfl rfl rfl rfl (.refl _) (.assign rfl) ?_
    refine .m rfl rfl rfl rfl (.refl _) (.assign rfl) ?_
    refine .done ?_
    refine hK7 _ _ ?_
    refine .seq (fun K8 hK8 => ?_)
    refine .region ?_
    refine .m rfl rfl rfl (.assign rfl) ?_
    refine .nil ?_
    refine hK8 _ _ ?_
    refine .block ?_
    refine .loopR (σ := Nat) [(2, some _), (3, some _), (4, some _), (8, some _), (9, some _), (10, some _)] (fun l => [(11, some (.int .i64 (l : Int)))]) (fun l H' => H4 = H' ∧ (l : Int) ≤ (m.s.ac.getD k []).length ∧ ∀ e, e < l → m.bad k e = false) (fun l => ((m.s.ac.getD k []).length - l : Int).toNat) (0) ⟨rfl, rfl, rfl, rfl, rfl, rfl, trivial⟩ ⟨rfl, trivial⟩ ?_ ?_
    ·
     refine ⟨rfl, ?_⟩
     exact ⟨by omega, fun _ _ => by omega⟩
    ·
     rintro l _ ⟨rfl, hI⟩ KL2 hKL2
     refine .forget (fr' := [(11, some (.int .i64 (l : Int))), (2, some _), (3, some _), (4, some _), (8, some _), (9, some _), (10, some _)]) ⟨rfl, rfl, rfl, rfl, rfl, rfl, rfl, trivial⟩ ?_
     obtain ⟨hk2, ha2⟩ := hI
     refine .seq (fun K9 hK9 => ?_)
     refine .seq (fun K10 hK10 => ?_)
     refine .region ?_
     refine .m rfl rfl rfl (.move rfl) ?_
     refine .m rfl rfl rfl (.fieldAddr fo_39_1_P rfl) ?_
     refine .m rfl rfl rfl (.load on_22_B rfl (by assumption)) ?_
     refine .m rfl rfl rfl (.move rfl) ?_
     refine .m rfl rfl rfl (.idx1 sl_22_A (by assumption) rfl rfl (by omega) (by omega)) ?_
     refine .m rfl rfl rfl (.loadI on_2_A (by assumption) rfl (by omega)) ?_
     refine .m rfl rfl rfl (.cmp rfl rfl rfl) ?_
     refine .nil ?_
     refine hK10 _ _ ?_
     refine .cond rfl (fun h37 => ?_) (fun h37 => ?_)
     ·
      simp only [sps] at h37
      have u1 := hS.act (a := k) (by omega) (e := l) (by omega)
      have u2 := r7.1
      have u3 := allIn_iff.1 r7.2 l (by omega)
      have u4 := r8.1
      refine .skip ?_
      refine hK9 _ _ ?_
      refine .seq (fun K11 hK11 => ?_)
      refine .block ?_
      refine .seq (fun K12 hK12 => ?_)
      refine .regionD mixed_orders_B (.q 0 (.q 1 (.q 2 (.q 3 (.q 4 (.q 5 (.q 6 (.q 7 (.q 8 (.q 9 (.q 10 (.q 11 (.q 12 (.q 13 (.q 14 (.q 15 (.q 16 (.q 17 (.q 18 (.q 19 (.q 20 (.q 21 (.q 22 (.q 23 (.q 24 (.q 25 (.q 26 (.q 27 (.q 28 (.done)))))))))))))))))))))))))))))) (by kernel_rfl) ?_
      refine .m rfl rfl rfl rfl (.refl _) (.move rfl) ?_
      refine .m rfl rfl rfl rfl (.refl _) (.move rfl) ?_
      refine .m rfl rfl rfl rfl (.refl _) (.idx1 sl_23_B (Intss.sl (by assumption)) rfl rfl (by omega) (by omega)) ?_
      refine .m rfl rfl rfl rfl (.refl _) (.loadR on_22_B (by assumption) rfl (by omega)) ?_
      refine .m rfl rfl rfl rfl (.refl _) (.fieldAddr fo_39_2_P rfl) ?_
      refine .m rfl rfl rfl rfl (.refl _) (.load on_23_B rfl (by assumption)) ?_
      refine .m rfl rfl rfl rfl (.refl _) (.move rfl) ?_
      refine .m rfl rfl rfl rfl (.refl _) (.idxN sl_23_B (Intss.sl (by assumption)) rfl rfl (by omega)) ?_
      refine .m rfl rfl rfl rfl (.refl _) (.loadR on_22_B (by assumption) rfl (by omega)) ?_
      refine .m rfl rfl rfl rfl (.refl _) (.move rfl) ?_
      refine .m rfl rfl rfl rfl (.refl _) (.idxN sl_22_A (by assumption) rfl rfl (by omega)) ?_
      refine .m rfl rfl rfl rfl (.refl _) (.loadI on_2_A (by assumption) rfl (by omega)) ?_
      refine .m rfl rfl rfl rfl (.refl _) (.idx1 sl_22_A (by assumption) rfl rfl (by omega) (by omega)) ?_
      refine .m rfl rfl rfl rfl (.refl _) (.loadI on_2_A (by assumption) rfl (by omega)) ?_
      refine .m rfl rfl rfl rfl (.refl _) (.fieldAddr fo_39_2_P rfl) ?_
      refine .m rfl rfl rfl rfl (.refl _) (.load on_23_B rfl (by assumption)) ?_
      refine .m rfl rfl rfl rfl (.refl _) (.move rfl) ?_
      refine .m rfl rfl rfl rfl (.refl _) (.idxN sl_23_B (Intss.sl (by assumption)) rfl rfl (by omega)) ?_
      refine .m rfl rfl rfl rfl (.refl _) (.loadR on_22_B (by assumption) rfl (by omega)) ?_
      refine .m rfl rfl rfl rfl (.refl _) (.move rfl) ?_
      refine .m rfl rfl rfl rfl (.refl _) (.move rfl) ?_
      refine .m rfl rfl rfl rfl (.refl _) (.idx1 sl_23_B (Intss.sl (by assumption)) rfl rfl (by omega) (by omega)) ?_
      refine .m rfl rfl rfl rfl (.refl _) (.loadR on_22_B (by assumption) rfl (by omega)) ?_
      refine .m rfl rfl rfl rfl (.refl _) (.move rfl) ?_
      refine .m rfl rfl rfl rfl (.refl _) (.idxN sl_22_A (by assumption) rfl rfl (by omega)) ?_
      refine .m rfl rfl rfl rfl (.refl _) (.loadI on_2_A (by assumption) rfl (by omega)) ?_
      refine .m rfl rfl rfl rfl (.refl _) (.idx1 sl_22_A (by assumption) rfl rfl (by omega) (by omega)) ?_
      refine .m rfl rfl rfl rfl (.refl _) (.loadI on_2_A (by assumption) rfl (by omega)) ?_
      refine .m rfl rfl rfl rfl (.refl _) (.cmp rfl rfl rfl) ?_
      refine .done ?_
      refine hK12 _ _ ?_
      refine .cond rfl (fun h68 => ?_) (fun h68 => ?_)
      ·
       try simp only [sps] at h68
       refine .seq (fun K13 hK13 => ?_)
       refine .region ?_
       refine .m rfl rfl rfl (.move rfl) ?_
       refine .m rfl rfl rfl (.move rfl) ?_
       refine .m rfl rfl rfl (.assign rfl) ?_
       refine .m rfl rfl rfl (.assign rfl) ?_
       refine .nil ?_
       refine hK13 _ _ ?_
       refine .ret ?_
       -- leaf e1
       refine hret _ _ ?_
       refine ⟨_, _, rfl, rfl, ?_⟩
       have := first2_some (n := m.s.ac.length) (len := fun a => (m.s.ac.getD a []).length) (p := m.bad) (a := k) (e := l) (by omega) (by omega) (by simp only [SMap.bad, sps]; exact h68) ha2 ha1
       exact ⟨by rw [show m.first = _ from this], hle⟩
      ·
       try simp only [sps] at h68
       refine .skip ?_
       refine hK11 _ _ ?_
       refine .region ?_
       refine .m rfl rfl rfl (.move rfl) ?_
       refine .m rfl rfl rfl (.add rfl rfl rfl (by omega) (by omega)) ?_
       refine .m rfl rfl rfl (.assign rfl) ?_
       refine .nil ?_
       refine hKL2 (l + 1) _ _ ?_ ?_ ⟨rfl, rfl, rfl, rfl, rfl, rfl, rfl, trivial⟩
       ·
        refine ⟨rfl, ?_⟩
        refine ⟨by omega, fun e hx => ?_⟩
        by_cases hltq : e < l
        · exact ha2 e hltq
        · obtain rfl : e = l := by omega
          simp only [SMap.bad, sps]; exact h68
       ·
        omega
     ·
      try simp only [sps] at h37
      refine .exit ?_
      refine hK6 _ _ ?_
      refine .region ?_
      refine .m rfl rfl rfl (.move rfl) ?_
      refine .m rfl rfl rfl (.add rfl rfl rfl (by omega) (by omega)) ?_
      refine .m rfl rfl rfl (.assign rfl) ?_
      refine .nil ?_
      refine hKL1 (k + 1) _ _ ?_ ?_ ⟨rfl, rfl, rfl, rfl, trivial⟩
      ·
       refine ⟨rfl, ?_⟩
       refine ⟨by omega, fun a hx => ?_⟩
       by_cases hltq : a < k
       · exact ha1 a hltq
       · obtain rfl : a = k := by omega
         exact fun e he => ha2 e (by omega)
      ·
       omega
   ·
    try simp only [sps] at h16
    refine .exit ?_
    refine hK2 _ _ ?_
    refine .seq (fun K14 hK14 => ?_)
    refine .region ?_
    refine .m rfl rfl rfl (.assign rfl) ?_
    refine .m rfl rfl rfl (.assign rfl) ?_
    refine .nil ?_
    refine hK14 _ _ ?_
    refine .ret ?_
    -- leaf e2
    refine hret _ _ ?_
    refine ⟨_, _, rfl, rfl, ?_⟩
    have := first2_none (n := m.s.ac.length) (len := fun a => (m.s.ac.getD a []).length) (p := m.bad) fun a ha => ha1 a (by omega)
    exact ⟨by rw [show m.first = _ from this], hle⟩
end Go.Proofs.Ytbpehbbdodahaaa
/- Transformations, in the program. No condition but those of each statement. -/
namespace Go.Proofs.Ytbpehbbdodahaaa
open Go Go.GL Go.RowKit Go.Proofs
end Go.Proofs.Ytbpehbbdodahaaa
/- Functors and transformations, in the reference. No condition but those of each statement. -/
namespace Go.Proofs.Ytbpehbbdodahaaa
open Go Go.GL Go.RowKit Go.Proofs
end Go.Proofs.Ytbpehbbdodahaaa
/- Hom sets and inverses. No condition but those of each statement. -/
namespace Go.Proofs.Ytbpehbbdodahaaa
open Go Go.GL Go.RowKit Go.Proofs
theorem l01Has_c {a : Option Addr} {xs : List Int} {n : Int} {H : GHeap} (h : Ints H a xs := by assumption) (hl : xs.length ≤ 1048576 := by omega) :
    GCalls Try.prog 60 [.slice a xs.length xs.length, .int .i64 n] H (Ret (.bool (xs.contains n)) H) := by
  refine GCalls.body (N := 18) (rs := [.tmp 4]) Try.func60 rfl rfl rfl rfl (fun Qx hret hend => ?_)
  refine .forget (fr' := [(0, some _), (1, some _)]) ⟨rfl, rfl, trivial⟩ ?_
  refine .seq (fun K1 hK1 => ?_)
  refine .region ?_
  refine .m rfl rfl rfl (.assign rfl) ?_
  refine .nil ?_
  refine hK1 _ _ ?_
  refine .seq (fun K2 hK2 => ?_)
  refine .seq (fun K3 hK3 => ?_)
  refine .region ?_
  refine .m rfl rfl rfl (.assign rfl) ?_
  refine .nil ?_
  refine hK3 _ _ ?_
  refine .block ?_
  refine .loopR (σ := Nat) [(0, some _), (1, some _)] (fun k => [(5, some (.int .i64 (k : Int)))]) (fun k H' => H = H' ∧ (k : Int) ≤ xs.length ∧ ∀ i, i < k → ¬ xs.getD i 0 = n) (fun k => (xs.length - k : Int).toNat) (0) ⟨rfl, rfl, trivial⟩ ⟨rfl, trivial⟩ ?_ ?_
  ·
   refine ⟨rfl, ?_⟩
   exact ⟨by omega, fun _ _ => by omega⟩
  ·
   rintro k _ ⟨rfl, hI⟩ KL1 hKL1
   refine .forget (fr' := [(5, some (.int .i64 (k : Int))), (0, some _), (1, some _)]) ⟨rfl, rfl, rfl, trivial⟩ ?_
   obtain ⟨hk1, ha1⟩ := hI
   refine .seq (fun K4 hK4 => ?_)
   refine .seq (fun K5 hK5 => ?_)
   refine .region ?_
   refine .m rfl rfl rfl (.move rfl) ?_
   refine .m rfl rfl rfl (.move rfl) ?_
   refine .m rfl rfl rfl (.len sl_22_A rfl) ?_
   refine .m rfl rfl rfl (.cmp rfl rfl rfl) ?_
   refine .nil ?_
   refine hK5 _ _ ?_
   refine .cond rfl (fun h9 => ?_) (fun h9 => ?_)
   ·
    try simp only [sps] at h9
    refine .skip ?_
    refine hK4 _ _ ?_
    refine .seq (fun K6 hK6 => ?_)
    refine .block ?_
    refine .seq (fun K7 hK7 => ?_)
    refine .region ?_
    refine .m rfl rfl rfl (.move rfl) ?_
    refine .m rfl rfl rfl (.move rfl) ?_
    refine .m rfl rfl rfl (.idxN sl_22_A (by assumption) rfl rfl (by omega)) ?_
    refine .m rfl rfl rfl (.loadI on_2_A (by assumption) rfl (by omega)) ?_
    refine .m rfl rfl rfl (.move rfl) ?_
    refine .m rfl rfl rfl (.cmp rfl rfl rfl) ?_
    refine .nil ?_
    refine hK7 _ _ ?_
    refine .cond rfl (fun h17 => ?_) (fun h17 => ?_)
    ·
     try simp only [sps] at h17
     refine .seq (fun K8 hK8 => ?_)
     refine .region ?_
     refine .m rfl rfl rfl (.assign rfl) ?_
     refine .nil ?_
     refine hK8 _ _ ?_
     refine .ret ?_
     -- leaf e1
     refine hret _ _ ?_
     refine ⟨_, rfl, ?_⟩
     exact .of (congrArg _ (List.contains_iff_mem.2 (by rw [← h17]; exact getD_mem (by omega))))
    ·
     try simp only [sps] at h17
     refine .skip ?_
     refine hK6 _ _ ?_
     refine .region ?_
     refine .m rfl rfl rfl (.move rfl) ?_
     refine .m rfl rfl rfl (.add rfl rfl rfl (by omega) (by omega)) ?_
     refine .m rfl rfl rfl (.assign rfl) ?_
     refine .nil ?_
     refine hKL1 (k + 1) _ _ ?_ ?_ ⟨rfl, rfl, rfl, trivial⟩
     ·
      refine ⟨rfl, ?_⟩
      refine ⟨by omega, fun i hx => ?_⟩
      by_cases hltq : i < k
      · exact ha1 i hltq
      · obtain rfl : i = k := by omega
        first | assumption | omega | simp_all
     ·
      omega
   ·
    try simp only [sps] at h9
    refine .exit ?_
    refine hK2 _ _ ?_
    refine .seq (fun K9 hK9 => ?_)
    refine .region ?_
    refine .m rfl rfl rfl (.assign rfl) ?_
    refine .nil ?_
    refine hK9 _ _ ?_
    refine .ret ?_
    -- leaf e2
    refine hret _ _ ?_
    refine ⟨_, rfl, ?_⟩
    exact .of (congrArg _ (Bool.eq_false_iff.2 fun hc => by
      obtain ⟨i, hi, e⟩ := mem_getD (List.contains_iff_mem.1 hc)
      exact ha1 i (by omega) e))
end Go.Proofs.Ytbpehbbdodahaaa
/- Equivalences. No condition but those of each statement. -/
namespace Go.Proofs.Ytbpehbbdodahaaa
open Go Go.GL Go.RowKit Go.Proofs
theorem has_c {a : Option Addr} {xs : List Int} {n : Int} {H : GHeap} (h : Ints H a xs := by assumption) (hl : xs.length ≤ 1048576 := by omega) :
    GCalls Try.prog 65 [.slice a xs.length xs.length, .int .i64 n] H (Ret (.bool (xs.contains n)) H) := by
  refine GCalls.body (N := 17) (rs := [.tmp 4]) Try.func65 rfl rfl rfl rfl (fun Qx hret hend => ?_)
  refine .forget (fr' := [(0, some _), (1, some _)]) ⟨rfl, rfl, trivial⟩ ?_
  refine .seq (fun K1 hK1 => ?_)
  refine .region ?_
  refine .m rfl rfl rfl (.assign rfl) ?_
  refine .nil ?_
  refine hK1 _ _ ?_
  refine .seq (fun K2 hK2 => ?_)
  refine .seq (fun K3 hK3 => ?_)
  refine .region ?_
  refine .m rfl rfl rfl (.move rfl) ?_
  refine .m rfl rfl rfl (.len sl_22_A rfl) ?_
  refine .m rfl rfl rfl (.move rfl) ?_
  refine .nil ?_
  refine hK3 _ _ ?_
  refine .block ?_
  refine .loopR (σ := Nat) [(1, some _), (7, some _), (8, some _)] (fun k => [(9, some (.int .i64 (k : Int)))]) (fun k H' => H = H' ∧ (k : Int) ≤ xs.length ∧ ∀ i, i < k → ¬ xs.getD i 0 = n) (fun k => (xs.length - k : Int).toNat) (0) ⟨rfl, rfl, rfl, trivial⟩ ⟨rfl, trivial⟩ ?_ ?_
  ·
   refine ⟨rfl, ?_⟩
   exact ⟨by omega, fun _ _ => by omega⟩
  ·
   rintro k _ ⟨rfl, hI⟩ KL1 hKL1
   refine .forget (fr' := [(9, some (.int .i64 (k : Int))), (1, some _), (7, some _), (8, some _)]) ⟨rfl, rfl, rfl, rfl, trivial⟩ ?_
   obtain ⟨hk1, ha1⟩ := hI
   refine .seq (fun K4 hK4 => ?_)
   refine .region ?_
   refine .m rfl rfl rfl (.cmp rfl rfl rfl) ?_
   refine .nil ?_
   refine hK4 _ _ ?_
   refine .seq (fun K5 hK5 => ?_)
   refine .cond rfl (fun h10 => ?_) (fun h10 => ?_)
   ·
    try simp only [sps] at h10
    refine .skip ?_
    refine hK5 _ _ ?_
    refine .seq (fun K6 hK6 => ?_)
    refine .block ?_
    refine .seq (fun K7 hK7 => ?_)
    refine .region ?_
    refine .m rfl rfl rfl (.idxN sl_22_A (by assumption) rfl rfl (by omega)) ?_
    refine .m rfl rfl rfl (.loadI on_2_A (by assumption) rfl (by omega)) ?_
    refine .m rfl rfl rfl (.assign rfl) ?_
    refine .nil ?_
    refine hK7 _ _ ?_
    refine .seq (fun K8 hK8 => ?_)
    refine .region ?_
    refine .m rfl rfl rfl (.move rfl) ?_
    refine .m rfl rfl rfl (.move rfl) ?_
    refine .m rfl rfl rfl (.cmp rfl rfl rfl) ?_
    refine .nil ?_
    refine hK8 _ _ ?_
    refine .cond rfl (fun h15 => ?_) (fun h15 => ?_)
    ·
     try simp only [sps] at h15
     refine .seq (fun K9 hK9 => ?_)
     refine .region ?_
     refine .m rfl rfl rfl (.assign rfl) ?_
     refine .nil ?_
     refine hK9 _ _ ?_
     refine .ret ?_
     -- leaf e1
     refine hret _ _ ?_
     refine ⟨_, rfl, ?_⟩
     exact .of (congrArg _ (List.contains_iff_mem.2 (by rw [← h15]; exact getD_mem (by omega))))
    ·
     try simp only [sps] at h15
     refine .skip ?_
     refine hK6 _ _ ?_
     refine .region ?_
     refine .m rfl rfl rfl (.add rfl rfl rfl (by omega) (by omega)) ?_
     refine .m rfl rfl rfl (.move rfl) ?_
     refine .nil ?_
     refine hKL1 (k + 1) _ _ ?_ ?_ ⟨rfl, rfl, rfl, rfl, trivial⟩
     ·
      refine ⟨rfl, ?_⟩
      refine ⟨by omega, fun i hx => ?_⟩
      by_cases hltq : i < k
      · exact ha1 i hltq
      · obtain rfl : i = k := by omega
        first | assumption | omega | simp_all
     ·
      omega
   ·
    try simp only [sps] at h10
    refine .exit ?_
    refine hK2 _ _ ?_
    refine .seq (fun K10 hK10 => ?_)
    refine .region ?_
    refine .m rfl rfl rfl (.assign rfl) ?_
    refine .nil ?_
    refine hK10 _ _ ?_
    refine .ret ?_
    -- leaf e2
    refine hret _ _ ?_
    refine ⟨_, rfl, ?_⟩
    exact .of (congrArg _ (Bool.eq_false_iff.2 fun hc => by
      obtain ⟨i, hi, e⟩ := mem_getD (List.contains_iff_mem.1 hc)
      exact ha1 i (by omega) e))
end Go.Proofs.Ytbpehbbdodahaaa
/- The laws' helpers for Part. No condition but those of each statement. -/
namespace Go.Proofs.Ytbpehbbdodahaaa
open Go Go.GL Go.RowKit Go.Proofs
theorem sz_31_VPrt : (Try.prog.info? 31).map (·.size) = some 1 := by kernel_rfl
theorem fo_31_0_VPrt : fieldOff Try.prog 31 0 = some 0 := by kernel_rfl
theorem ze_34_VPrt : zeroT Try.prog 34 = some ([.slice none 0 0], 1) := by kernel_rfl
theorem fo_34_0_VPrt : fieldOff Try.prog 34 0 = some 0 := by kernel_rfl
theorem ag_34_VPrt : aggT Try.prog 34 = some 1 := by kernel_rfl
theorem sz_34_VPrt : (Try.prog.info? 34).map (·.size) = some 1 := by kernel_rfl
theorem szPart_c {c : Prt} {p : PrtP} {left : Int} {H : GHeap} (hin : c.In H p := by assumption) (hw : c.Wide := by assumption) (h0 : 0 ≤ left := by omega) (h1 : left ≤ 1048576 := by omega) :
    GCalls Try.prog 8 [.agg (c.cells p).toArray, .int .i64 left] H (SzR left c.Small H) := by
  refine SzR.of ?_
  obtain ⟨wa0, wb0⟩ := hw
  refine GCalls.body (N := 12) (rs := [.tmp 4]) Try.func8 rfl rfl rfl rfl (fun Qx hret hend => ?_)
  refine .forget (fr' := [(0, some _), (1, some _)]) ⟨rfl, rfl, trivial⟩ ?_
  have hle := GHeap.Le.refl H
  have base_hin := hin
  refine .seq (fun K1 hK1 => ?_)
  refine .region ?_
  refine .r rfl rfl rfl (.boxR rfl sz_31_VPrt rfl) ?_
  rintro _ H2 ⟨g2, rfl, le2, ge2, at2⟩
  have nx_H2 := le2.1
  replace hle := hle.trans le2
  have lt_at2 := GHeap.lt_of_get at2
  replace hin := base_hin.mono hle
  have hb2 : Prt.At _ g2 0 c p := ⟨Mem.of_get at2, hin⟩
  obtain ⟨c02, i02⟩ := hb2.get
  have hm2 : MemN _ _ _ _ _ := ⟨rfl, hb2.1⟩
  have hi2 := hb2.2
  refine .m rfl rfl rfl (.assign rfl) ?_
  refine .nil ?_
  refine hK1 _ _ ?_
  refine .seq (fun K2 hK2 => ?_)
  refine .region ?_
  refine .m rfl rfl rfl (.fieldAddr fo_31_0_VPrt rfl) ?_
  refine .m rfl rfl rfl (.load on_23_B rfl (by assumption)) ?_
  refine .m rfl rfl rfl (.move rfl) ?_
  refine .call rfl rfl rfl rfl @Try.call28 rfl (szInt64SS_s) ?_
  rintro _ _ ⟨heq, lf8, rfl, z18, z28, z38⟩
  obtain rfl := heq.symm
  refine .m rfl rfl rfl (.assign rfl) ?_
  refine .nil ?_
  refine hK2 _ _ ?_
  refine .seq (fun K3 hK3 => ?_)
  refine .seq (fun K4 hK4 => ?_)
  refine .region ?_
  refine .m rfl rfl rfl (.move rfl) ?_
  refine .m rfl rfl rfl (.cmp rfl rfl rfl) ?_
  refine .nil ?_
  refine hK4 _ _ ?_
  refine .cond rfl (fun h10 => ?_) (fun h10 => ?_)
  ·
   try simp only [sps] at h10
   refine .seq (fun K5 hK5 => ?_)
   refine .region ?_
   refine .m rfl rfl rfl (.assign rfl) ?_
   refine .nil ?_
   refine hK5 _ _ ?_
   refine .ret ?_
   -- leaf e1
   refine hret _ _ ?_
   refine ⟨_, rfl, ?_⟩
   first
   | exact ⟨hle, _, rfl, by omega, by omega, fun h => by omega⟩
   | exact ⟨hle, _, rfl, by omega, by omega, fun h => by assumption⟩
  ·
   try simp only [sps] at h10
   have hsm8 := z38 (by omega)
   refine .skip ?_
   refine hK3 _ _ ?_
   refine .seq (fun K6 hK6 => ?_)
   refine .region ?_
   refine .m rfl rfl rfl (.move rfl) ?_
   refine .m rfl rfl rfl (.assign rfl) ?_
   refine .nil ?_
   refine hK6 _ _ ?_
   refine .ret ?_
   -- leaf e2
   refine hret _ _ ?_
   refine ⟨_, rfl, ?_⟩
   first
   | exact ⟨hle, _, rfl, by omega, by omega, fun h => by omega⟩
   | exact ⟨hle, _, rfl, by omega, by omega, fun h => by assumption⟩
set_option maxHeartbeats 4000000 in
theorem toPart_c {c : Prt} {p : PrtP} {H : GHeap} (hin : c.In H p := by assumption) (hs : c.Small := by assumption) : GCalls Try.prog 11 [.agg (c.cells p).toArray] H (NewPrt H c) := by
  obtain ⟨wa0, wb0⟩ := hs
  refine GCalls.body (N := 9) (rs := [.cell 2 34]) Try.func11 rfl rfl rfl rfl (fun Qx hret hend => ?_)
  refine .forget (fr' := [(0, some _)]) ⟨rfl, trivial⟩ ?_
  have hle := GHeap.Le.refl H
  have base_hin := hin
  refine .seq (fun K1 hK1 => ?_)
  refine .region ?_
  refine .r rfl rfl rfl (.boxR rfl sz_31_VPrt rfl) ?_
  rintro _ H1 ⟨g1, rfl, le1, ge1, at1⟩
  have nx_H1 := le1.1
  replace hle := hle.trans le1
  have lt_at1 := GHeap.lt_of_get at1
  replace hin := base_hin.mono hle
  have hb1 : Prt.At _ g1 0 c p := ⟨Mem.of_get at1, hin⟩
  obtain ⟨c01, i01⟩ := hb1.get
  have hm1 : MemN _ _ _ _ _ := ⟨rfl, hb1.1⟩
  have hi1 := hb1.2
  refine .r rfl rfl rfl (.allocR rfl ze_34_VPrt rfl) ?_
  rintro _ H2 ⟨g2, rfl, le2, ge2, at2⟩
  have nx_H2 := le2.1
  replace hle := hle.trans le2
  replace at1 := le2.2 _ _ at1
  have lt_at2 := GHeap.lt_of_get at2
  replace hin := base_hin.mono hle
  clear hb1 c01 i01 hm1 hi1
  have hb1 : Prt.At _ g1 0 c p := ⟨Mem.of_get at1, hin⟩
  obtain ⟨c01, i01⟩ := hb1.get
  have hm1 : MemN _ _ _ _ _ := ⟨rfl, hb1.1⟩
  have hi1 := hb1.2
  refine .nil ?_
  refine hK1 _ _ ?_
  refine .seq (fun K2 hK2 => ?_)
  refine .region ?_
  refine .r rfl rfl rfl (.allocR rfl ze_34_VPrt rfl) ?_
  rintro _ H3 ⟨g3, rfl, le3, ge3, at3⟩
  have nx_H3 := le3.1
  replace hle := hle.trans le3
  replace at1 := le3.2 _ _ at1
  replace at2 := le3.2 _ _ at2
  have lt_at3 := GHeap.lt_of_get at3
  replace hin := base_hin.mono hle
  clear hb1 c01 i01 hm1 hi1
  have hb1 : Prt.At _ g1 0 c p := ⟨Mem.of_get at1, hin⟩
  obtain ⟨c01, i01⟩ := hb1.get
  have hm1 : MemN _ _ _ _ _ := ⟨rfl, hb1.1⟩
  have hi1 := hb1.2
  refine .nil ?_
  refine hK2 _ _ ?_
  refine .seq (fun K3 hK3 => ?_)
  refine .region ?_
  refine .m rfl rfl rfl (.fieldAddr fo_31_0_VPrt rfl) ?_
  refine .m rfl rfl rfl (.load on_23_B rfl (by assumption)) ?_
  refine .call rfl rfl rfl rfl @Try.call32 rfl (toInt64SS_c) ?_
  rintro _ H6 ⟨le6, a6, r6, rfl, v6⟩
  have nx_H6 := le6.1
  replace hle := hle.trans le6
  replace at1 := le6.2 _ _ at1
  replace at2 := le6.2 _ _ at2
  replace at3 := le6.2 _ _ at3
  have bs_v6 := v6
  have lv_v6 : Keep H3.next H6 H6 := fun _ _ _ h => h
  replace hin := base_hin.mono hle
  clear hb1 c01 i01 hm1 hi1
  have hb1 : Prt.At _ g1 0 c p := ⟨Mem.of_get at1, hin⟩
  obtain ⟨c01, i01⟩ := hb1.get
  have hm1 : MemN _ _ _ _ _ := ⟨rfl, hb1.1⟩
  have hi1 := hb1.2
  have i6 := v6.intss
  refine .m rfl rfl rfl (.fieldAddr fo_34_0_VPrt rfl) ?_
  refine .r0 rfl rfl (.storeR rfl sz_23_E rfl rfl rfl (by assumption) (by first | exact Nat.le_of_ble_eq_true rfl | simp)) ?_
  rintro _ H2004 ⟨rfl, st2004, at2004⟩
  have nx_H2004 := st2004.nx
  replace hle := hle.st st2004 (fun k hk => ⟨by omega, trivial⟩)
  replace at1 := st2004.same _ _ ⟨by omega, trivial⟩ at1
  replace at2 := st2004.same _ _ ⟨by omega, trivial⟩ at2
  replace lv_v6 := Keep.st lv_v6 st2004 (fun k hb hk => ⟨by omega, trivial⟩)
  replace v6 := bs_v6.keep lv_v6 (Nat.le_refl _)
  have lt_at2004 := GHeap.lt_of_get at2004
  replace hin := base_hin.mono hle
  clear hb1 c01 i01 hm1 hi1
  have hb1 : Prt.At _ g1 0 c p := ⟨Mem.of_get at1, hin⟩
  obtain ⟨c01, i01⟩ := hb1.get
  have hm1 : MemN _ _ _ _ _ := ⟨rfl, hb1.1⟩
  have hi1 := hb1.2
  clear i6
  have i6 := v6.intss
  refine .nil ?_
  refine hK3 _ _ ?_
  refine .seq (fun K4 hK4 => ?_)
  refine .region ?_
  refine .m rfl rfl rfl (.loadM ag_34_VPrt rfl ⟨rfl, Mem.of_get at2004⟩) ?_
  refine .r0 rfl rfl (.fillR rfl sz_34_VPrt rfl rfl rfl rfl (by assumption) (by first | rfl | exact Nat.le_of_ble_eq_true rfl | simp)) ?_
  rintro _ H3001 ⟨rfl, st3001, at3001⟩
  have nx_H3001 := st3001.nx
  replace hle := hle.st st3001 (fun k hk => ⟨by omega, trivial⟩)
  replace at1 := st3001.same _ _ ⟨by omega, trivial⟩ at1
  replace at2004 := st3001.same _ _ ⟨by omega, trivial⟩ at2004
  replace lv_v6 := Keep.st lv_v6 st3001 (fun k hb hk => ⟨by omega, trivial⟩)
  replace v6 := bs_v6.keep lv_v6 (Nat.le_refl _)
  have lt_at3001 := GHeap.lt_of_get at3001
  replace hin := base_hin.mono hle
  clear hb1 c01 i01 hm1 hi1
  have hb1 : Prt.At _ g1 0 c p := ⟨Mem.of_get at1, hin⟩
  obtain ⟨c01, i01⟩ := hb1.get
  have hm1 : MemN _ _ _ _ _ := ⟨rfl, hb1.1⟩
  have hi1 := hb1.2
  clear i6
  have i6 := v6.intss
  have mm3001 : MemN _ _ _ _ _ := ⟨rfl, Mem.of_get at3001⟩
  refine .nil ?_
  refine hK4 _ _ ?_
  refine .ret ?_
  -- leaf e1
  refine hret _ _ ?_
  refine ⟨_, _, _, _, rfl, ag_34_VPrt, (by rfl), (Mem.of_get at3001), ?_⟩
  exact ⟨hle, ⟨a6, r6⟩, rfl, v6.keep (.of_le (.refl _)) (by omega)⟩
set_option maxHeartbeats 4000000 in
theorem eqPart_c {c : Prt} {p p' : PrtP} {H : GHeap} (hin : c.In H p := by assumption) (hin' : c.In H p' := by assumption) (hs : c.Small := by assumption) : GCalls Try.prog 13 [.agg (c.cells p).toArray, .agg (c.cells p').toArray] H (Ret (.bool true) H) := by
  refine GCalls.ret rfl ?_
  obtain ⟨wa0, wb0⟩ := hs
  refine GCalls.body (N := 11) (rs := [.tmp 4]) Try.func13 rfl rfl rfl rfl (fun Qx hret hend => ?_)
  refine .forget (fr' := [(0, some _), (1, some _)]) ⟨rfl, rfl, trivial⟩ ?_
  have hle := GHeap.Le.refl H
  have base_hin := hin
  have base_hin' := hin'
  refine .seq (fun K1 hK1 => ?_)
  refine .region ?_
  refine .r rfl rfl rfl (.boxR rfl sz_34_VPrt rfl) ?_
  rintro _ H2 ⟨g2, rfl, le2, ge2, at2⟩
  have nx_H2 := le2.1
  replace hle := hle.trans le2
  have lt_at2 := GHeap.lt_of_get at2
  replace hin := base_hin.mono hle
  replace hin' := base_hin'.mono hle
  have hb2 : Prt.At _ g2 0 c p := ⟨Mem.of_get at2, hin⟩
  obtain ⟨c02, i02⟩ := hb2.get
  have hm2 : MemN _ _ _ _ _ := ⟨rfl, hb2.1⟩
  have hi2 := hb2.2
  refine .r rfl rfl rfl (.boxR rfl sz_34_VPrt rfl) ?_
  rintro _ H3 ⟨g3, rfl, le3, ge3, at3⟩
  have nx_H3 := le3.1
  replace hle := hle.trans le3
  replace at2 := le3.2 _ _ at2
  have lt_at3 := GHeap.lt_of_get at3
  replace hin := base_hin.mono hle
  replace hin' := base_hin'.mono hle
  clear hb2 c02 i02 hm2 hi2
  have hb2 : Prt.At _ g2 0 c p := ⟨Mem.of_get at2, hin⟩
  obtain ⟨c02, i02⟩ := hb2.get
  have hm2 : MemN _ _ _ _ _ := ⟨rfl, hb2.1⟩
  have hi2 := hb2.2
  have hb3 : Prt.At _ g3 0 c p' := ⟨Mem.of_get at3, hin'⟩
  obtain ⟨c03, i03⟩ := hb3.get
  have hm3 : MemN _ _ _ _ _ := ⟨rfl, hb3.1⟩
  have hi3 := hb3.2
  refine .m rfl rfl rfl (.assign rfl) ?_
  refine .nil ?_
  refine hK1 _ _ ?_
  refine .seq (fun K2 hK2 => ?_)
  refine .seq (fun K3 hK3 => ?_)
  refine .region ?_
  refine .m rfl rfl rfl (.fieldAddr fo_34_0_VPrt rfl) ?_
  refine .m rfl rfl rfl (.load on_23_B rfl (by assumption)) ?_
  refine .m rfl rfl rfl (.fieldAddr fo_34_0_VPrt rfl) ?_
  refine .m rfl rfl rfl (.load on_23_B rfl (by assumption)) ?_
  refine .callQ rfl rfl rfl rfl @Try.call36 rfl (eqInt64SS_c) ?_
  refine .m rfl rfl rfl (.not rfl) ?_
  refine .nil ?_
  refine hK3 _ _ ?_
  refine .cond rfl (fun h10 => ?_) (fun h10 => ?_)
  ·
   try simp only [sps] at h10
   refine .seq (fun K4 hK4 => ?_)
   refine .region ?_
   refine .m rfl rfl rfl (.assign rfl) ?_
   refine .nil ?_
   refine hK4 _ _ ?_
   refine .ret ?_
   -- leaf e1
   refine hret _ _ ?_
   refine ⟨_, rfl, ?_⟩
   first
   | exact ⟨rfl, hle⟩
   | exact absurd trivial (by assumption)
   | contradiction
   | (exfalso; omega)
   | (exfalso; simp_all)
  ·
   try simp only [sps] at h10
   refine .skip ?_
   refine hK2 _ _ ?_
   refine .seq (fun K5 hK5 => ?_)
   refine .region ?_
   refine .m rfl rfl rfl (.assign rfl) ?_
   refine .nil ?_
   refine hK5 _ _ ?_
   refine .ret ?_
   -- leaf e2
   refine hret _ _ ?_
   refine ⟨_, rfl, ?_⟩
   first
   | exact ⟨rfl, hle⟩
   | exact absurd trivial (by assumption)
   | contradiction
   | (exfalso; omega)
   | (exfalso; simp_all)
end Go.Proofs.Ytbpehbbdodahaaa
/- Parts of set functors. No condition but those of each statement. -/
namespace Go.Proofs.Ytbpehbbdodahaaa
open Go Go.GL Go.RowKit Go.Proofs
theorem l19IsMap_c {m : SMap} {p : SMapP} {H : GHeap} (hin : m.In H p := by assumption) (hs : m.Small := by assumption) :
    GCalls Try.prog 29 [.agg (m.cells p).toArray] H (Ret (.bool (B m.Is)) H) := by
  refine GCalls.ret rfl ?_
  have hs1 := hs
  obtain ⟨w1, w2, _⟩ := hs1
  refine GCalls.body (N := 33) (rs := [.tmp 2]) Try.func29 rfl rfl rfl rfl (fun Qx hret hend => ?_)
  refine .forget (fr' := [(0, some _)]) ⟨rfl, trivial⟩ ?_
  have hle := GHeap.Le.refl H
  have base_hin := hin
  refine .seq (fun K1 hK1 => ?_)
  refine .region ?_
  refine .r rfl rfl rfl (.boxR rfl sz_41_VSMap rfl) ?_
  rintro _ H1 ⟨g1, rfl, le1, ge1, at1⟩
  have nx_H1 := le1.1
  replace hle := hle.trans le1
  have lt_at1 := GHeap.lt_of_get at1
  replace hin := base_hin.mono hle
  have hb1 : SMap.At _ g1 0 m p := ⟨Mem.of_get at1, hin⟩
  obtain ⟨fs1, ft1, c141, i21⟩ := hb1.get
  have hm1 : MemN _ _ _ _ _ := ⟨rfl, hb1.1⟩
  have hi1 := hb1.2
  have hms1 : MemN _ _ _ _ _ := ⟨rfl, fs1.1⟩
  have his1 := fs1.2
  have hmt1 : MemN _ _ _ _ _ := ⟨rfl, ft1.1⟩
  have hit1 := ft1.2
  refine .m rfl rfl rfl (.assign rfl) ?_
  refine .nil ?_
  refine hK1 _ _ ?_
  refine .seq (fun K2 hK2 => ?_)
  refine .seq (fun K3 hK3 => ?_)
  refine .region ?_
  refine .m rfl rfl rfl (.fieldAddr fo_41_0_VSMap rfl) ?_
  refine .m rfl rfl rfl (.loadM ag_39_VSFun rfl (by assumption)) ?_
  refine .m rfl rfl rfl (.fieldAddr fo_41_1_VSMap rfl) ?_
  refine .m rfl rfl rfl (.loadM ag_39_VSFun rfl (by assumption)) ?_
  refine .callQ rfl rfl rfl rfl @Try.call55 rfl (l19Between_c) ?_
  refine .m rfl rfl rfl (.not rfl) ?_
  refine .m rfl rfl rfl (.move rfl) ?_
  refine .split (fun h11 => ?_) (fun h11 => ?_)
  ·
   try simp only [sps] at h11
   refine .sg rfl rfl rfl rfl rfl ?_
   refine .sg rfl rfl rfl rfl rfl ?_
   refine .sg rfl rfl rfl rfl rfl ?_
   refine .sg rfl rfl rfl rfl rfl ?_
   refine .sg rfl rfl rfl rfl rfl ?_
   refine .sg rfl rfl rfl rfl rfl ?_
   refine .sg rfl rfl rfl rfl rfl ?_
   refine .sg rfl rfl rfl rfl rfl ?_
   refine .m rfl rfl rfl (.pickT rfl rfl) ?_
   refine .nil ?_
   refine hK3 _ _ ?_
   refine .condT rfl ?_
   refine .seq (fun K4 hK4 => ?_)
   refine .region ?_
   refine .m rfl rfl rfl (.assign rfl) ?_
   refine .nil ?_
   refine hK4 _ _ ?_
   refine .ret ?_
   -- leaf e1
   refine hret _ _ ?_
   refine ⟨_, rfl, ?_⟩
   first
   | exact ⟨congrArg _ (by rw [Bool.eq_iff_iff, B_iff, decide_eq_true_eq]; exact ⟨fun hh => first2_neg.2 hh.2, fun hh => ⟨hM, first2_neg.1 hh⟩⟩), hle⟩
   | exact ⟨congrArg _ (B_false fun hh => absurd hh.1.fits (by assumption)), hle⟩
   | exact ⟨congrArg _ (B_false fun hh => h11 ⟨hh.1.s, hh.1.t, hh.1.sh⟩), hle⟩
  ·
   simp only [sps] at h11
   have hS := h11.1.1
   have hT := h11.2.1.1
   have hsh := h11.2.2
   refine .mg rfl rfl rfl rfl rfl (.fieldAddr fo_41_0_VSMap rfl) ?_
   refine .mg rfl rfl rfl rfl rfl (.loadM ag_39_VSFun rfl (by assumption)) ?_
   refine .mg rfl rfl rfl rfl rfl (.fieldAddr fo_41_1_VSMap rfl) ?_
   refine .mg rfl rfl rfl rfl rfl (.loadM ag_39_VSFun rfl (by assumption)) ?_
   refine .mg rfl rfl rfl rfl rfl (.fieldAddr fo_41_2_VSMap rfl) ?_
   refine .mg rfl rfl rfl rfl rfl (.load on_23_B rfl (by assumption)) ?_
   refine .callQg rfl rfl rfl rfl rfl rfl @Try.call56 rfl (l19Parts_c) ?_
   refine .mg rfl rfl rfl rfl rfl (.not rfl) ?_
   refine .m rfl rfl rfl (.pickF rfl rfl) ?_
   refine .nil ?_
   refine hK3 _ _ ?_
   refine .cond rfl (fun h20 => ?_) (fun h20 => ?_)
   ·
    try simp only [sps] at h20
    refine .seq (fun K5 hK5 => ?_)
    refine .region ?_
    refine .m rfl rfl rfl (.assign rfl) ?_
    refine .nil ?_
    refine hK5 _ _ ?_
    refine .ret ?_
    -- leaf e2
    refine hret _ _ ?_
    refine ⟨_, rfl, ?_⟩
    first
    | exact ⟨congrArg _ (by rw [Bool.eq_iff_iff, B_iff, decide_eq_true_eq]; exact ⟨fun hh => first2_neg.2 hh.2, fun hh => ⟨hM, first2_neg.1 hh⟩⟩), hle⟩
    | exact ⟨congrArg _ (B_false fun hh => absurd hh.1.fits (by assumption)), hle⟩
    | exact ⟨congrArg _ (B_false fun hh => h11 ⟨hh.1.s, hh.1.t, hh.1.sh⟩), hle⟩
   ·
    simp only [sps] at h20
    have hM : m.Shape := ⟨h11.1, h11.2.1, h11.2.2, h20⟩
    refine .skip ?_
    refine hK2 _ _ ?_
    refine .seq (fun K6 hK6 => ?_)
    refine .region ?_
    refine .m rfl rfl rfl (.fieldAddr fo_41_0_VSMap rfl) ?_
    refine .m rfl rfl rfl (.loadM ag_39_VSFun rfl (by assumption)) ?_
    refine .m rfl rfl rfl (.fieldAddr fo_41_1_VSMap rfl) ?_
    refine .m rfl rfl rfl (.loadM ag_39_VSFun rfl (by assumption)) ?_
    refine .m rfl rfl rfl (.fieldAddr fo_41_2_VSMap rfl) ?_
    refine .m rfl rfl rfl (.load on_23_B rfl (by assumption)) ?_
    refine .callQ rfl rfl rfl rfl @Try.call57 rfl (l19Unnatural_c) ?_
    refine .m rfl rfl rfl (.move rfl) ?_
    refine .m rfl rfl rfl (.extract rfl rfl) ?_
    refine .m rfl rfl rfl (.extract rfl rfl) ?_
    refine .m rfl rfl rfl (.assign rfl) ?_
    refine .m rfl rfl rfl (.assign rfl) ?_
    refine .nil ?_
    refine hK6 _ _ ?_
    refine .seq (fun K7 hK7 => ?_)
    refine .region ?_
    refine .m rfl rfl rfl (.move rfl) ?_
    refine .m rfl rfl rfl (.cmp rfl rfl rfl) ?_
    refine .m rfl rfl rfl (.assign rfl) ?_
    refine .nil ?_
    refine hK7 _ _ ?_
    refine .ret ?_
    -- leaf e3
    refine hret _ _ ?_
    refine ⟨_, rfl, ?_⟩
    first
    | exact ⟨congrArg _ (by rw [Bool.eq_iff_iff, B_iff, decide_eq_true_eq]; exact ⟨fun hh => first2_neg.2 hh.2, fun hh => ⟨hM, first2_neg.1 hh⟩⟩), hle⟩
    | exact ⟨congrArg _ (B_false fun hh => absurd hh.1.fits (by assumption)), hle⟩
    | exact ⟨congrArg _ (B_false fun hh => h11 ⟨hh.1.s, hh.1.t, hh.1.sh⟩), hle⟩
theorem rising_c {a : Option Addr} {xs : List Int} {H : GHeap} (h : Ints H a xs := by assumption) (hl : xs.length ≤ 1048576 := by omega) :
    GCalls Try.prog 63 [.slice a xs.length xs.length] H (Ret (.bool (B (Rising xs))) H) := by
  refine GCalls.body (N := 20) (rs := [.tmp 2]) Try.func63 rfl rfl rfl rfl (fun Qx hret hend => ?_)
  refine .forget (fr' := [(0, some _)]) ⟨rfl, trivial⟩ ?_
  refine .seq (fun K1 hK1 => ?_)
  refine .region ?_
  refine .m rfl rfl rfl (.assign rfl) ?_
  refine .nil ?_
  refine hK1 _ _ ?_
  refine .seq (fun K2 hK2 => ?_)
  refine .seq (fun K3 hK3 => ?_)
  refine .region ?_
  refine .m rfl rfl rfl (.assign rfl) ?_
  refine .nil ?_
  refine hK3 _ _ ?_
  refine .block ?_
  refine .loopR (σ := Nat) [(0, some _)] (fun k => [(3, some (.int .i64 (k : Int)))]) (fun k H' => H = H' ∧ 1 ≤ k ∧ k ≤ xs.length + 1 ∧ ∀ i, 1 ≤ i → i < k → i < xs.length → xs.getD (i - 1) 0 < xs.getD i 0) (fun k => xs.length + 1 - k) (1) ⟨rfl, trivial⟩ ⟨rfl, trivial⟩ ?_ ?_
  ·
   refine ⟨rfl, ?_⟩
   exact ⟨by omega, by omega, fun _ _ _ => by omega⟩
  ·
   rintro k _ ⟨rfl, hI⟩ KL1 hKL1
   refine .forget (fr' := [(3, some (.int .i64 (k : Int))), (0, some _)]) ⟨rfl, rfl, trivial⟩ ?_
   obtain ⟨hk0, hk, ha⟩ := hI
   have ek : ((k : Int) - 1).toNat = k - 1 := by omega
   refine .seq (fun K4 hK4 => ?_)
   refine .seq (fun K5 hK5 => ?_)
   refine .region ?_
   refine .m rfl rfl rfl (.move rfl) ?_
   refine .m rfl rfl rfl (.move rfl) ?_
   refine .m rfl rfl rfl (.len sl_22_A rfl) ?_
   refine .m rfl rfl rfl (.cmp rfl rfl rfl) ?_
   refine .nil ?_
   refine hK5 _ _ ?_
   refine .cond rfl (fun h7 => ?_) (fun h7 => ?_)
   ·
    try simp only [sps] at h7
    refine .skip ?_
    refine hK4 _ _ ?_
    refine .seq (fun K6 hK6 => ?_)
    refine .block ?_
    refine .seq (fun K7 hK7 => ?_)
    refine .regionD mixed_orders_B (.q 0 (.q 1 (.q 2 (.q 3 (.q 4 (.q 5 (.q 6 (.q 7 (.q 8 (.q 9 (.done))))))))))) (by kernel_rfl) ?_
    refine .m rfl rfl rfl rfl (.refl _) (.move rfl) ?_
    refine .m rfl rfl rfl rfl (.refl _) (.move rfl) ?_
    refine .m rfl rfl rfl rfl (.refl _) (.sub rfl rfl rfl (by omega) (by omega)) ?_
    refine .m rfl rfl rfl rfl (.refl _) (.idx1 sl_22_A (by assumption) rfl rfl (by omega) (by omega)) ?_
    refine .m rfl rfl rfl rfl (.refl _) (.loadI on_2_A (by assumption) rfl (by omega)) ?_
    refine .m rfl rfl rfl rfl (.refl _) (.move rfl) ?_
    refine .m rfl rfl rfl rfl (.refl _) (.move rfl) ?_
    refine .m rfl rfl rfl rfl (.refl _) (.idxN sl_22_A (by assumption) rfl rfl (by omega)) ?_
    refine .m rfl rfl rfl rfl (.refl _) (.loadI on_2_A (by assumption) rfl (by omega)) ?_
    refine .m rfl rfl rfl rfl (.refl _) (.cmp rfl rfl rfl) ?_
    refine .done ?_
    refine hK7 _ _ ?_
    refine .cond rfl (fun h19 => ?_) (fun h19 => ?_)
    ·
     try simp only [sps] at h19
     refine .seq (fun K8 hK8 => ?_)
     refine .region ?_
     refine .m rfl rfl rfl (.assign rfl) ?_
     refine .nil ?_
     refine hK8 _ _ ?_
     refine .ret ?_
     -- leaf e1
     refine hret _ _ ?_
     refine ⟨_, rfl, ?_⟩
     exact .of (congrArg _ (B_false fun hh => by have := hh k (by omega) (by omega); rw [ek] at h19; omega))
    ·
     try simp only [sps] at h19
     refine .skip ?_
     refine hK6 _ _ ?_
     refine .region ?_
     refine .m rfl rfl rfl (.move rfl) ?_
     refine .m rfl rfl rfl (.add rfl rfl rfl (by omega) (by omega)) ?_
     refine .m rfl rfl rfl (.assign rfl) ?_
     refine .nil ?_
     refine hKL1 (k + 1) _ _ ?_ ?_ ⟨rfl, rfl, trivial⟩
     ·
      refine ⟨rfl, ?_⟩
      refine ⟨by omega, by omega, fun i h1 hi h2 => ?_⟩
      by_cases e : i < k
      · exact ha i h1 e h2
      · obtain rfl : i = k := by omega
        rw [ek] at h19
        exact h19
     ·
      omega
   ·
    try simp only [sps] at h7
    refine .exit ?_
    refine hK2 _ _ ?_
    refine .seq (fun K9 hK9 => ?_)
    refine .region ?_
    refine .m rfl rfl rfl (.assign rfl) ?_
    refine .nil ?_
    refine hK9 _ _ ?_
    refine .ret ?_
    -- leaf e2
    refine hret _ _ ?_
    refine ⟨_, rfl, ?_⟩
    exact .of (congrArg _ (B_true fun i h1 h2 => ha i h1 (by omega) h2))
theorem l02Rises_c {a : Option Addr} {xs : List Int} {H : GHeap} (h : Ints H a xs := by assumption) (hl : xs.length ≤ 1048576 := by omega) :
    GCalls Try.prog 58 [.slice a xs.length xs.length] H (Ret (.bool (B (Rising xs))) H) := by
  refine GCalls.body (N := 20) (rs := [.tmp 2]) Try.func58 rfl rfl rfl rfl (fun Qx hret hend => ?_)
  refine .forget (fr' := [(0, some _)]) ⟨rfl, trivial⟩ ?_
  refine .seq (fun K1 hK1 => ?_)
  refine .region ?_
  refine .m rfl rfl rfl (.assign rfl) ?_
  refine .nil ?_
  refine hK1 _ _ ?_
  refine .seq (fun K2 hK2 => ?_)
  refine .seq (fun K3 hK3 => ?_)
  refine .region ?_
  refine .m rfl rfl rfl (.assign rfl) ?_
  refine .nil ?_
  refine hK3 _ _ ?_
  refine .block ?_
  refine .loopR (σ := Nat) [(0, some _)] (fun k => [(3, some (.int .i64 (k : Int)))]) (fun k H' => H = H' ∧ 1 ≤ k ∧ k ≤ xs.length + 1 ∧ ∀ i, 1 ≤ i → i < k → i < xs.length → xs.getD (i - 1) 0 < xs.getD i 0) (fun k => xs.length + 1 - k) (1) ⟨rfl, trivial⟩ ⟨rfl, trivial⟩ ?_ ?_
  ·
   refine ⟨rfl, ?_⟩
   exact ⟨by omega, by omega, fun _ _ _ => by omega⟩
  ·
   rintro k _ ⟨rfl, hI⟩ KL1 hKL1
   refine .forget (fr' := [(3, some (.int .i64 (k : Int))), (0, some _)]) ⟨rfl, rfl, trivial⟩ ?_
   obtain ⟨hk0, hk, ha⟩ := hI
   have ek : ((k : Int) - 1).toNat = k - 1 := by omega
   refine .seq (fun K4 hK4 => ?_)
   refine .seq (fun K5 hK5 => ?_)
   refine .region ?_
   refine .m rfl rfl rfl (.move rfl) ?_
   refine .m rfl rfl rfl (.move rfl) ?_
   refine .m rfl rfl rfl (.len sl_22_A rfl) ?_
   refine .m rfl rfl rfl (.cmp rfl rfl rfl) ?_
   refine .nil ?_
   refine hK5 _ _ ?_
   refine .cond rfl (fun h7 => ?_) (fun h7 => ?_)
   ·
    try simp only [sps] at h7
    refine .skip ?_
    refine hK4 _ _ ?_
    refine .seq (fun K6 hK6 => ?_)
    refine .block ?_
    refine .seq (fun K7 hK7 => ?_)
    refine .regionD mixed_orders_B (.q 0 (.q 1 (.q 2 (.q 3 (.q 4 (.q 5 (.q 6 (.q 7 (.q 8 (.q 9 (.done))))))))))) (by kernel_rfl) ?_
    refine .m rfl rfl rfl rfl (.refl _) (.move rfl) ?_
    refine .m rfl rfl rfl rfl (.refl _) (.move rfl) ?_
    refine .m rfl rfl rfl rfl (.refl _) (.idxN sl_22_A (by assumption) rfl rfl (by omega)) ?_
    refine .m rfl rfl rfl rfl (.refl _) (.loadI on_2_A (by assumption) rfl (by omega)) ?_
    refine .m rfl rfl rfl rfl (.refl _) (.move rfl) ?_
    refine .m rfl rfl rfl rfl (.refl _) (.move rfl) ?_
    refine .m rfl rfl rfl rfl (.refl _) (.sub rfl rfl rfl (by omega) (by omega)) ?_
    refine .m rfl rfl rfl rfl (.refl _) (.idx1 sl_22_A (by assumption) rfl rfl (by omega) (by omega)) ?_
    refine .m rfl rfl rfl rfl (.refl _) (.loadI on_2_A (by assumption) rfl (by omega)) ?_
    refine .m rfl rfl rfl rfl (.refl _) (.cmp rfl rfl rfl) ?_
    refine .done ?_
    refine hK7 _ _ ?_
    refine .cond rfl (fun h19 => ?_) (fun h19 => ?_)
    ·
     try simp only [sps] at h19
     refine .seq (fun K8 hK8 => ?_)
     refine .region ?_
     refine .m rfl rfl rfl (.assign rfl) ?_
     refine .nil ?_
     refine hK8 _ _ ?_
     refine .ret ?_
     -- leaf e1
     refine hret _ _ ?_
     refine ⟨_, rfl, ?_⟩
     exact .of (congrArg _ (B_false fun hh => by have := hh k (by omega) (by omega); rw [ek] at h19; omega))
    ·
     try simp only [sps] at h19
     refine .skip ?_
     refine hK6 _ _ ?_
     refine .region ?_
     refine .m rfl rfl rfl (.move rfl) ?_
     refine .m rfl rfl rfl (.add rfl rfl rfl (by omega) (by omega)) ?_
     refine .m rfl rfl rfl (.assign rfl) ?_
     refine .nil ?_
     refine hKL1 (k + 1) _ _ ?_ ?_ ⟨rfl, rfl, trivial⟩
     ·
      refine ⟨rfl, ?_⟩
      refine ⟨by omega, by omega, fun i h1 hi h2 => ?_⟩
      by_cases e : i < k
      · exact ha i h1 e h2
      · obtain rfl : i = k := by omega
        rw [ek] at h19
        exact h19
     ·
      omega
   ·
    try simp only [sps] at h7
    refine .exit ?_
    refine hK2 _ _ ?_
    refine .seq (fun K9 hK9 => ?_)
    refine .region ?_
    refine .m rfl rfl rfl (.assign rfl) ?_
    refine .nil ?_
    refine hK9 _ _ ?_
    refine .ret ?_
    -- leaf e2
    refine hret _ _ ?_
    refine ⟨_, rfl, ?_⟩
    exact .of (congrArg _ (B_true fun i h1 h2 => ha i h1 (by omega) h2))
theorem isPart_c {g o : Nat} {f : SFun} {p : SFunP} {m : Prt} {q : PrtP} {H : GHeap} (h : SFun.At H g o f p := by assumption) (hin : m.In H q := by assumption) (hI : f.Is := by assumption) (hs : m.Small := by assumption) :
    GCalls Try.prog 34 [.pointer (some ⟨g, o, none⟩), .agg (m.cells q).toArray] H (Ret (.bool (B (f.Part m.me))) H) := by
  refine GCalls.ret rfl ?_
  refine GCalls.body (N := 91) (rs := [.tmp 4]) Try.func34 rfl rfl rfl rfl (fun Qx hret hend => ?_)
  refine .forget (fr' := [(0, some _), (1, some _)]) ⟨rfl, rfl, trivial⟩ ?_
  have hle := GHeap.Le.refl H
  have base_h := h
  have base_hin := hin
  obtain ⟨fsh, c5, c6, i1, i2⟩ := h.get
  have hm : MemN _ _ _ _ _ := ⟨rfl, h.1⟩
  have hi := h.2
  have hmsh : MemN _ _ _ _ _ := ⟨rfl, fsh.1⟩
  have hish := fsh.2
  obtain ⟨d0, d1, d2, d3, d4, e1, e2, e3, e4⟩ := fsh.get
  have hS := hI.1
  have hC := hS.c.1
  obtain ⟨w1, w2⟩ := hs
  have q1 := hC.tl
  have q2 := hC.n40
  have q3 := hS.al
  have q4 := hS.zl
  have q5 := hC.obj
  refine .seq (fun K1 hK1 => ?_)
  refine .region ?_
  refine .r rfl rfl rfl (.boxR rfl sz_34_VPrt rfl) ?_
  rintro _ H3 ⟨g3, rfl, le3, ge3, at3⟩
  have nx_H3 := le3.1
  replace hle := hle.trans le3
  have lt_at3 := GHeap.lt_of_get at3
  replace h := base_h.mono hle
  replace hin := base_hin.mono hle
  clear fsh c5 c6 i1 i2 hm hi hmsh hish d0 d1 d2 d3 d4 e1 e2 e3 e4
  obtain ⟨fsh, c5, c6, i1, i2⟩ := h.get
  have hm : MemN _ _ _ _ _ := ⟨rfl, h.1⟩
  have hi := h.2
  have hmsh : MemN _ _ _ _ _ := ⟨rfl, fsh.1⟩
  have hish := fsh.2
  obtain ⟨d0, d1, d2, d3, d4, e1, e2, e3, e4⟩ := fsh.get
  have hb3 : Prt.At _ g3 0 m q := ⟨Mem.of_get at3, hin⟩
  obtain ⟨c03, i03⟩ := hb3.get
  have hm3 : MemN _ _ _ _ _ := ⟨rfl, hb3.1⟩
  have hi3 := hb3.2
  refine .m rfl rfl rfl (.assign rfl) ?_
  refine .nil ?_
  refine hK1 _ _ ?_
  refine .seq (fun K2 hK2 => ?_)
  refine .seq (fun K3 hK3 => ?_)
  refine .regionD mixed_orders_B (.q 0 (.q 1 (.q 2 (.q 3 (.q 4 (.q 5 (.q 6 (.q 7 (.q 8 (.done)))))))))) (by kernel_rfl) ?_
  refine .m rfl rfl rfl rfl (.refl _) (.fieldAddr fo_34_0_VPrt rfl) ?_
  refine .m rfl rfl rfl rfl (.refl _) (.load on_23_B rfl (by assumption)) ?_
  refine .m rfl rfl rfl rfl (.refl _) (.len sl_23_B rfl) ?_
  refine .m rfl rfl rfl rfl (.refl _) (.move rfl) ?_
  refine .m rfl rfl rfl rfl (.refl _) (.nilCheck rfl) ?_
  refine .m rfl rfl rfl rfl (.refl _) (.fieldAddr fo_39_1_P rfl) ?_
  refine .m rfl rfl rfl rfl (.refl _) (.load on_22_B rfl (by assumption)) ?_
  refine .m rfl rfl rfl rfl (.refl _) (.len sl_22_A rfl) ?_
  refine .m rfl rfl rfl rfl (.refl _) (.cmp rfl rfl rfl) ?_
  refine .done ?_
  refine hK3 _ _ ?_
  refine .cond rfl (fun h19 => ?_) (fun h19 => ?_)
  ·
   try simp only [sps] at h19
   refine .seq (fun K4 hK4 => ?_)
   refine .region ?_
   refine .m rfl rfl rfl (.assign rfl) ?_
   refine .nil ?_
   refine hK4 _ _ ?_
   refine .ret ?_
   -- leaf e1
   refine hret _ _ ?_
   refine ⟨_, rfl, ?_⟩
   exact ⟨congrArg _ (B_false fun hh => by have := hh.pl; omega), hle⟩
  ·
   try simp only [sps] at h19
   refine .skip ?_
   refine hK2 _ _ ?_
   refine .seq (fun K5 hK5 => ?_)
   refine .seq (fun K6 hK6 => ?_)
   refine .region ?_
   refine .m rfl rfl rfl (.fieldAddr fo_34_0_VPrt rfl) ?_
   refine .m rfl rfl rfl (.load on_23_B rfl (by assumption)) ?_
   refine .m rfl rfl rfl (.len sl_23_B rfl) ?_
   refine .m rfl rfl rfl (.move rfl) ?_
   refine .nil ?_
   refine hK6 _ _ ?_
   refine .block ?_
   refine .loopR (σ := Nat) [(0, some _), (3, some _), (21, some _), (22, some _)] (fun k => [(23, some (.int .i64 (k : Int)))]) (fun k H' => H3 = H' ∧ (k : Int) ≤ m.me.length ∧ ∀ x, x < k → Rising (m.me.getD x []) ∧ allIn (m.me.getD x []) (f.sz.getD x 0) = true) (fun k => (m.me.length - k : Int).toNat) (0) ⟨rfl, rfl, rfl, rfl, trivial⟩ ⟨rfl, trivial⟩ ?_ ?_
   ·
    refine ⟨rfl, ?_⟩
    exact ⟨by omega, fun _ _ => by omega⟩
   ·
    rintro k _ ⟨rfl, hI⟩ KL1 hKL1
    refine .forget (fr' := [(23, some (.int .i64 (k : Int))), (0, some _), (3, some _), (21, some _), (22, some _)]) ⟨rfl, rfl, rfl, rfl, rfl, trivial⟩ ?_
    obtain ⟨hk1, ha1⟩ := hI
    refine .seq (fun K7 hK7 => ?_)
    refine .region ?_
    refine .m rfl rfl rfl (.cmp rfl rfl rfl) ?_
    refine .nil ?_
    refine hK7 _ _ ?_
    refine .seq (fun K8 hK8 => ?_)
    refine .cond rfl (fun h24 => ?_) (fun h24 => ?_)
    ·
     simp only [sps] at h24
     have r1 := i03.2 k (by omega)
     have r2 := hS.sz k (by omega)
     have r3 := w2 k
     refine .skip ?_
     refine hK8 _ _ ?_
     refine .seq (fun K9 hK9 => ?_)
     refine .block ?_
     refine .seq (fun K10 hK10 => ?_)
     refine .region ?_
     refine .m rfl rfl rfl (.move rfl) ?_
     refine .m rfl rfl rfl (.idxN sl_23_B (Intss.sl (by assumption)) rfl rfl (by omega)) ?_
     refine .m rfl rfl rfl (.loadR on_22_B (by assumption) rfl (by omega)) ?_
     refine .m rfl rfl rfl (.assign rfl) ?_
     refine .m rfl rfl rfl (.assign rfl) ?_
     refine .nil ?_
     refine hK10 _ _ ?_
     refine .seq (fun K11 hK11 => ?_)
     refine .region ?_
     refine .m rfl rfl rfl (.move rfl) ?_
     refine .callQ rfl rfl rfl rfl @Try.call63 rfl (rising_c) ?_
     refine .m rfl rfl rfl (.not rfl) ?_
     refine .m rfl rfl rfl (.move rfl) ?_
     refine .split (fun h31 => ?_) (fun h31 => ?_)
     ·
      simp only [B_iff, B_not, Bool.not_eq_true', Bool.not_eq_false'] at h31
      refine .sg rfl rfl rfl rfl rfl ?_
      refine .sg rfl rfl rfl rfl rfl ?_
      refine .sg rfl rfl rfl rfl rfl ?_
      refine .sg rfl rfl rfl rfl rfl ?_
      refine .sg rfl rfl rfl rfl rfl ?_
      refine .sg rfl rfl rfl rfl rfl ?_
      refine .sg rfl rfl rfl rfl rfl ?_
      refine .sg rfl rfl rfl rfl rfl ?_
      refine .sg rfl rfl rfl rfl rfl ?_
      refine .sg rfl rfl rfl rfl rfl ?_
      refine .m rfl rfl rfl (.pickT rfl rfl) ?_
      refine .nil ?_
      refine hK11 _ _ ?_
      refine .condT rfl ?_
      refine .seq (fun K12 hK12 => ?_)
      refine .region ?_
      refine .m rfl rfl rfl (.assign rfl) ?_
      refine .nil ?_
      refine hK12 _ _ ?_
      refine .ret ?_
      -- leaf e2
      refine hret _ _ ?_
      refine ⟨_, rfl, ?_⟩
      exact ⟨congrArg _ (B_false fun hh => h31 (hh.rs k (by omega)).1), hle⟩
     ·
      simp only [B_iff, B_not, Bool.not_eq_true', Bool.not_eq_false'] at h31
      refine .mg rfl rfl rfl rfl rfl (.move rfl) ?_
      refine .mg rfl rfl rfl rfl rfl (.move rfl) ?_
      refine .mg rfl rfl rfl rfl rfl (.nilCheck rfl) ?_
      refine .mg rfl rfl rfl rfl rfl (.fieldAddr fo_39_1_P rfl) ?_
      refine .mg rfl rfl rfl rfl rfl (.load on_22_B rfl (by assumption)) ?_
      refine .mg rfl rfl rfl rfl rfl (.move rfl) ?_
      refine .mg rfl rfl rfl rfl rfl (.idxN sl_22_A (by assumption) rfl rfl (by omega)) ?_
      refine .mg rfl rfl rfl rfl rfl (.loadI on_2_A (by assumption) rfl (by omega)) ?_
      refine .callQg rfl rfl rfl rfl rfl rfl @Try.call64 rfl (within_c) ?_
      refine .mg rfl rfl rfl rfl rfl (.not rfl) ?_
      refine .m rfl rfl rfl (.pickF rfl rfl) ?_
      refine .nil ?_
      refine hK11 _ _ ?_
      refine .cond rfl (fun h42 => ?_) (fun h42 => ?_)
      ·
       simp only [B_iff, B_not, Bool.not_eq_true', Bool.not_eq_false'] at h42
       refine .seq (fun K13 hK13 => ?_)
       refine .region ?_
       refine .m rfl rfl rfl (.assign rfl) ?_
       refine .nil ?_
       refine hK13 _ _ ?_
       refine .ret ?_
       -- leaf e3
       refine hret _ _ ?_
       refine ⟨_, rfl, ?_⟩
       exact ⟨congrArg _ (B_false fun hh => by rw [(hh.rs k (by omega)).2] at h42; cases h42), hle⟩
      ·
       simp only [B_iff, B_not, Bool.not_eq_true', Bool.not_eq_false'] at h42
       refine .skip ?_
       refine hK9 _ _ ?_
       refine .region ?_
       refine .m rfl rfl rfl (.add rfl rfl rfl (by omega) (by omega)) ?_
       refine .m rfl rfl rfl (.move rfl) ?_
       refine .nil ?_
       refine hKL1 (k + 1) _ _ ?_ ?_ ⟨rfl, rfl, rfl, rfl, rfl, trivial⟩
       ·
        refine ⟨rfl, ?_⟩
        refine ⟨by omega, fun x hx => ?_⟩
        by_cases hltq : x < k
        · exact ha1 x hltq
        · obtain rfl : x = k := by omega
          exact ⟨h31, h42⟩
       ·
        omega
    ·
     try simp only [sps] at h24
     refine .exit ?_
     refine hK5 _ _ ?_
     refine .seq (fun K14 hK14 => ?_)
     refine .seq (fun K15 hK15 => ?_)
     refine .region ?_
     refine .m rfl rfl rfl (.move rfl) ?_
     refine .m rfl rfl rfl (.nilCheck rfl) ?_
     refine .m rfl rfl rfl (.fieldAddr fo_39_2_P rfl) ?_
     refine .m rfl rfl rfl (.load on_23_B rfl (by assumption)) ?_
     refine .m rfl rfl rfl (.len sl_23_B rfl) ?_
     refine .m rfl rfl rfl (.move rfl) ?_
     refine .nil ?_
     refine hK15 _ _ ?_
     refine .block ?_
     refine .loopR (σ := Nat) [(0, some _), (3, some _), (47, some _), (48, some _)] (fun a => [(49, some (.int .i64 (a : Int)))]) (fun a H' => H3 = H' ∧ (a : Int) ≤ f.ac.length ∧ ∀ a', a' < a → ∀ i, i < (m.me.getD (f.sh.src.getD a' 0).toNat []).length → (m.me.getD (f.sh.tgt.getD a' 0).toNat []).contains ((f.ac.getD a' []).getD ((m.me.getD (f.sh.src.getD a' 0).toNat []).getD i 0).toNat 0) = true) (fun a => (f.ac.length - a : Int).toNat) (0) ⟨rfl, rfl, rfl, rfl, trivial⟩ ⟨rfl, trivial⟩ ?_ ?_
     ·
      refine ⟨rfl, ?_⟩
      exact ⟨by omega, fun _ _ => by omega⟩
     ·
      rintro a _ ⟨rfl, hI⟩ KL2 hKL2
      refine .forget (fr' := [(49, some (.int .i64 (a : Int))), (0, some _), (3, some _), (47, some _), (48, some _)]) ⟨rfl, rfl, rfl, rfl, rfl, trivial⟩ ?_
      obtain ⟨hk2, ha2⟩ := hI
      refine .seq (fun K16 hK16 => ?_)
      refine .region ?_
      refine .m rfl rfl rfl (.cmp rfl rfl rfl) ?_
      refine .nil ?_
      refine hK16 _ _ ?_
      refine .seq (fun K17 hK17 => ?_)
      refine .cond rfl (fun h50 => ?_) (fun h50 => ?_)
      ·
       simp only [sps] at h50
       have r1 := hS.ends (a := a) (by omega)
       have r2 := i03.2 (f.sh.src.getD a 0).toNat (by omega)
       have r3 := i03.2 (f.sh.tgt.getD a 0).toNat (by omega)
       have r4 := i2.2 a (by omega)
       have r5 := w2 (f.sh.src.getD a 0).toNat
       have r6 := w2 (f.sh.tgt.getD a 0).toNat
       refine .skip ?_
       refine hK17 _ _ ?_
       refine .seq (fun K18 hK18 => ?_)
       refine .block ?_
       refine .seq (fun K19 hK19 => ?_)
       refine .region ?_
       refine .m rfl rfl rfl (.move rfl) ?_
       refine .m rfl rfl rfl (.idxN sl_23_B (Intss.sl (by assumption)) rfl rfl (by omega)) ?_
       refine .m rfl rfl rfl (.loadR on_22_B (by assumption) rfl (by omega)) ?_
       refine .m rfl rfl rfl (.assign rfl) ?_
       refine .m rfl rfl rfl (.assign rfl) ?_
       refine .nil ?_
       refine hK19 _ _ ?_
       refine .seq (fun K20 hK20 => ?_)
       refine .regionD mixed_orders_B (.q 0 (.q 1 (.q 2 (.q 3 (.q 4 (.q 5 (.q 6 (.q 7 (.q 8 (.q 9 (.q 10 (.q 11 (.q 12 (.q 13 (.done))))))))))))))) (by kernel_rfl) ?_
       refine .m rfl rfl rfl rfl (.refl _) (.fieldAddr fo_34_0_VPrt rfl) ?_
       refine .m rfl rfl rfl rfl (.refl _) (.load on_23_B rfl (by assumption)) ?_
       refine .m rfl rfl rfl rfl (.refl _) (.move rfl) ?_
       refine .m rfl rfl rfl rfl (.refl _) (.nilCheck rfl) ?_
       refine .m rfl rfl rfl rfl (.refl _) (.fieldAddr fo_39_0_P rfl) ?_
       refine .m rfl rfl rfl rfl (.refl _) (.fieldAddr fo_37_1_B rfl) ?_
       refine .m rfl rfl rfl rfl (.refl _) (.load on_22_B rfl (by assumption)) ?_
       refine .m rfl rfl rfl rfl (.refl _) (.move rfl) ?_
       refine .m rfl rfl rfl rfl (.refl _) (.idxN sl_22_A (by assumption) rfl rfl (by omega)) ?_
       refine .m rfl rfl rfl rfl (.refl _) (.loadI on_2_A (by assumption) rfl (by omega)) ?_
       refine .m rfl rfl rfl rfl (.refl _) (.idx1 sl_23_B (Intss.sl (by assumption)) rfl rfl (by omega) (by omega)) ?_
       refine .m rfl rfl rfl rfl (.refl _) (.loadR on_22_B (by assumption) rfl (by omega)) ?_
       refine .m rfl rfl rfl rfl (.refl _) (.len sl_22_A rfl) ?_
       refine .m rfl rfl rfl rfl (.refl _) (.move rfl) ?_
       refine .done ?_
       refine hK20 _ _ ?_
       refine .block ?_
       refine .loopR (σ := Nat) [(0, some _), (3, some _), (7, some _), (8, some _), (47, some _), (48, some _), (49, some _), (65, some _), (66, some _)] (fun l => [(67, some (.int .i64 (l : Int)))]) (fun l H' => H3 = H' ∧ (l : Int) ≤ (m.me.getD (f.sh.src.getD a 0).toNat []).length ∧ ∀ i, i < l → (m.me.getD (f.sh.tgt.getD a 0).toNat []).contains ((f.ac.getD a []).getD ((m.me.getD (f.sh.src.getD a 0).toNat []).getD i 0).toNat 0) = true) (fun l => ((m.me.getD (f.sh.src.getD a 0).toNat []).length - l : Int).toNat) (0) ⟨rfl, rfl, rfl, rfl, rfl, rfl, rfl, rfl, rfl, trivial⟩ ⟨rfl, trivial⟩ ?_ ?_
       ·
        refine ⟨rfl, ?_⟩
        exact ⟨by omega, fun _ _ => by omega⟩
       ·
        rintro l _ ⟨rfl, hI⟩ KL3 hKL3
        refine .forget (fr' := [(67, some (.int .i64 (l : Int))), (0, some _), (3, some _), (7, some _), (8, some _), (47, some _), (48, some _), (49, some _), (65, some _), (66, some _)]) ⟨rfl, rfl, rfl, rfl, rfl, rfl, rfl, rfl, rfl, rfl, trivial⟩ ?_
        obtain ⟨hk3, ha3⟩ := hI
        refine .seq (fun K21 hK21 => ?_)
        refine .region ?_
        refine .m rfl rfl rfl (.cmp rfl rfl rfl) ?_
        refine .nil ?_
        refine hK21 _ _ ?_
        refine .seq (fun K22 hK22 => ?_)
        refine .cond rfl (fun h68 => ?_) (fun h68 => ?_)
        ·
         simp only [sps] at h68
         have u1 := allIn_iff.1 (ha1 (f.sh.src.getD a 0).toNat (by omega)).2 l (by omega)
         refine .skip ?_
         refine hK22 _ _ ?_
         refine .seq (fun K23 hK23 => ?_)
         refine .block ?_
         refine .seq (fun K24 hK24 => ?_)
         refine .region ?_
         refine .m rfl rfl rfl (.idxN sl_22_A (by assumption) rfl rfl (by omega)) ?_
         refine .m rfl rfl rfl (.loadI on_2_A (by assumption) rfl (by omega)) ?_
         refine .m rfl rfl rfl (.assign rfl) ?_
         refine .nil ?_
         refine hK24 _ _ ?_
         refine .seq (fun K25 hK25 => ?_)
         refine .regionD mixed_orders_B (.q 0 (.q 1 (.q 2 (.q 3 (.q 4 (.q 5 (.q 6 (.q 7 (.q 8 (.q 9 (.q 10 (.q 11 (.q 12 (.q 13 (.q 14 (.q 15 (.c 16 0 (.q 17 (.done))))))))))))))))))) (by kernel_rfl) ?_
         refine .m rfl rfl rfl rfl (.refl _) (.fieldAddr fo_34_0_VPrt rfl) ?_
         refine .m rfl rfl rfl rfl (.refl _) (.load on_23_B rfl (by assumption)) ?_
         refine .m rfl rfl rfl rfl (.refl _) (.move rfl) ?_
         refine .m rfl rfl rfl rfl (.refl _) (.nilCheck rfl) ?_
         refine .m rfl rfl rfl rfl (.refl _) (.fieldAddr fo_39_0_P rfl) ?_
         refine .m rfl rfl rfl rfl (.refl _) (.fieldAddr fo_37_2_B rfl) ?_
         refine .m rfl rfl rfl rfl (.refl _) (.load on_22_B rfl (by assumption)) ?_
         refine .m rfl rfl rfl rfl (.refl _) (.move rfl) ?_
         refine .m rfl rfl rfl rfl (.refl _) (.idxN sl_22_A (by assumption) rfl rfl (by omega)) ?_
         refine .m rfl rfl rfl rfl (.refl _) (.loadI on_2_A (by assumption) rfl (by omega)) ?_
         refine .m rfl rfl rfl rfl (.refl _) (.idx1 sl_23_B (Intss.sl (by assumption)) rfl rfl (by omega) (by omega)) ?_
         refine .m rfl rfl rfl rfl (.refl _) (.loadR on_22_B (by assumption) rfl (by omega)) ?_
         refine .m rfl rfl rfl rfl (.refl _) (.move rfl) ?_
         refine .m rfl rfl rfl rfl (.refl _) (.move rfl) ?_
         refine .m rfl rfl rfl rfl (.refl _) (.idx1 sl_22_A (by assumption) rfl rfl (by omega) (by omega)) ?_
         refine .m rfl rfl rfl rfl (.refl _) (.loadI on_2_A (by assumption) rfl (by omega)) ?_
         refine .callQ0 rfl rfl rfl rfl rfl @Try.call65 rfl (has_c) ?_
         refine .m rfl rfl rfl rfl (.refl _) (.not rfl) ?_
         refine .done ?_
         refine hK25 _ _ ?_
         refine .cond rfl (fun h88 => ?_) (fun h88 => ?_)
         ·
          simp only [Bool.not_eq_true', Bool.not_eq_false'] at h88
          refine .seq (fun K26 hK26 => ?_)
          refine .region ?_
          refine .m rfl rfl rfl (.assign rfl) ?_
          refine .nil ?_
          refine hK26 _ _ ?_
          refine .ret ?_
          -- leaf e4
          refine hret _ _ ?_
          refine ⟨_, rfl, ?_⟩
          exact ⟨congrArg _ (B_false fun hh => by rw [hh.cl a (by omega) l (by omega)] at h88; cases h88), hle⟩
         ·
          simp only [Bool.not_eq_true', Bool.not_eq_false'] at h88
          refine .skip ?_
          refine hK23 _ _ ?_
          refine .region ?_
          refine .m rfl rfl rfl (.add rfl rfl rfl (by omega) (by omega)) ?_
          refine .m rfl rfl rfl (.move rfl) ?_
          refine .nil ?_
          refine hKL3 (l + 1) _ _ ?_ ?_ ⟨rfl, rfl, rfl, rfl, rfl, rfl, rfl, rfl, rfl, rfl, trivial⟩
          ·
           refine ⟨rfl, ?_⟩
           refine ⟨by omega, fun i hx => ?_⟩
           by_cases hltq : i < l
           · exact ha3 i hltq
           · obtain rfl : i = l := by omega
             exact h88
          ·
           omega
        ·
         try simp only [sps] at h68
         refine .exit ?_
         refine hK18 _ _ ?_
         refine .region ?_
         refine .m rfl rfl rfl (.add rfl rfl rfl (by omega) (by omega)) ?_
         refine .m rfl rfl rfl (.move rfl) ?_
         refine .nil ?_
         refine hKL2 (a + 1) _ _ ?_ ?_ ⟨rfl, rfl, rfl, rfl, rfl, trivial⟩
         ·
          refine ⟨rfl, ?_⟩
          refine ⟨by omega, fun a' hx => ?_⟩
          by_cases hltq : a' < a
          · exact ha2 a' hltq
          · obtain rfl : a' = a := by omega
            exact fun i hi => ha3 i (by omega)
         ·
          omega
      ·
       try simp only [sps] at h50
       refine .exit ?_
       refine hK14 _ _ ?_
       refine .seq (fun K27 hK27 => ?_)
       refine .region ?_
       refine .m rfl rfl rfl (.assign rfl) ?_
       refine .nil ?_
       refine hK27 _ _ ?_
       refine .ret ?_
       -- leaf e5
       refine hret _ _ ?_
       refine ⟨_, rfl, ?_⟩
       exact ⟨congrArg _ (B_true ⟨by omega, fun x hx => ha1 x (by omega), fun a ha => ha2 a (by omega)⟩), hle⟩
theorem slA_mem1 {H : GHeap} {k n i : Nat} {f : Nat → Value} (h : SlA H (some ⟨k, 0, none⟩) n f) (hi : i < n) : MemN H k (0 + i) 1 [f i] := by
  refine ⟨rfl, fun j v hv => ?_⟩
  rcases h with h | ⟨g, o, e, h⟩
  · omega
  · cases e
    have := h i hi
    match j, hv with
    | 0, hv => simp at hv; subst hv; exact this
theorem l25Part_c {f : SFun} {p : SFunP} {me : List (List Int)} {a : Option Addr} {r : Nat → Option Addr} {H : GHeap} (hin : f.In H p := by assumption) (hm : Intss H a me r := by assumption) (hI : f.Is := by assumption) (w1 : me.length ≤ 1048576 := by omega) (w2 : ∀ i, (me.getD i []).length ≤ 1048576 := by assumption) :
    GCalls Try.prog 30 [.agg (f.cells p).toArray, .slice a me.length me.length] H (Ret (.bool (B (f.Part me))) H) := by
  refine GCalls.ret rfl ?_
  refine GCalls.body (N := 89) (rs := [.tmp 4]) Try.func30 rfl rfl rfl rfl (fun Qx hret hend => ?_)
  refine .forget (fr' := [(0, some _), (1, some _)]) ⟨rfl, rfl, trivial⟩ ?_
  have hle := GHeap.Le.refl H
  have base_hin := hin
  have base_hm := hm
  have hS := hI.1
  have hC := hS.c.1
  have q1 := hC.tl
  have q2 := hC.n40
  have q3 := hS.al
  have q4 := hS.zl
  have q5 := hC.obj
  refine .seq (fun K1 hK1 => ?_)
  refine .region ?_
  refine .r rfl rfl rfl (.boxR rfl sz_39_VSFun rfl) ?_
  rintro _ H2 ⟨g2, rfl, le2, ge2, at2⟩
  have nx_H2 := le2.1
  replace hle := hle.trans le2
  have lt_at2 := GHeap.lt_of_get at2
  replace hin := base_hin.mono hle
  replace hm := base_hm.mono hle
  have hb2 : SFun.At _ g2 0 f p := ⟨Mem.of_get at2, hin⟩
  obtain ⟨fsh2, c52, c62, i12, i22⟩ := hb2.get
  have hm2 : MemN _ _ _ _ _ := ⟨rfl, hb2.1⟩
  have hi2 := hb2.2
  have hmsh2 : MemN _ _ _ _ _ := ⟨rfl, fsh2.1⟩
  have hish2 := fsh2.2
  refine .m rfl rfl rfl (.assign rfl) ?_
  refine .nil ?_
  refine hK1 _ _ ?_
  refine .seq (fun K2 hK2 => ?_)
  refine .seq (fun K3 hK3 => ?_)
  refine .region ?_
  obtain ⟨d0, d1, d2, d3, d4, e1, e2, e3, e4⟩ := fsh2.get
  refine .m rfl rfl rfl (.move rfl) ?_
  refine .m rfl rfl rfl (.len sl_23_B rfl) ?_
  refine .m rfl rfl rfl (.fieldAddr fo_39_1_P rfl) ?_
  refine .m rfl rfl rfl (.load on_22_B rfl (by assumption)) ?_
  refine .m rfl rfl rfl (.len sl_22_A rfl) ?_
  refine .m rfl rfl rfl (.cmp rfl rfl rfl) ?_
  refine .nil ?_
  refine hK3 _ _ ?_
  refine .cond rfl (fun h15 => ?_) (fun h15 => ?_)
  ·
   try simp only [sps] at h15
   refine .seq (fun K4 hK4 => ?_)
   refine .region ?_
   refine .m rfl rfl rfl (.assign rfl) ?_
   refine .nil ?_
   refine hK4 _ _ ?_
   refine .ret ?_
   -- leaf e1
   refine hret _ _ ?_
   refine ⟨_, rfl, ?_⟩
   exact ⟨congrArg _ (B_false fun hh => by have := hh.pl; omega), hle⟩
  ·
   try simp only [sps] at h15
   refine .skip ?_
   refine hK2 _ _ ?_
   refine .seq (fun K5 hK5 => ?_)
   refine .seq (fun K6 hK6 => ?_)
   refine .region ?_
   refine .m rfl rfl rfl (.assign rfl) ?_
   refine .nil ?_
   refine hK6 _ _ ?_
   refine .block ?_
   refine .loopR (σ := Nat) [(1, some _), (2, some _)] (fun k => [(5, some (.int .i64 (k : Int)))]) (fun k H' => H2 = H' ∧ (k : Int) ≤ me.length ∧ ∀ x, x < k → Rising (me.getD x []) ∧ allIn (me.getD x []) (f.sz.getD x 0) = true) (fun k => (me.length - k : Int).toNat) (0) ⟨rfl, rfl, trivial⟩ ⟨rfl, trivial⟩ ?_ ?_
   ·
    refine ⟨rfl, ?_⟩
    exact ⟨by omega, fun _ _ => by omega⟩
   ·
    rintro k _ ⟨rfl, hI⟩ KL1 hKL1
    refine .forget (fr' := [(5, some (.int .i64 (k : Int))), (1, some _), (2, some _)]) ⟨rfl, rfl, rfl, trivial⟩ ?_
    obtain ⟨hk1, ha1⟩ := hI
    refine .seq (fun K7 hK7 => ?_)
    refine .seq (fun K8 hK8 => ?_)
    refine .region ?_
    refine .m rfl rfl rfl (.move rfl) ?_
    refine .m rfl rfl rfl (.move rfl) ?_
    refine .m rfl rfl rfl (.len sl_23_B rfl) ?_
    refine .m rfl rfl rfl (.cmp rfl rfl rfl) ?_
    refine .nil ?_
    refine hK8 _ _ ?_
    refine .cond rfl (fun h19 => ?_) (fun h19 => ?_)
    ·
     simp only [sps] at h19
     have r1 := hm.2 k (by omega)
     have r2 := hS.sz k (by omega)
     have r3 := w2 k
     refine .skip ?_
     refine hK7 _ _ ?_
     refine .seq (fun K9 hK9 => ?_)
     refine .block ?_
     refine .seq (fun K10 hK10 => ?_)
     refine .regionD mixed_orders_B (.q 0 (.q 1 (.q 2 (.q 3 (.c 4 0 (.q 5 (.q 6 (.q 7 (.q 8 (.q 9 (.q 10 (.q 11 (.q 12 (.q 13 (.q 14 (.q 15 (.c 16 0 (.q 17 (.q 18 (.done)))))))))))))))))))) (by kernel_rfl) ?_
     refine .m rfl rfl rfl rfl (.refl _) (.move rfl) ?_
     refine .m rfl rfl rfl rfl (.refl _) (.move rfl) ?_
     refine .m rfl rfl rfl rfl (.refl _) (.idxN sl_23_B (Intss.sl (by assumption)) rfl rfl (by omega)) ?_
     refine .m rfl rfl rfl rfl (.refl _) (.loadR on_22_B (by assumption) rfl (by omega)) ?_
     refine .callQ0 rfl rfl rfl rfl rfl @Try.call58 rfl (l02Rises_c) ?_
     refine .m rfl rfl rfl rfl (.refl _) (.not rfl) ?_
     refine .m rfl rfl rfl rfl (.refl _) (.move rfl) ?_
     refine .split (fun h28 => ?_) (fun h28 => ?_)
     ·
      simp only [B_iff, B_not, Bool.not_eq_true', Bool.not_eq_false'] at h28
      refine .sg rfl rfl rfl rfl rfl rfl ?_
      refine .sg rfl rfl rfl rfl rfl rfl ?_
      refine .sg rfl rfl rfl rfl rfl rfl ?_
      refine .sg rfl rfl rfl rfl rfl rfl ?_
      refine .sg rfl rfl rfl rfl rfl rfl ?_
      refine .sg rfl rfl rfl rfl rfl rfl ?_
      refine .sg rfl rfl rfl rfl rfl rfl ?_
      refine .sg rfl rfl rfl rfl rfl rfl ?_
      refine .sg rfl rfl rfl rfl rfl rfl ?_
      refine .sgc rfl rfl rfl rfl rfl rfl ?_
      refine .sg rfl rfl rfl rfl rfl rfl ?_
      refine .m rfl rfl rfl rfl (.refl _) (.pickT rfl rfl) ?_
      refine .done ?_
      refine hK10 _ _ ?_
      refine .condT rfl ?_
      refine .seq (fun K11 hK11 => ?_)
      refine .region ?_
      refine .m rfl rfl rfl (.assign rfl) ?_
      refine .nil ?_
      refine hK11 _ _ ?_
      refine .ret ?_
      -- leaf e2
      refine hret _ _ ?_
      refine ⟨_, rfl, ?_⟩
      exact ⟨congrArg _ (B_false fun hh => h28 (hh.rs k (by omega)).1), hle⟩
     ·
      simp only [B_iff, B_not, Bool.not_eq_true', Bool.not_eq_false'] at h28
      refine .mg rfl rfl rfl rfl rfl rfl (.refl _) (.fieldAddr fo_39_1_P rfl) ?_
      refine .mg rfl rfl rfl rfl rfl rfl (.refl _) (.load on_22_B rfl (by assumption)) ?_
      refine .mg rfl rfl rfl rfl rfl rfl (.refl _) (.move rfl) ?_
      refine .mg rfl rfl rfl rfl rfl rfl (.refl _) (.idxN sl_22_A (by assumption) rfl rfl (by omega)) ?_
      refine .mg rfl rfl rfl rfl rfl rfl (.refl _) (.loadI on_2_A (by assumption) rfl (by omega)) ?_
      refine .mg rfl rfl rfl rfl rfl rfl (.refl _) (.move rfl) ?_
      refine .mg rfl rfl rfl rfl rfl rfl (.refl _) (.move rfl) ?_
      refine .mg rfl rfl rfl rfl rfl rfl (.refl _) (.idxN sl_23_B (Intss.sl (by assumption)) rfl rfl (by omega)) ?_
      refine .mg rfl rfl rfl rfl rfl rfl (.refl _) (.loadR on_22_B (by assumption) rfl (by omega)) ?_
      refine .callQ0g rfl rfl rfl rfl rfl rfl rfl @Try.call59 rfl (l01Map_c) ?_
      refine .mg rfl rfl rfl rfl rfl rfl (.refl _) (.not rfl) ?_
      refine .m rfl rfl rfl rfl (.refl _) (.pickF rfl rfl) ?_
      refine .done ?_
      refine hK10 _ _ ?_
      refine .cond rfl (fun h40 => ?_) (fun h40 => ?_)
      ·
       simp only [B_iff, B_not, Bool.not_eq_true', Bool.not_eq_false'] at h40
       refine .seq (fun K12 hK12 => ?_)
       refine .region ?_
       refine .m rfl rfl rfl (.assign rfl) ?_
       refine .nil ?_
       refine hK12 _ _ ?_
       refine .ret ?_
       -- leaf e3
       refine hret _ _ ?_
       refine ⟨_, rfl, ?_⟩
       exact ⟨congrArg _ (B_false fun hh => by rw [(hh.rs k (by omega)).2] at h40; cases h40), hle⟩
      ·
       simp only [B_iff, B_not, Bool.not_eq_true', Bool.not_eq_false'] at h40
       refine .skip ?_
       refine hK9 _ _ ?_
       refine .region ?_
       refine .m rfl rfl rfl (.move rfl) ?_
       refine .m rfl rfl rfl (.add rfl rfl rfl (by omega) (by omega)) ?_
       refine .m rfl rfl rfl (.assign rfl) ?_
       refine .nil ?_
       refine hKL1 (k + 1) _ _ ?_ ?_ ⟨rfl, rfl, rfl, trivial⟩
       ·
        refine ⟨rfl, ?_⟩
        refine ⟨by omega, fun x hx => ?_⟩
        by_cases hltq : x < k
        · exact ha1 x hltq
        · obtain rfl : x = k := by omega
          exact ⟨h28, h40⟩
       ·
        omega
    ·
     try simp only [sps] at h19
     refine .exit ?_
     refine hK5 _ _ ?_
     refine .seq (fun K13 hK13 => ?_)
     refine .seq (fun K14 hK14 => ?_)
     refine .region ?_
     refine .m rfl rfl rfl (.assign rfl) ?_
     refine .nil ?_
     refine hK14 _ _ ?_
     refine .block ?_
     refine .loopR (σ := Nat) [(1, some _), (2, some _)] (fun b => [(6, some (.int .i64 (b : Int)))]) (fun b H' => H2 = H' ∧ (b : Int) ≤ f.ac.length ∧ ∀ a', a' < b → ∀ i, i < (me.getD (f.sh.src.getD a' 0).toNat []).length → (me.getD (f.sh.tgt.getD a' 0).toNat []).contains ((f.ac.getD a' []).getD ((me.getD (f.sh.src.getD a' 0).toNat []).getD i 0).toNat 0) = true) (fun b => (f.ac.length - b : Int).toNat) (0) ⟨rfl, rfl, trivial⟩ ⟨rfl, trivial⟩ ?_ ?_
     ·
      refine ⟨rfl, ?_⟩
      exact ⟨by omega, fun _ _ => by omega⟩
     ·
      rintro b _ ⟨rfl, hI⟩ KL2 hKL2
      refine .forget (fr' := [(6, some (.int .i64 (b : Int))), (1, some _), (2, some _)]) ⟨rfl, rfl, rfl, trivial⟩ ?_
      obtain ⟨hk2, ha2⟩ := hI
      refine .seq (fun K15 hK15 => ?_)
      refine .seq (fun K16 hK16 => ?_)
      refine .region ?_
      refine .m rfl rfl rfl (.move rfl) ?_
      refine .m rfl rfl rfl (.fieldAddr fo_39_2_P rfl) ?_
      refine .m rfl rfl rfl (.load on_23_B rfl (by assumption)) ?_
      refine .m rfl rfl rfl (.len sl_23_B rfl) ?_
      refine .m rfl rfl rfl (.cmp rfl rfl rfl) ?_
      refine .nil ?_
      refine hK16 _ _ ?_
      refine .cond rfl (fun h45 => ?_) (fun h45 => ?_)
      ·
       simp only [sps] at h45
       have r1 := hS.ends (a := b) (by omega)
       have r2 := hm.2 (f.sh.src.getD b 0).toNat (by omega)
       have r3 := hm.2 (f.sh.tgt.getD b 0).toNat (by omega)
       have r4 := i22.2 b (by omega)
       have r5 := w2 (f.sh.src.getD b 0).toNat
       have r6 := w2 (f.sh.tgt.getD b 0).toNat
       refine .skip ?_
       refine hK15 _ _ ?_
       refine .seq (fun K17 hK17 => ?_)
       refine .block ?_
       refine .seq (fun K18 hK18 => ?_)
       refine .regionD mixed_orders_B (.q 0 (.q 1 (.q 2 (.q 3 (.q 4 (.q 5 (.q 6 (.q 7 (.q 8 (.q 9 (.q 10 (.q 11 (.q 12 (.q 13 (.done))))))))))))))) (by kernel_rfl) ?_
       refine .m rfl rfl rfl rfl (.refl _) (.fieldAddr fo_39_0_P rfl) ?_
       refine .m rfl rfl rfl rfl (.refl _) (.fieldAddr fo_37_1_B rfl) ?_
       refine .m rfl rfl rfl rfl (.refl _) (.load on_22_B rfl (by assumption)) ?_
       refine .m rfl rfl rfl rfl (.refl _) (.move rfl) ?_
       refine .m rfl rfl rfl rfl (.refl _) (.idxN sl_22_A (by assumption) rfl rfl (by omega)) ?_
       refine .m rfl rfl rfl rfl (.refl _) (.loadI on_2_A (by assumption) rfl (by omega)) ?_
       refine .m rfl rfl rfl rfl (.refl _) (.fieldAddr fo_39_0_P rfl) ?_
       refine .m rfl rfl rfl rfl (.refl _) (.fieldAddr fo_37_2_B rfl) ?_
       refine .m rfl rfl rfl rfl (.refl _) (.load on_22_B rfl (by assumption)) ?_
       refine .m rfl rfl rfl rfl (.refl _) (.move rfl) ?_
       refine .m rfl rfl rfl rfl (.refl _) (.idxN sl_22_A (by assumption) rfl rfl (by omega)) ?_
       refine .m rfl rfl rfl rfl (.refl _) (.loadI on_2_A (by assumption) rfl (by omega)) ?_
       refine .m rfl rfl rfl rfl (.refl _) (.assign rfl) ?_
       refine .m rfl rfl rfl rfl (.refl _) (.assign rfl) ?_
       refine .done ?_
       refine hK18 _ _ ?_
       refine .seq (fun K19 hK19 => ?_)
       refine .region ?_
       refine .m rfl rfl rfl (.assign rfl) ?_
       refine .nil ?_
       refine hK19 _ _ ?_
       refine .block ?_
       refine .loopR (σ := Nat) [(1, some _), (2, some _), (6, some _), (7, some _), (8, some _)] (fun l => [(9, some (.int .i64 (l : Int)))]) (fun l H' => H2 = H' ∧ (l : Int) ≤ (me.getD (f.sh.src.getD b 0).toNat []).length ∧ ∀ i, i < l → (me.getD (f.sh.tgt.getD b 0).toNat []).contains ((f.ac.getD b []).getD ((me.getD (f.sh.src.getD b 0).toNat []).getD i 0).toNat 0) = true) (fun l => ((me.getD (f.sh.src.getD b 0).toNat []).length - l : Int).toNat) (0) ⟨rfl, rfl, rfl, rfl, rfl, trivial⟩ ⟨rfl, trivial⟩ ?_ ?_
       ·
        refine ⟨rfl, ?_⟩
        exact ⟨by omega, fun _ _ => by omega⟩
       ·
        rintro l _ ⟨rfl, hI⟩ KL3 hKL3
        refine .forget (fr' := [(9, some (.int .i64 (l : Int))), (1, some _), (2, some _), (6, some _), (7, some _), (8, some _)]) ⟨rfl, rfl, rfl, rfl, rfl, rfl, trivial⟩ ?_
        obtain ⟨hk3, ha3⟩ := hI
        refine .seq (fun K20 hK20 => ?_)
        refine .seq (fun K21 hK21 => ?_)
        refine .region ?_
        refine .m rfl rfl rfl (.move rfl) ?_
        refine .m rfl rfl rfl (.move rfl) ?_
        refine .m rfl rfl rfl (.move rfl) ?_
        refine .m rfl rfl rfl (.idx1 sl_23_B (Intss.sl (by assumption)) rfl rfl (by omega) (by omega)) ?_
        refine .m rfl rfl rfl (.loadR on_22_B (by assumption) rfl (by omega)) ?_
        refine .m rfl rfl rfl (.len sl_22_A rfl) ?_
        refine .m rfl rfl rfl (.cmp rfl rfl rfl) ?_
        refine .nil ?_
        refine hK21 _ _ ?_
        refine .cond rfl (fun h66 => ?_) (fun h66 => ?_)
        ·
         simp only [sps] at h66
         have u1 := allIn_iff.1 (ha1 (f.sh.src.getD b 0).toNat (by omega)).2 l (by omega)
         refine .skip ?_
         refine hK20 _ _ ?_
         refine .seq (fun K22 hK22 => ?_)
         refine .block ?_
         refine .seq (fun K23 hK23 => ?_)
         refine .regionD mixed_orders_B (.q 0 (.q 1 (.q 2 (.q 3 (.q 4 (.q 5 (.q 6 (.q 7 (.q 8 (.q 9 (.q 10 (.q 11 (.q 12 (.q 13 (.q 14 (.q 15 (.q 16 (.q 17 (.c 18 0 (.q 19 (.done))))))))))))))))))))) (by kernel_rfl) ?_
         refine .m rfl rfl rfl rfl (.refl _) (.move rfl) ?_
         refine .m rfl rfl rfl rfl (.refl _) (.move rfl) ?_
         refine .m rfl rfl rfl rfl (.refl _) (.idx1 sl_23_B (Intss.sl (by assumption)) rfl rfl (by omega) (by omega)) ?_
         refine .m rfl rfl rfl rfl (.refl _) (.loadR on_22_B (by assumption) rfl (by omega)) ?_
         refine .m rfl rfl rfl rfl (.refl _) (.fieldAddr fo_39_2_P rfl) ?_
         refine .m rfl rfl rfl rfl (.refl _) (.load on_23_B rfl (by assumption)) ?_
         refine .m rfl rfl rfl rfl (.refl _) (.move rfl) ?_
         refine .m rfl rfl rfl rfl (.refl _) (.idxN sl_23_B (Intss.sl (by assumption)) rfl rfl (by omega)) ?_
         refine .m rfl rfl rfl rfl (.refl _) (.loadR on_22_B (by assumption) rfl (by omega)) ?_
         refine .m rfl rfl rfl rfl (.refl _) (.move rfl) ?_
         refine .m rfl rfl rfl rfl (.refl _) (.move rfl) ?_
         refine .m rfl rfl rfl rfl (.refl _) (.idx1 sl_23_B (Intss.sl (by assumption)) rfl rfl (by omega) (by omega)) ?_
         refine .m rfl rfl rfl rfl (.refl _) (.loadR on_22_B (by assumption) rfl (by omega)) ?_
         refine .m rfl rfl rfl rfl (.refl _) (.move rfl) ?_
         refine .m rfl rfl rfl rfl (.refl _) (.idxN sl_22_A (by assumption) rfl rfl (by omega)) ?_
         refine .m rfl rfl rfl rfl (.refl _) (.loadI on_2_A (by assumption) rfl (by omega)) ?_
         refine .m rfl rfl rfl rfl (.refl _) (.idx1 sl_22_A (by assumption) rfl rfl (by omega) (by omega)) ?_
         refine .m rfl rfl rfl rfl (.refl _) (.loadI on_2_A (by assumption) rfl (by omega)) ?_
         refine .callQ0 rfl rfl rfl rfl rfl @Try.call60 rfl (l01Has_c) ?_
         refine .m rfl rfl rfl rfl (.refl _) (.not rfl) ?_
         refine .done ?_
         refine hK23 _ _ ?_
         refine .cond rfl (fun h88 => ?_) (fun h88 => ?_)
         ·
          simp only [Bool.not_eq_true', Bool.not_eq_false'] at h88
          refine .seq (fun K24 hK24 => ?_)
          refine .region ?_
          refine .m rfl rfl rfl (.assign rfl) ?_
          refine .nil ?_
          refine hK24 _ _ ?_
          refine .ret ?_
          -- leaf e4
          refine hret _ _ ?_
          refine ⟨_, rfl, ?_⟩
          exact ⟨congrArg _ (B_false fun hh => by rw [hh.cl b (by omega) l (by omega)] at h88; cases h88), hle⟩
         ·
          simp only [Bool.not_eq_true', Bool.not_eq_false'] at h88
          refine .skip ?_
          refine hK22 _ _ ?_
          refine .region ?_
          refine .m rfl rfl rfl (.move rfl) ?_
          refine .m rfl rfl rfl (.add rfl rfl rfl (by omega) (by omega)) ?_
          refine .m rfl rfl rfl (.assign rfl) ?_
          refine .nil ?_
          refine hKL3 (l + 1) _ _ ?_ ?_ ⟨rfl, rfl, rfl, rfl, rfl, rfl, trivial⟩
          ·
           refine ⟨rfl, ?_⟩
           refine ⟨by omega, fun i hx => ?_⟩
           by_cases hltq : i < l
           · exact ha3 i hltq
           · obtain rfl : i = l := by omega
             exact h88
          ·
           omega
        ·
         try simp only [sps] at h66
         refine .exit ?_
         refine hK17 _ _ ?_
         refine .region ?_
         refine .m rfl rfl rfl (.move rfl) ?_
         refine .m rfl rfl rfl (.add rfl rfl rfl (by omega) (by omega)) ?_
         refine .m rfl rfl rfl (.assign rfl) ?_
         refine .nil ?_
         refine hKL2 (b + 1) _ _ ?_ ?_ ⟨rfl, rfl, rfl, trivial⟩
         ·
          refine ⟨rfl, ?_⟩
          refine ⟨by omega, fun a' hx => ?_⟩
          by_cases hltq : a' < b
          · exact ha2 a' hltq
          · obtain rfl : a' = b := by omega
            exact fun i hi => ha3 i (by omega)
         ·
          omega
      ·
       try simp only [sps] at h45
       refine .exit ?_
       refine hK13 _ _ ?_
       refine .seq (fun K25 hK25 => ?_)
       refine .region ?_
       refine .m rfl rfl rfl (.assign rfl) ?_
       refine .nil ?_
       refine hK25 _ _ ?_
       refine .ret ?_
       -- leaf e5
       refine hret _ _ ?_
       refine ⟨_, rfl, ?_⟩
       exact ⟨congrArg _ (B_true ⟨by omega, fun x hx => ha1 x (by omega), fun a ha => ha2 a (by omega)⟩), hle⟩
end Go.Proofs.Ytbpehbbdodahaaa
/- Marks on set functors, their maps and parts. No condition but those of each statement. -/
namespace Go.Proofs.Ytbpehbbdodahaaa
open Go Go.GL Go.RowKit Go.Proofs
theorem markSetFunctor_c {c : SFun} {p : SFunP} {lo hi : Nat} {k : Int} {H : GHeap} (w : SFunW lo hi H c p := by assumption) (hs : c.Small := by assumption) (hk : 0 ≤ k := by omega) (hk' : k + c.total ≤ 4611686018427387904 := by omega) (hhi : hi ≤ H.next := by omega) :
    GCalls Try.prog 23 [.agg (c.cells p).toArray, .int .i64 k] H (fun v H' => v = .int .i64 (k + c.total) ∧ Marked lo hi H H' (c.leaves p) k) := by
  obtain ⟨w1, w2, w3⟩ := w
  have ht : c.total = c.sh.total + (c.sz.length + sumL c.ac) := rfl
  obtain ⟨s1, s2, s3, s4⟩ := hs
  refine GCalls.body (N := 18) (rs := [.tmp 4]) Try.func23 rfl rfl rfl rfl (fun Qx hret hend => ?_)
  refine .forget (fr' := [(0, some _), (1, some _)]) ⟨rfl, rfl, trivial⟩ ?_
  refine .seq (fun K1 hK1 => ?_)
  refine .region ?_
  refine .r rfl rfl rfl (.boxR rfl sz_39_VSFun rfl) ?_
  rintro _ H2 ⟨g2, rfl, le2, ge2, at2⟩
  have nx_H2 := le2.1
  have lt_at2 := GHeap.lt_of_get at2
  have mm2 : MemN _ _ _ _ _ := ⟨rfl, Mem.of_get at2⟩
  replace w1 := w1.stm (.of_le le2)
  replace w2 := w2.stm (.of_le le2)
  replace w3 := w3.stm (.of_le le2)
  refine .m rfl rfl rfl (.assign rfl) ?_
  refine .nil ?_
  refine hK1 _ _ ?_
  refine .seq (fun K2 hK2 => ?_)
  refine .region ?_
  have m1 : MemN H2 g2 (0 + 0) 5 (c.sh.cells p.sh) := ⟨rfl, Mem.left (bs := [.slice p.a1 c.sz.length c.sz.length, .slice p.a2 c.ac.length c.ac.length]) (Mem.of_get at2)⟩
  refine .m rfl rfl rfl (.fieldAddr fo_39_0_P rfl) ?_
  refine .m rfl rfl rfl (.loadM ag_37_D rfl (by assumption)) ?_
  refine .m rfl rfl rfl (.move rfl) ?_
  refine .call rfl rfl rfl rfl @Try.call49 rfl (markCategory_c) ?_
  rintro _ H8 ⟨rfl, mk8⟩
  have sm8 := mk8.stm
  have nx_H8 := sm8.nx
  replace at2 := sm8.same _ _ (by omega) at2
  replace w1 := w1.stm sm8
  replace w2 := w2.stm sm8
  replace w3 := w3.stm sm8
  clear mm2
  have mm2 : MemN _ _ _ _ _ := ⟨rfl, Mem.of_get at2⟩
  refine .m rfl rfl rfl (.assign rfl) ?_
  refine .nil ?_
  refine hK2 _ _ ?_
  refine .seq (fun K3 hK3 => ?_)
  refine .region ?_
  have c1 : H8.cell g2 (0 + 5) = some (.slice p.a1 c.sz.length c.sz.length) := Mem.of_get at2 5 _ rfl
  refine .m rfl rfl rfl (.fieldAddr fo_39_1_P rfl) ?_
  refine .m rfl rfl rfl (.load on_22_B rfl (by assumption)) ?_
  refine .m rfl rfl rfl (.move rfl) ?_
  refine .call rfl rfl rfl rfl @Try.call50 rfl (markInt64S_c) ?_
  rintro _ H12 ⟨rfl, mk12⟩
  have sm12 := mk12.stm
  have nx_H12 := sm12.nx
  replace at2 := sm12.same _ _ (by omega) at2
  replace w1 := w1.stm sm12
  replace w2 := w2.stm sm12
  replace w3 := w3.stm sm12
  clear mm2
  have mm2 : MemN _ _ _ _ _ := ⟨rfl, Mem.of_get at2⟩
  refine .m rfl rfl rfl (.assign rfl) ?_
  refine .nil ?_
  refine hK3 _ _ ?_
  refine .seq (fun K4 hK4 => ?_)
  refine .region ?_
  have c1 : H12.cell g2 (0 + 6) = some (.slice p.a2 c.ac.length c.ac.length) := Mem.of_get at2 6 _ rfl
  refine .m rfl rfl rfl (.fieldAddr fo_39_2_P rfl) ?_
  refine .m rfl rfl rfl (.load on_23_B rfl (by assumption)) ?_
  refine .m rfl rfl rfl (.move rfl) ?_
  refine .call rfl rfl rfl rfl @Try.call37 rfl (markInt64SS_c) ?_
  rintro _ H16 ⟨rfl, mk16⟩
  have sm16 := mk16.stm
  have nx_H16 := sm16.nx
  replace at2 := sm16.same _ _ (by omega) at2
  replace w1 := w1.stm sm16
  replace w2 := w2.stm sm16
  replace w3 := w3.stm sm16
  clear mm2
  have mm2 : MemN _ _ _ _ _ := ⟨rfl, Mem.of_get at2⟩
  refine .m rfl rfl rfl (.assign rfl) ?_
  refine .nil ?_
  refine hK4 _ _ ?_
  refine .seq (fun K5 hK5 => ?_)
  refine .region ?_
  refine .m rfl rfl rfl (.move rfl) ?_
  refine .m rfl rfl rfl (.assign rfl) ?_
  refine .nil ?_
  refine hK5 _ _ ?_
  refine .ret ?_
  -- leaf e1
  refine hret _ _ ?_
  refine ⟨_, rfl, ?_⟩
  exact ⟨by rw [ht]; congr 1; omega, .le_left le2 (mk8.app' (mk12.app' mk16 (by simp [lvSum])) (by rw [Cat.lvSum_leaves]))⟩
theorem markSetMap_c {c : SMap} {p : SMapP} {lo hi : Nat} {k : Int} {H : GHeap} (w : SMapW lo hi H c p := by assumption) (hs : c.Small := by assumption) (hk : 0 ≤ k := by omega) (hk' : k + c.total ≤ 4611686018427387904 := by omega) (hhi : hi ≤ H.next := by omega) :
    GCalls Try.prog 15 [.agg (c.cells p).toArray, .int .i64 k] H (fun v H' => v = .int .i64 (k + c.total) ∧ Marked lo hi H H' (c.leaves p) k) := by
  obtain ⟨w1, w2, w3⟩ := w
  have ht : c.total = c.s.total + (c.t.total + sumL c.pa) := rfl
  obtain ⟨s1, s2, s3, s4⟩ := hs
  refine GCalls.body (N := 18) (rs := [.tmp 4]) Try.func15 rfl rfl rfl rfl (fun Qx hret hend => ?_)
  refine .forget (fr' := [(0, some _), (1, some _)]) ⟨rfl, rfl, trivial⟩ ?_
  refine .seq (fun K1 hK1 => ?_)
  refine .region ?_
  refine .r rfl rfl rfl (.boxR rfl sz_41_VSMap rfl) ?_
  rintro _ H2 ⟨g2, rfl, le2, ge2, at2⟩
  have nx_H2 := le2.1
  have lt_at2 := GHeap.lt_of_get at2
  have mm2 : MemN _ _ _ _ _ := ⟨rfl, Mem.of_get at2⟩
  replace w1 := w1.stm (.of_le le2)
  replace w2 := w2.stm (.of_le le2)
  replace w3 := w3.stm (.of_le le2)
  refine .m rfl rfl rfl (.assign rfl) ?_
  refine .nil ?_
  refine hK1 _ _ ?_
  refine .seq (fun K2 hK2 => ?_)
  refine .region ?_
  have m1 : MemN H2 g2 (0 + 0) 7 (c.s.cells p.s) := ⟨rfl, Mem.left (bs := c.t.cells p.t ++ _) (Mem.of_get at2)⟩
  refine .m rfl rfl rfl (.fieldAddr fo_41_0_VSMap rfl) ?_
  refine .m rfl rfl rfl (.loadM ag_39_VSFun rfl (by assumption)) ?_
  refine .m rfl rfl rfl (.move rfl) ?_
  refine .call rfl rfl rfl rfl @Try.call23 rfl (markSetFunctor_c) ?_
  rintro _ H8 ⟨rfl, mk8⟩
  have sm8 := mk8.stm
  have nx_H8 := sm8.nx
  replace at2 := sm8.same _ _ (by omega) at2
  replace w1 := w1.stm sm8
  replace w2 := w2.stm sm8
  replace w3 := w3.stm sm8
  clear mm2
  have mm2 : MemN _ _ _ _ _ := ⟨rfl, Mem.of_get at2⟩
  refine .m rfl rfl rfl (.assign rfl) ?_
  refine .nil ?_
  refine hK2 _ _ ?_
  refine .seq (fun K3 hK3 => ?_)
  refine .region ?_
  have hx : Mem H8 g2 0 (c.s.cells p.s ++ (c.t.cells p.t ++ [.slice p.a2 c.pa.length c.pa.length])) := Mem.of_get at2
  have m2 : MemN H8 g2 (0 + 7) 7 (c.t.cells p.t) := ⟨rfl, (hx.right (n := 7) rfl).left⟩
  refine .m rfl rfl rfl (.fieldAddr fo_41_1_VSMap rfl) ?_
  refine .m rfl rfl rfl (.loadM ag_39_VSFun rfl (by assumption)) ?_
  refine .m rfl rfl rfl (.move rfl) ?_
  refine .call rfl rfl rfl rfl @Try.call23 rfl (markSetFunctor_c) ?_
  rintro _ H12 ⟨rfl, mk12⟩
  have sm12 := mk12.stm
  have nx_H12 := sm12.nx
  replace at2 := sm12.same _ _ (by omega) at2
  replace w1 := w1.stm sm12
  replace w2 := w2.stm sm12
  replace w3 := w3.stm sm12
  clear mm2
  have mm2 : MemN _ _ _ _ _ := ⟨rfl, Mem.of_get at2⟩
  refine .m rfl rfl rfl (.assign rfl) ?_
  refine .nil ?_
  refine hK3 _ _ ?_
  refine .seq (fun K4 hK4 => ?_)
  refine .region ?_
  have c1 : H12.cell g2 (0 + 14) = some (.slice p.a2 c.pa.length c.pa.length) := Mem.of_get at2 14 _ rfl
  refine .m rfl rfl rfl (.fieldAddr fo_41_2_VSMap rfl) ?_
  refine .m rfl rfl rfl (.load on_23_B rfl (by assumption)) ?_
  refine .m rfl rfl rfl (.move rfl) ?_
  refine .call rfl rfl rfl rfl @Try.call37 rfl (markInt64SS_c) ?_
  rintro _ H16 ⟨rfl, mk16⟩
  have sm16 := mk16.stm
  have nx_H16 := sm16.nx
  replace at2 := sm16.same _ _ (by omega) at2
  replace w1 := w1.stm sm16
  replace w2 := w2.stm sm16
  replace w3 := w3.stm sm16
  clear mm2
  have mm2 : MemN _ _ _ _ _ := ⟨rfl, Mem.of_get at2⟩
  refine .m rfl rfl rfl (.assign rfl) ?_
  refine .nil ?_
  refine hK4 _ _ ?_
  refine .seq (fun K5 hK5 => ?_)
  refine .region ?_
  refine .m rfl rfl rfl (.move rfl) ?_
  refine .m rfl rfl rfl (.assign rfl) ?_
  refine .nil ?_
  refine hK5 _ _ ?_
  refine .ret ?_
  -- leaf e1
  refine hret _ _ ?_
  refine ⟨_, rfl, ?_⟩
  exact ⟨by rw [ht]; congr 1; omega, .le_left le2 (mk8.app' (mk12.app' mk16 (by rw [SFun.lvSum_leaves])) (by rw [SFun.lvSum_leaves]))⟩
theorem markPart_c {c : Prt} {p : PrtP} {lo hi : Nat} {k : Int} {H : GHeap} (w : PrtW lo hi H c p := by assumption) (hs : c.Small := by assumption) (hk : 0 ≤ k := by omega) (hk' : k + c.total ≤ 4611686018427387904 := by omega) (hhi : hi ≤ H.next := by omega) :
    GCalls Try.prog 16 [.agg (c.cells p).toArray, .int .i64 k] H (fun v H' => v = .int .i64 (k + c.total) ∧ Marked lo hi H H' (c.leaves p) k) := by
  have ht : c.total = sumL c.me := rfl
  have w1 : IntssW lo hi H p.a0 c.me p.r0 := w
  obtain ⟨s1, s2⟩ := hs
  refine GCalls.body (N := 10) (rs := [.tmp 4]) Try.func16 rfl rfl rfl rfl (fun Qx hret hend => ?_)
  refine .forget (fr' := [(0, some _), (1, some _)]) ⟨rfl, rfl, trivial⟩ ?_
  refine .seq (fun K1 hK1 => ?_)
  refine .region ?_
  refine .r rfl rfl rfl (.boxR rfl sz_34_VPrt rfl) ?_
  rintro _ H2 ⟨g2, rfl, le2, ge2, at2⟩
  have nx_H2 := le2.1
  have lt_at2 := GHeap.lt_of_get at2
  have mm2 : MemN _ _ _ _ _ := ⟨rfl, Mem.of_get at2⟩
  replace w1 := w1.stm (.of_le le2)
  refine .m rfl rfl rfl (.assign rfl) ?_
  refine .nil ?_
  refine hK1 _ _ ?_
  refine .seq (fun K2 hK2 => ?_)
  refine .region ?_
  have c1 : H2.cell g2 (0 + 0) = some (.slice p.a0 c.me.length c.me.length) := Mem.of_get at2 0 _ rfl
  refine .m rfl rfl rfl (.fieldAddr fo_34_0_VPrt rfl) ?_
  refine .m rfl rfl rfl (.load on_23_B rfl (by assumption)) ?_
  refine .m rfl rfl rfl (.move rfl) ?_
  refine .call rfl rfl rfl rfl @Try.call37 rfl (markInt64SS_c) ?_
  rintro _ H8 ⟨rfl, mk8⟩
  have sm8 := mk8.stm
  have nx_H8 := sm8.nx
  replace at2 := sm8.same _ _ (by omega) at2
  replace w1 := w1.stm sm8
  clear mm2
  have mm2 : MemN _ _ _ _ _ := ⟨rfl, Mem.of_get at2⟩
  refine .m rfl rfl rfl (.assign rfl) ?_
  refine .nil ?_
  refine hK2 _ _ ?_
  refine .seq (fun K3 hK3 => ?_)
  refine .region ?_
  refine .m rfl rfl rfl (.move rfl) ?_
  refine .m rfl rfl rfl (.assign rfl) ?_
  refine .nil ?_
  refine hK3 _ _ ?_
  refine .ret ?_
  -- leaf e1
  refine hret _ _ ?_
  refine ⟨_, rfl, ?_⟩
  exact ⟨rfl, .le_left le2 mk8⟩
theorem heldPart_c {c : Prt} {p : PrtP} {lo hi b : Nat} {k : Int} {H : GHeap} (w : PrtW lo hi H c p := by assumption) (h : Held b H (c.leaves p) k := by assumption) (hs : c.Small := by assumption) (hk : 0 ≤ k := by omega) (hk' : k + c.total ≤ 4611686018427387904 := by omega) :
    GCalls Try.prog 17 [.agg (c.cells p).toArray, .int .i64 k] H (Ret (.int .i64 (k + c.total)) H) := by
  refine GCalls.ret rfl ?_
  have ht : c.total = sumL c.me := rfl
  have v1 : Held b H (rowsL p.r0 c.me c.me.length) k := h
  obtain ⟨s1, s2⟩ := hs
  refine GCalls.body (N := 12) (rs := [.tmp 4]) Try.func17 rfl rfl rfl rfl (fun Qx hret hend => ?_)
  refine .forget (fr' := [(0, some _), (1, some _)]) ⟨rfl, rfl, trivial⟩ ?_
  have hle := GHeap.Le.refl H
  refine .seq (fun K1 hK1 => ?_)
  refine .region ?_
  refine .r rfl rfl rfl (.boxR rfl sz_34_VPrt rfl) ?_
  rintro _ H2 ⟨g2, rfl, le2, ge2, at2⟩
  have nx_H2 := le2.1
  replace hle := hle.trans le2
  have lt_at2 := GHeap.lt_of_get at2
  have mm2 : MemN _ _ _ _ _ := ⟨rfl, Mem.of_get at2⟩
  refine .m rfl rfl rfl (.assign rfl) ?_
  refine .nil ?_
  refine hK1 _ _ ?_
  refine .seq (fun K2 hK2 => ?_)
  refine .region ?_
  replace v1 := v1.keep (.of_le le2) (Nat.zero_le _)
  have hsl := w.1.mono le2
  have c1 : H2.cell g2 (0 + 0) = some (.slice p.a0 c.me.length c.me.length) := Mem.of_get at2 0 _ rfl
  refine .m rfl rfl rfl (.fieldAddr fo_34_0_VPrt rfl) ?_
  refine .m rfl rfl rfl (.load on_23_B rfl (by assumption)) ?_
  refine .m rfl rfl rfl (.move rfl) ?_
  refine .callQ rfl rfl rfl rfl @Try.call38 rfl (heldInt64SS_c) ?_
  refine .m rfl rfl rfl (.assign rfl) ?_
  refine .nil ?_
  refine hK2 _ _ ?_
  refine .seq (fun K3 hK3 => ?_)
  refine .seq (fun K4 hK4 => ?_)
  refine .region ?_
  refine .m rfl rfl rfl (.move rfl) ?_
  refine .m rfl rfl rfl (.cmp rfl rfl rfl) ?_
  refine .nil ?_
  refine hK4 _ _ ?_
  refine .cond rfl (fun h10 => ?_) (fun h10 => ?_)
  ·
   exact absurd h10 (by simp; omega)
  ·
   try simp only [sps] at h10
   refine .skip ?_
   refine hK3 _ _ ?_
   refine .seq (fun K5 hK5 => ?_)
   refine .region ?_
   refine .m rfl rfl rfl (.move rfl) ?_
   refine .m rfl rfl rfl (.assign rfl) ?_
   refine .nil ?_
   refine hK5 _ _ ?_
   refine .ret ?_
   -- leaf e1
   refine hret _ _ ?_
   refine ⟨_, rfl, ?_⟩
   exact ⟨rfl, hle⟩
end Go.Proofs.Ytbpehbbdodahaaa
/- Parts drawn back along a map. No condition but those of each statement. -/
namespace Go.Proofs.Ytbpehbbdodahaaa
open Go Go.GL Go.RowKit Go.Proofs
end Go.Proofs.Ytbpehbbdodahaaa
/- Parts made by asking of each element. No condition but those of each statement. -/
namespace Go.Proofs.Ytbpehbbdodahaaa
open Go Go.GL Go.RowKit Go.Proofs
theorem bt_34_Uc : buildT Try.prog 34 = some ([.slice none 0 0], [(0, 1)]) := by kernel_rfl
set_option maxHeartbeats 4000000 in
theorem partOf_c {g o fn : Nat} {f : SFun} {p : SFunP} {cap : Array Value} {Y : Nat → Nat → Bool} {H : GHeap} (h : SFun.At H g o f p := by assumption) (hz : ∀ i, i < f.sz.length → 0 ≤ f.sz.getD i 0 ∧ f.sz.getD i 0 ≤ 16) (hl : f.sz.length ≤ 1048576)
    (hcall : ∀ (xs : Array Value) (w : World), (callFunc fn xs).run Try.prog w = .ok (.enter fn xs) w)
    (hq : ∀ H', H.Le H' → ∀ x e : Nat, x < f.sz.length → (e : Int) < f.sz.getD x 0 → GCalls Try.prog fn ([.int .i64 (x : Int), .int .i64 (e : Int)] ++ cap.toList) H' (Ret (.bool (Y x e)) H')) :
    GCalls Try.prog 66 [.pointer (some ⟨g, o, none⟩), .func (.func fn) #[] cap] H (fun v H' => H.Le H' ∧ ∃ r, v = .agg ((f.pick Y).cells r).toArray ∧ PrtR H.next H' (f.pick Y) r) := by
  refine GCalls.body (N := 43) (rs := [.cell 4 34]) Try.func66 rfl rfl rfl rfl (fun Qx hret hend => ?_)
  refine .forget (fr' := [(0, some _), (1, some _)]) ⟨rfl, rfl, trivial⟩ ?_
  have hle := GHeap.Le.refl H
  have base_h := h
  obtain ⟨fsh, c5, c6, i1, i2⟩ := h.get
  have hm : MemN _ _ _ _ _ := ⟨rfl, h.1⟩
  have hi := h.2
  have hmsh : MemN _ _ _ _ _ := ⟨rfl, fsh.1⟩
  have hish := fsh.2
  refine .seq (fun K1 hK1 => ?_)
  refine .region ?_
  refine .r rfl rfl rfl (.allocR rfl ze_34_VPrt rfl) ?_
  rintro _ H4 ⟨g4, rfl, le4, ge4, at4⟩
  have nx_H4 := le4.1
  replace hle := hle.trans le4
  have lt_at4 := GHeap.lt_of_get at4
  replace h := base_h.mono hle
  clear fsh c5 c6 i1 i2 hm hi hmsh hish
  obtain ⟨fsh, c5, c6, i1, i2⟩ := h.get
  have hm : MemN _ _ _ _ _ := ⟨rfl, h.1⟩
  have hi := h.2
  have hmsh : MemN _ _ _ _ _ := ⟨rfl, fsh.1⟩
  have hish := fsh.2
  refine .nil ?_
  refine hK1 _ _ ?_
  refine .seq (fun K2 hK2 => ?_)
  refine .region ?_
  refine .m rfl rfl rfl (.build bt_34_Uc rfl rfl rfl) ?_
  refine .r rfl rfl rfl (.allocR rfl ze_34_VPrt rfl) ?_
  rintro _ H5 ⟨g5, rfl, le5, ge5, at5⟩
  have nx_H5 := le5.1
  replace hle := hle.trans le5
  replace at4 := le5.2 _ _ at4
  have lt_at5 := GHeap.lt_of_get at5
  replace h := base_h.mono hle
  clear fsh c5 c6 i1 i2 hm hi hmsh hish
  obtain ⟨fsh, c5, c6, i1, i2⟩ := h.get
  have hm : MemN _ _ _ _ _ := ⟨rfl, h.1⟩
  have hi := h.2
  have hmsh : MemN _ _ _ _ _ := ⟨rfl, fsh.1⟩
  have hish := fsh.2
  refine .r0 rfl rfl (.fillR rfl sz_34_VPrt rfl rfl rfl rfl (by assumption) (by first | rfl | exact Nat.le_of_ble_eq_true rfl | simp)) ?_
  rintro _ H1002 ⟨rfl, st1002, at1002⟩
  have nx_H1002 := st1002.nx
  replace hle := hle.st st1002 (fun k hk => ⟨by omega, trivial⟩)
  replace at4 := st1002.same _ _ ⟨by omega, trivial⟩ at4
  have lt_at1002 := GHeap.lt_of_get at1002
  replace h := base_h.mono hle
  clear fsh c5 c6 i1 i2 hm hi hmsh hish
  obtain ⟨fsh, c5, c6, i1, i2⟩ := h.get
  have hm : MemN _ _ _ _ _ := ⟨rfl, h.1⟩
  have hi := h.2
  have hmsh : MemN _ _ _ _ _ := ⟨rfl, fsh.1⟩
  have hish := fsh.2
  have mm1002 : MemN _ _ _ _ _ := ⟨rfl, Mem.of_get at1002⟩
  refine .nil ?_
  refine hK2 _ _ ?_
  refine .seq (fun K3 hK3 => ?_)
  refine .seq (fun K4 hK4 => ?_)
  refine .region ?_
  refine .m rfl rfl rfl (.move rfl) ?_
  refine .m rfl rfl rfl (.nilCheck rfl) ?_
  refine .m rfl rfl rfl (.fieldAddr fo_39_1_P rfl) ?_
  refine .m rfl rfl rfl (.load on_22_B rfl (by assumption)) ?_
  refine .m rfl rfl rfl (.len sl_22_A rfl) ?_
  refine .m rfl rfl rfl (.move rfl) ?_
  refine .nil ?_
  refine hK4 _ _ ?_
  refine .block ?_
  refine .loopR (σ := Nat × (Nat → Option Addr) × Option Addr × Nat) [(1, some _), (4, some _), (5, some _), (14, some _), (15, some _)] (fun (k, rr, a, gB) => [(16, some (.int .i64 (k : Int)))]) (fun (k, rr, a, gB) H' => St [g5] H1002 H' ∧ H'.get g5 = some (.row ([.slice a k k]) 34 true) ∧ k ≤ f.sz.length ∧ OwnRows H.next H' 2 rr (fun x => filtN (f.sz.getD x 0).toNat (Y x)) k ∧ NilOr H1002.next H' a gB (slsOf rr (fun x => filtN (f.sz.getD x 0).toNat (Y x)) k) 22 k) (fun (k, rr, a, gB) => f.sz.length - k) ((0, fun _ => none, none, 0)) ⟨rfl, rfl, rfl, rfl, rfl, trivial⟩ ⟨rfl, trivial⟩ ?_ ?_
  ·
   refine ⟨.refl _ _, by first | assumption | exact at1002 | simpa using at1002, ?_⟩
   exact ⟨by omega, .zero _ _ _ _ _, .inl ⟨rfl, rfl⟩⟩
  ·
   rintro ⟨k, rr, a, gB⟩ HL1 ⟨lst1, at_L5, hI⟩ KL1 hKL1
   refine .forget (fr' := [(16, some (.int .i64 (k : Int))), (1, some _), (4, some _), (5, some _), (14, some _), (15, some _)]) ⟨rfl, rfl, rfl, rfl, rfl, rfl, trivial⟩ ?_
   have nx_HL1 := lst1.nx
   replace hle := hle.st lst1 (fun k hk => ⟨by omega, trivial⟩)
   replace at4 := lst1.same _ _ ⟨by omega, trivial⟩ at4
   have lt_at_L5 := GHeap.lt_of_get at_L5
   replace h := base_h.mono hle
   clear fsh c5 c6 i1 i2 hm hi hmsh hish
   obtain ⟨fsh, c5, c6, i1, i2⟩ := h.get
   have hm : MemN _ _ _ _ _ := ⟨rfl, h.1⟩
   have hi := h.2
   have hmsh : MemN _ _ _ _ _ := ⟨rfl, fsh.1⟩
   have hish := fsh.2
   clear mm1002
   have mm1002 : MemN _ _ _ _ _ := ⟨rfl, Mem.of_get at1002⟩
   have rk := St.refl [g5] HL1
   obtain ⟨hk, hR, hA⟩ := hI
   have hat5 := at_L5
   refine .seq (fun K5 hK5 => ?_)
   refine .region ?_
   refine .m rfl rfl rfl (.cmp rfl rfl rfl) ?_
   refine .nil ?_
   refine hK5 _ _ ?_
   refine .seq (fun K6 hK6 => ?_)
   refine .cond rfl (fun h17 => ?_) (fun h17 => ?_)
   ·
    simp only [sps] at h17
    have r1 := hz k (by omega)
    refine .skip ?_
    refine hK6 _ _ ?_
    refine .seq (fun K7 hK7 => ?_)
    refine .block ?_
    refine .seq (fun K8 hK8 => ?_)
    refine .region ?_
    refine .m rfl rfl rfl (.move rfl) ?_
    refine .m rfl rfl rfl (.idxN sl_22_A (by assumption) rfl rfl (by omega)) ?_
    refine .m rfl rfl rfl (.loadI on_2_A (by assumption) rfl (by omega)) ?_
    refine .m rfl rfl rfl (.assign rfl) ?_
    refine .m rfl rfl rfl (.assign rfl) ?_
    refine .nil ?_
    refine hK8 _ _ ?_
    refine .seq (fun K9 hK9 => ?_)
    refine .region ?_
    refine .r rfl rfl rfl (.litR rfl sl_22_A ze_2_E rfl rfl (by omega) (by omega) rfl rfl) ?_
    rintro _ H21 ⟨g21, rfl, le21, ge21, at21⟩
    have nx_H21 := le21.1
    replace hle := hle.trans le21
    replace lst1 := lst1.le le21
    replace rk := rk.le le21
    replace at4 := le21.2 _ _ at4
    replace at_L5 := le21.2 _ _ at_L5
    have lt_at21 := GHeap.lt_of_get at21
    replace h := base_h.mono hle
    clear fsh c5 c6 i1 i2 hm hi hmsh hish
    obtain ⟨fsh, c5, c6, i1, i2⟩ := h.get
    have hm : MemN _ _ _ _ _ := ⟨rfl, h.1⟩
    have hi := h.2
    have hmsh : MemN _ _ _ _ _ := ⟨rfl, fsh.1⟩
    have hish := fsh.2
    clear mm1002
    have mm1002 : MemN _ _ _ _ _ := ⟨rfl, Mem.of_get at1002⟩
    replace at21 : GHeap.get H21 g21 = some (.row (ints []) 2 true) := at21
    refine .m rfl rfl rfl (.assign rfl) ?_
    refine .nil ?_
    refine hK9 _ _ ?_
    refine .seq (fun K10 hK10 => ?_)
    refine .seq (fun K11 hK11 => ?_)
    refine .region ?_
    refine .m rfl rfl rfl (.move rfl) ?_
    refine .m rfl rfl rfl (.move rfl) ?_
    refine .nil ?_
    refine hK11 _ _ ?_
    refine .block ?_
    refine .loopR (σ := Nat × Nat × Nat) [(1, some _), (4, some _), (5, some _), (6, some _), (14, some _), (15, some _), (16, some _), (22, some _)] (fun (e, gL8, nL8) => [(23, some (.int .i64 (e : Int))), (8, some (.slice (some ⟨gL8, 0, none⟩) nL8 nL8))]) (fun (e, gL8, nL8) H' => St [g21] H21 H' ∧ H'.get gL8 = some (.row (ints (filtN e (Y k))) 2 true) ∧ (gL8 = g21 ∨ H21.next ≤ gL8) ∧ nL8 = (filtN e (Y k)).length ∧ e ≤ (f.sz.getD k 0).toNat) (fun (e, gL8, nL8) => (f.sz.getD k 0).toNat - e) ((0, _, _)) ⟨rfl, rfl, rfl, rfl, rfl, rfl, rfl, rfl, trivial⟩ ⟨rfl, rfl, trivial⟩ ?_ ?_
    ·
     refine ⟨.refl _ _, by first | assumption | exact at21 | simpa using at21, .inl rfl, by first | rfl | assumption | simp | omega, ?_⟩
     omega
    ·
     rintro ⟨e, gL8, nL8⟩ HL2 ⟨lst2, at_L8, pl_L8, ln_L8, hI⟩ KL2 hKL2
     refine .forget (fr' := [(23, some (.int .i64 (e : Int))), (8, some (.slice (some ⟨gL8, 0, none⟩) nL8 nL8)), (1, some _), (4, some _), (5, some _), (6, some _), (14, some _), (15, some _), (16, some _), (22, some _)]) ⟨rfl, rfl, rfl, rfl, rfl, rfl, rfl, rfl, rfl, rfl, trivial⟩ ?_
     have ge_L8 : H.next ≤ gL8 := by omega
     have nx_HL2 := lst2.nx
     replace hle := hle.st lst2 (fun k hk => ⟨by omega, trivial⟩)
     replace lst1 := lst1.st lst2 (fun k hk ho => by simp only [out, and_true] at ho ⊢ <;> omega)
     replace rk := rk.st lst2 (fun k hk ho => by simp only [out, and_true] at ho ⊢ <;> omega)
     replace at4 := lst2.same _ _ ⟨by omega, trivial⟩ at4
     replace at_L5 := lst2.same _ _ ⟨by omega, trivial⟩ at_L5
     have lt_at_L8 := GHeap.lt_of_get at_L8
     replace h := base_h.mono hle
     clear fsh c5 c6 i1 i2 hm hi hmsh hish
     obtain ⟨fsh, c5, c6, i1, i2⟩ := h.get
     have hm : MemN _ _ _ _ _ := ⟨rfl, h.1⟩
     have hi := h.2
     have hmsh : MemN _ _ _ _ _ := ⟨rfl, fsh.1⟩
     have hish := fsh.2
     clear mm1002
     have mm1002 : MemN _ _ _ _ _ := ⟨rfl, Mem.of_get at1002⟩
     have hfl2 := filtN_le e (Y k)
     refine .seq (fun K12 hK12 => ?_)
     refine .region ?_
     refine .m rfl rfl rfl (.cmp rfl rfl rfl) ?_
     refine .nil ?_
     refine hK12 _ _ ?_
     refine .seq (fun K13 hK13 => ?_)
     refine .cond rfl (fun h24 => ?_) (fun h24 => ?_)
     ·
      simp only [sps] at h24
      refine .skip ?_
      refine hK13 _ _ ?_
      refine .seq (fun K14 hK14 => ?_)
      refine .block ?_
      refine .seq (fun K15 hK15 => ?_)
      refine .region ?_
      refine .m rfl rfl rfl (.move rfl) ?_
      refine .m rfl rfl rfl (.assign rfl) ?_
      refine .nil ?_
      refine hK15 _ _ ?_
      refine .seq (fun K16 hK16 => ?_)
      refine .region ?_
      refine .m rfl rfl rfl (.move rfl) ?_
      refine .m rfl rfl rfl (.move rfl) ?_
      refine .m rfl rfl rfl (.move rfl) ?_
      refine .callV rfl rfl rfl rfl rfl hcall rfl ((hq _ hle k e (by omega) (by omega))) ?_
      rintro _ _ ⟨rfl, rfl⟩
      refine .nil ?_
      refine hK16 _ _ ?_
      refine .cond rfl (fun h29 => ?_) (fun h29 => ?_)
      ·
       try simp only [sps] at h29
       refine .region ?_
       refine .m rfl rfl rfl (.move rfl) ?_
       refine .m rfl rfl rfl (.move rfl) ?_
       refine .r rfl rfl rfl (.litR rfl sl_22_A ze_2_E rfl rfl (by omega) (by omega) rfl rfl) ?_
       rintro _ H32 ⟨g32, rfl, le32, ge32, at32⟩
       have nx_H32 := le32.1
       replace hle := hle.trans le32
       replace lst1 := lst1.le le32
       replace rk := rk.le le32
       replace lst2 := lst2.le le32
       replace at4 := le32.2 _ _ at4
       replace at_L5 := le32.2 _ _ at_L5
       replace at_L8 := le32.2 _ _ at_L8
       have lt_at32 := GHeap.lt_of_get at32
       replace h := base_h.mono hle
       clear fsh c5 c6 i1 i2 hm hi hmsh hish
       obtain ⟨fsh, c5, c6, i1, i2⟩ := h.get
       have hm : MemN _ _ _ _ _ := ⟨rfl, h.1⟩
       have hi := h.2
       have hmsh : MemN _ _ _ _ _ := ⟨rfl, fsh.1⟩
       have hish := fsh.2
       clear mm1002
       have mm1002 : MemN _ _ _ _ _ := ⟨rfl, Mem.of_get at1002⟩
       refine .r rfl rfl rfl (.appendI rfl sl_22_A ze_2_E rfl by_2_E sl_22_A rfl rfl (by assumption) (by assumption) (by first | omega | (simp <;> omega)) (by omega) (by omega)) ?_
       rintro _ H33 ⟨g33, rfl, st33, ge33, at33⟩
       have nx_H33 := st33.nx
       replace hle := hle.st st33 (fun k hk => ⟨by omega, trivial⟩)
       replace lst1 := lst1.st st33 (fun k hk ho => by simp only [out, and_true] at ho ⊢ <;> omega)
       replace rk := rk.st st33 (fun k hk ho => by simp only [out, and_true] at ho ⊢ <;> omega)
       replace lst2 := lst2.st st33 (fun k hk ho => by simp only [out, and_true] at ho ⊢ <;> omega)
       replace at4 := st33.same _ _ ⟨by omega, trivial⟩ at4
       replace at_L5 := st33.same _ _ ⟨by omega, trivial⟩ at_L5
       replace at32 := st33.same _ _ ⟨by omega, trivial⟩ at32
       have lt_at33 := GHeap.lt_of_get at33
       replace h := base_h.mono hle
       clear fsh c5 c6 i1 i2 hm hi hmsh hish
       obtain ⟨fsh, c5, c6, i1, i2⟩ := h.get
       have hm : MemN _ _ _ _ _ := ⟨rfl, h.1⟩
       have hi := h.2
       have hmsh : MemN _ _ _ _ _ := ⟨rfl, fsh.1⟩
       have hish := fsh.2
       clear mm1002
       have mm1002 : MemN _ _ _ _ _ := ⟨rfl, Mem.of_get at1002⟩
       refine .m rfl rfl rfl (.assign rfl) ?_
       refine .nil ?_
       refine hK14 _ _ ?_
       refine .region ?_
       refine .m rfl rfl rfl (.add rfl rfl rfl (by omega) (by omega)) ?_
       refine .m rfl rfl rfl (.move rfl) ?_
       refine .nil ?_
       refine hKL2 ((e + 1, _, _)) _ _ ?_ ?_ ⟨rfl, rfl, rfl, rfl, rfl, rfl, rfl, rfl, rfl, rfl, trivial⟩
       ·
        refine ⟨lst2, by first | assumption | (rw [filtN_T h29]; assumption) | (rw [filtN_F (by simpa using h29)]; assumption), by omega, by first | omega | (simp only [List.length_append, List.length_cons, List.length_nil] <;> omega) | (rw [filtN_T h29] <;> (first | omega | (simp only [List.length_append, List.length_cons, List.length_nil] <;> omega))) | (rw [filtN_F (by simpa using h29)] <;> (first | omega | (simp only [List.length_append, List.length_cons, List.length_nil] <;> omega))), ?_⟩
        omega
       ·
        (dsimp only; omega)
      ·
       try simp only [sps] at h29
       refine .skip ?_
       refine hK14 _ _ ?_
       refine .region ?_
       refine .m rfl rfl rfl (.add rfl rfl rfl (by omega) (by omega)) ?_
       refine .m rfl rfl rfl (.move rfl) ?_
       refine .nil ?_
       refine hKL2 ((e + 1, _, _)) _ _ ?_ ?_ ⟨rfl, rfl, rfl, rfl, rfl, rfl, rfl, rfl, rfl, rfl, trivial⟩
       ·
        refine ⟨lst2, by first | assumption | (rw [filtN_T h29]; assumption) | (rw [filtN_F (by simpa using h29)]; assumption), by omega, by first | omega | (simp only [List.length_append, List.length_cons, List.length_nil] <;> omega) | (rw [filtN_T h29] <;> (first | omega | (simp only [List.length_append, List.length_cons, List.length_nil] <;> omega))) | (rw [filtN_F (by simpa using h29)] <;> (first | omega | (simp only [List.length_append, List.length_cons, List.length_nil] <;> omega))), ?_⟩
        omega
       ·
        (dsimp only; omega)
     ·
      try simp only [sps] at h24
      refine .exit ?_
      refine hK10 _ _ ?_
      refine .region ?_
      obtain rfl : e = (f.sz.getD k 0).toNat := by omega
      obtain rfl := ln_L8
      refine .m rfl rfl rfl (.fieldAddr fo_34_0_VPrt rfl) ?_
      have c5 : GHeap.cell HL2 g5 (0 + 0) = some (.slice a k k) := by rw [GHeap.cell_of at_L5]; rfl
      refine .m rfl rfl rfl (.load on_23_B rfl (by assumption)) ?_
      refine .m rfl rfl rfl (.move rfl) ?_
      refine .r rfl rfl rfl (.litR rfl sl_23_B ze_22_E rfl rfl (by omega) (by omega) rfl rfl) ?_
      rintro _ H38 ⟨g38, rfl, le38, ge38, at38⟩
      have nx_H38 := le38.1
      replace hle := hle.trans le38
      replace lst1 := lst1.le le38
      replace rk := rk.le le38
      replace at4 := le38.2 _ _ at4
      replace at_L5 := le38.2 _ _ at_L5
      replace at_L8 := le38.2 _ _ at_L8
      have lt_at38 := GHeap.lt_of_get at38
      replace h := base_h.mono hle
      clear fsh c5 c6 i1 i2 hm hi hmsh hish
      obtain ⟨fsh, c5, c6, i1, i2⟩ := h.get
      have hm : MemN _ _ _ _ _ := ⟨rfl, h.1⟩
      have hi := h.2
      have hmsh : MemN _ _ _ _ _ := ⟨rfl, fsh.1⟩
      have hish := fsh.2
      clear mm1002
      have mm1002 : MemN _ _ _ _ _ := ⟨rfl, Mem.of_get at1002⟩
      have hA2 := hA.st rk (by omega)
      have L1 : Lasts 2 HL1 H38 := rk.lasts1 hat5 rfl
      have hsl : (slsOf rr (fun x => filtN (f.sz.getD x 0).toNat (Y x)) k).length = k := length_slsOf _ _ _
      obtain ⟨gA, w1, w2, w3, w4⟩ := hA2.where_ hA (Nat.le_refl _) (by omega) (by omega)
      refine .r rfl rfl rfl (.appendVN rfl sl_23_B ze_22_E rfl by_22_E sl_23_B rfl rfl hA2 w1 (by assumption) (by simp) (by omega) rfl rfl (by omega) (by omega)) ?_
      rintro _ H39 ⟨g39, rfl, st39, ge39, at39⟩
      have nx_H39 := st39.nx
      replace hle := hle.st st39 (fun k hk => ⟨by omega, trivial⟩)
      replace lst1 := lst1.st st39 (fun k hk ho => by simp only [out, and_true] at ho ⊢ <;> omega)
      replace at4 := st39.same _ _ ⟨by omega, trivial⟩ at4
      replace at_L5 := st39.same _ _ ⟨by omega, trivial⟩ at_L5
      replace at_L8 := st39.same _ _ ⟨by omega, trivial⟩ at_L8
      replace at38 := st39.same _ _ ⟨by omega, trivial⟩ at38
      have lt_at39 := GHeap.lt_of_get at39
      replace h := base_h.mono hle
      clear fsh c5 c6 i1 i2 hm hi hmsh hish
      obtain ⟨fsh, c5, c6, i1, i2⟩ := h.get
      have hm : MemN _ _ _ _ _ := ⟨rfl, h.1⟩
      have hi := h.2
      have hmsh : MemN _ _ _ _ _ := ⟨rfl, fsh.1⟩
      have hish := fsh.2
      clear mm1002
      have mm1002 : MemN _ _ _ _ _ := ⟨rfl, Mem.of_get at1002⟩
      refine .m rfl rfl rfl (.fieldAddr fo_34_0_VPrt rfl) ?_
      have at5b := at_L5
      refine .r0 rfl rfl (.storeR rfl sz_23_E rfl rfl rfl (by assumption) (by first | exact Nat.le_of_ble_eq_true rfl | simp)) ?_
      rintro _ H12006 ⟨rfl, st12006, at12006⟩
      have nx_H12006 := st12006.nx
      replace hle := hle.st st12006 (fun k hk => ⟨by omega, trivial⟩)
      replace lst1 := lst1.st st12006 (fun k hk ho => by simp only [out, and_true] at ho ⊢ <;> omega)
      replace at4 := st12006.same _ _ ⟨by omega, trivial⟩ at4
      replace at_L8 := st12006.same _ _ ⟨by omega, trivial⟩ at_L8
      replace at38 := st12006.same _ _ ⟨by omega, trivial⟩ at38
      replace at39 := st12006.same _ _ ⟨by omega, trivial⟩ at39
      have lt_at12006 := GHeap.lt_of_get at12006
      replace h := base_h.mono hle
      clear fsh c5 c6 i1 i2 hm hi hmsh hish
      obtain ⟨fsh, c5, c6, i1, i2⟩ := h.get
      have hm : MemN _ _ _ _ _ := ⟨rfl, h.1⟩
      have hi := h.2
      have hmsh : MemN _ _ _ _ _ := ⟨rfl, fsh.1⟩
      have hish := fsh.2
      clear mm1002
      have mm1002 : MemN _ _ _ _ _ := ⟨rfl, Mem.of_get at1002⟩
      refine .nil ?_
      refine hK7 _ _ ?_
      refine .region ?_
      refine .m rfl rfl rfl (.add rfl rfl rfl (by omega) (by omega)) ?_
      refine .m rfl rfl rfl (.move rfl) ?_
      refine .nil ?_
      refine hKL1 ((k + 1, upd rr k (some ⟨gL8, 0, none⟩), some ⟨g39, 0, none⟩, g39)) _ _ ?_ ?_ ⟨rfl, rfl, rfl, rfl, rfl, rfl, trivial⟩
      ·
       refine ⟨lst1, by assumption, ?_⟩
       exact ⟨by omega, hR.succ' ((L1.trans (st39.lastsA w2 rfl)).trans (st12006.lasts1 at5b rfl)) (by assumption) (by omega) (by omega), .inr ⟨rfl, by omega, by omega, by rw [slsOf_succ]; assumption⟩⟩
      ·
       (dsimp only; omega)
   ·
    try simp only [sps] at h17
    refine .exit ?_
    refine hK3 _ _ ?_
    refine .seq (fun K17 hK17 => ?_)
    refine .region ?_
    have mm5 : MemN HL1 g5 0 1 [.slice a k k] := ⟨rfl, Mem.of_get at_L5⟩
    refine .m rfl rfl rfl (.loadM ag_34_VPrt rfl ⟨rfl, Mem.of_get at_L5⟩) ?_
    refine .r0 rfl rfl (.fillR rfl sz_34_VPrt rfl rfl rfl rfl (by assumption) (by first | rfl | exact Nat.le_of_ble_eq_true rfl | simp)) ?_
    rintro _ H14001 ⟨rfl, st14001, at14001⟩
    have nx_H14001 := st14001.nx
    replace hle := hle.st st14001 (fun k hk => ⟨by omega, trivial⟩)
    replace at_L5 := st14001.same _ _ ⟨by omega, trivial⟩ at_L5
    have lt_at14001 := GHeap.lt_of_get at14001
    replace h := base_h.mono hle
    clear fsh c5 c6 i1 i2 hm hi hmsh hish
    obtain ⟨fsh, c5, c6, i1, i2⟩ := h.get
    have hm : MemN _ _ _ _ _ := ⟨rfl, h.1⟩
    have hi := h.2
    have hmsh : MemN _ _ _ _ _ := ⟨rfl, fsh.1⟩
    have hish := fsh.2
    clear mm1002
    have mm1002 : MemN _ _ _ _ _ := ⟨rfl, Mem.of_get at1002⟩
    have mm14001 : MemN _ _ _ _ _ := ⟨rfl, Mem.of_get at14001⟩
    refine .nil ?_
    refine hK17 _ _ ?_
    refine .ret ?_
    -- leaf e1
    refine hret _ _ ?_
    refine ⟨_, _, _, _, rfl, ag_34_VPrt, (by rfl), (Mem.of_get at14001), ?_⟩
    obtain rfl : k = f.sz.length := by omega
    exact ⟨hle, ⟨a, rr⟩, by simp only [SFun.pick, Prt.cells, length_rowsOf], (hR.keep (st14001.lasts1 at4 rfl)).done' (hA.st st14001 (by omega)) (by omega)⟩
end Go.Proofs.Ytbpehbbdodahaaa
/- Rows of truth values, made and written in place; parts that connectives make. No condition. -/
namespace Go.GL
def tabB (n : Nat) (p : Nat → Bool) : List Bool := (List.range n).map p
@[simp] theorem length_tabB (n : Nat) (p : Nat → Bool) : (tabB n p).length = n := by simp [tabB]
theorem tabB_get {n i : Nat} {p : Nat → Bool} (h : i < n) : (tabB n p).getD i false = p i := by simp [tabB, List.getD_eq_getElem?_getD, h]
theorem tabB_congr {n : Nat} {p q : Nat → Bool} (h : ∀ i, i < n → p i = q i) : tabB n p = tabB n q := List.map_congr_left fun i hi => h i (List.mem_range.1 hi)
theorem tabB_set (n : Nat) (p : Nat → Bool) (i : Nat) (v : Bool) : (tabB n p).set i v = tabB n (fun j => bif j == i then v else p j) := by
  apply List.ext_getElem (by simp)
  intro j h1 h2
  simp only [length_tabB] at h2
  rw [List.getElem_set]
  simp only [tabB, List.getElem_map, List.getElem_range]
  by_cases e : i = j
  · subst e; simp
  · rw [if_neg e]
    have : (j == i) = false := by simp; omega
    rw [this]; rfl
theorem tabB_false (n : Nat) : List.replicate n false = tabB n (fun _ => false) := by
  apply List.ext_getElem (by simp)
  intro j h1 h2
  simp [tabB]
/-- The first e numbers of a list, as marks. -/
def markP (xs : List Int) (e : Nat) : Nat → Bool := fun d => (xs.take e).contains (d : Int)
theorem markP_zero (xs : List Int) : markP xs 0 = fun _ => false := by funext d; simp [markP]
theorem markP_all (xs : List Int) : markP xs xs.length = fun d : Nat => xs.contains (d : Int) := by funext d; simp [markP]
theorem markP_succ {n e : Nat} {xs : List Int} (h : e < xs.length) (h0 : 0 ≤ xs.getD e 0) : tabB n (markP xs (e + 1)) = (tabB n (markP xs e)).set (xs.getD e 0).toNat true := by
  rw [tabB_set]
  refine tabB_congr fun d _ => ?_
  have e1 : xs[e]? = some (xs.getD e 0) := by simp [List.getD_eq_getElem?_getD, h]
  simp only [markP, List.take_add_one, e1, Option.toList_some, List.contains_append]
  have e2 : ([xs.getD e 0].contains (d : Int)) = (d == (xs.getD e 0).toNat) := by
    rw [Bool.eq_iff_iff]
    simp only [List.contains_cons, List.contains_nil, Bool.or_false, beq_iff_eq]
    omega
  rw [e2]
  cases (d == (xs.getD e 0).toNat) <;> simp

theorem Bools.tabS {H : GHeap} {a : Option Addr} {n : Nat} {p : Nat → Bool} (h : Bools H a (tabB n p)) : SlA H a n (fun i => .bool ((tabB n p).getD i false)) := by
  have h' : SlA H a (tabB n p).length _ := h
  rw [length_tabB] at h'
  exact h'
/-- Slices of whole rows. -/
def slsN (r : Nat → Nat) (L : Nat → Nat) (k : Nat) : List Value := (List.range k).map fun i => .slice (some ⟨r i, 0, none⟩) (L i) (L i)
@[simp] theorem length_slsN (r : Nat → Nat) (L : Nat → Nat) (k : Nat) : (slsN r L k).length = k := by simp [slsN]
def updN (r : Nat → Nat) (k g : Nat) : Nat → Nat := fun i => if i = k then g else r i
theorem updN_eq (r : Nat → Nat) (k g : Nat) : updN r k g k = g := by simp [updN]
theorem updN_ne {r : Nat → Nat} {k i g : Nat} (h : i ≠ k) : updN r k g i = r i := by simp [updN, h]
theorem slsN_succ {r : Nat → Nat} {L : Nat → Nat} {k g : Nat} : slsN (updN r k g) L (k + 1) = slsN r L k ++ [.slice (some ⟨g, 0, none⟩) (L k) (L k)] := by
  unfold slsN
  rw [List.range_succ, List.map_append]
  congr 1
  · refine List.map_congr_left fun i hi => ?_
    rw [updN_ne (by have := List.mem_range.1 hi; omega)]
  · simp [updN_eq]
/-- Rows of elements of type e live on. -/
def LastsV (e : TypeId) (H H' : GHeap) : Prop := ∀ x cs, H.get x = some (.row cs e true) → H'.get x = some (.row cs e true)
theorem LastsV.trans {e : TypeId} {A B C : GHeap} (h : LastsV e A B) (h' : LastsV e B C) : LastsV e A C := fun x xs hx => h' x xs (h x xs hx)
theorem LastsV.of_le {e : TypeId} {H H' : GHeap} (h : H.Le H') : LastsV e H H' := fun x cs hx => h.2 x _ hx
theorem St.lastsV1 {g0 : Nat} {H H' : GHeap} {e e' : TypeId} {cs : List Value} (s : St [g0] H H') (h0 : H.get g0 = some (.row cs e' true)) (hne : (e != e') = true) : LastsV e H H' := fun x xs hx => by
  simp only [bne_iff_ne, ne_eq] at hne
  refine s.same x _ ⟨fun ex => ?_, trivial⟩ hx
  subst ex
  rw [h0] at hx
  cases hx
  exact hne rfl
theorem St.lastsVA {g : Nat} {H H' : GHeap} {e e' : TypeId} (s : St [g] H H') (h : H.next ≤ g ∨ ∃ cs, H.get g = some (.row cs e' true)) (hne : (e != e') = true) : LastsV e H H' := fun x xs hx => by
  simp only [bne_iff_ne, ne_eq] at hne
  refine s.same x _ ⟨fun ex => ?_, trivial⟩ hx
  subst ex
  rcases h with h | ⟨cs, h⟩
  · have := GHeap.lt_of_get hx
    omega
  · rw [h] at hx
    cases hx
    exact hne rfl
/-- Rows of truth values, no two alike; L: their lengths, M: what they hold. -/
structure OwnB (b : Nat) (H : GHeap) (e : TypeId) (r : Nat → Nat) (L : Nat → Nat) (M : Nat → Nat → Bool) (k : Nat) : Prop where
  row : ∀ i, i < k → b ≤ r i ∧ H.get (r i) = some (.row (bools (tabB (L i) (M i))) e true)
  inj : ∀ i j, i < k → j < k → r i = r j → i = j
theorem OwnB.zero (b : Nat) (H : GHeap) (e : TypeId) (r : Nat → Nat) (L : Nat → Nat) (M : Nat → Nat → Bool) : OwnB b H e r L M 0 := ⟨fun i hi => by omega, fun i j hi => by omega⟩
theorem OwnB.keep {b k : Nat} {H H' : GHeap} {e : TypeId} {r : Nat → Nat} {L : Nat → Nat} {M : Nat → Nat → Bool} (h : OwnB b H e r L M k) (s : LastsV e H H') : OwnB b H' e r L M k := ⟨fun i hi => ⟨(h.row i hi).1, s _ _ (h.row i hi).2⟩, h.inj⟩
theorem OwnB.succ {b g k : Nat} {H H' : GHeap} {e : TypeId} {r : Nat → Nat} {L : Nat → Nat} {M : Nat → Nat → Bool} (h : OwnB b H e r L M k) (s : LastsV e H H')
    (hg : H'.get g = some (.row (bools (tabB (L k) (M k))) e true)) (hn : H.next ≤ g) (hb : b ≤ g) : OwnB b H' e (updN r k g) L M (k + 1) := by
  have lt : ∀ i, i < k → r i < g := fun i hi => Nat.lt_of_lt_of_le (GHeap.lt_of_get (h.row i hi).2) hn
  refine ⟨fun i hi => ?_, fun i j hi hj hij => ?_⟩
  · by_cases ek : i = k
    · subst ek; rw [updN_eq]; exact ⟨hb, hg⟩
    · rw [updN_ne ek]; exact ⟨(h.row i (by omega)).1, s _ _ (h.row i (by omega)).2⟩
  · by_cases ei : i = k
    · by_cases ej : j = k
      · omega
      · subst ei
        rw [updN_eq, updN_ne ej] at hij
        have := lt j (by omega)
        omega
    · by_cases ej : j = k
      · subst ej
        rw [updN_eq, updN_ne ei] at hij
        have := lt i (by omega)
        omega
      · rw [updN_ne ei, updN_ne ej] at hij
        exact h.inj i j (by omega) (by omega) hij
/-- A row is written to. -/
theorem OwnB.put {b k i : Nat} {H H' : GHeap} {e : TypeId} {r : Nat → Nat} {L : Nat → Nat} {M M' : Nat → Nat → Bool} (h : OwnB b H e r L M k) (hi : i < k) (s : St [r i] H H') (hg : H'.get (r i) = some (.row (bools (tabB (L i) (M' i))) e true))
    (hM : ∀ j, j < k → j ≠ i → ∀ d, d < L j → M' j d = M j d) : OwnB b H' e r L M' k := ⟨fun j hj => by
  by_cases ej : j = i
  · subst ej; exact ⟨(h.row j hj).1, hg⟩
  · refine ⟨(h.row j hj).1, ?_⟩
    rw [tabB_congr (hM j hj ej)]
    exact s.same _ _ ⟨fun er => ej (h.inj j i hj hi er), trivial⟩ (h.row j hj).2, h.inj⟩
theorem OwnB.congr {b k : Nat} {H : GHeap} {e : TypeId} {r : Nat → Nat} {L : Nat → Nat} {M M' : Nat → Nat → Bool} (h : OwnB b H e r L M k) (hM : ∀ j, j < k → ∀ d, d < L j → M' j d = M j d) : OwnB b H e r L M' k :=
  ⟨fun j hj => ⟨(h.row j hj).1, by rw [tabB_congr (hM j hj)]; exact (h.row j hj).2⟩, h.inj⟩
/-- A list of lists of truth values. -/
structure BMat (b : Nat) (H : GHeap) (g : Nat) (e1 e2 : TypeId) (r : Nat → Nat) (L : Nat → Nat) (M : Nat → Nat → Bool) (n : Nat) : Prop where
  hd : H.get g = some (.row (slsN r L n) e1 true)
  gb : b ≤ g
  own : OwnB b H e2 r L M n
theorem BMat.keep {b b' n g : Nat} {H H' : GHeap} {e1 e2 : TypeId} {r : Nat → Nat} {L : Nat → Nat} {M : Nat → Nat → Bool} (h : BMat b H g e1 e2 r L M n) (k : Keep b' H H') (hb : b' ≤ b) : BMat b' H' g e1 e2 r L M n :=
  ⟨k _ _ (by have := h.gb; omega) h.hd, by have := h.gb; omega, fun i hi => ⟨by have := (h.own.row i hi).1; omega, k _ _ (by have := (h.own.row i hi).1; omega) (h.own.row i hi).2⟩, h.own.inj⟩
theorem BMat.mono {b n g : Nat} {H H' : GHeap} {e1 e2 : TypeId} {r : Nat → Nat} {L : Nat → Nat} {M : Nat → Nat → Bool} (h : BMat b H g e1 e2 r L M n) (hle : H.Le H') : BMat b H' g e1 e2 r L M n :=
  ⟨hle.2 _ _ h.hd, h.gb, fun i hi => ⟨(h.own.row i hi).1, hle.2 _ _ (h.own.row i hi).2⟩, h.own.inj⟩
theorem BMat.congr {b n g : Nat} {H : GHeap} {e1 e2 : TypeId} {r : Nat → Nat} {L : Nat → Nat} {M M' : Nat → Nat → Bool} (h : BMat b H g e1 e2 r L M n) (hM : ∀ j, j < n → ∀ d, d < L j → M' j d = M j d) : BMat b H g e1 e2 r L M' n := ⟨h.hd, h.gb, h.own.congr hM⟩
theorem BMat.row {b n g i : Nat} {H : GHeap} {e1 e2 : TypeId} {r : Nat → Nat} {L : Nat → Nat} {M : Nat → Nat → Bool} (h : BMat b H g e1 e2 r L M n) (hi : i < n) : Bools H (some ⟨r i, 0, none⟩) (tabB (L i) (M i)) := Bools.of_get (h.own.row i hi).2
/-- Two matrices, the second made behind the first: no row of the one is one of the other. -/
theorem BMat.lt {b n g i : Nat} {H : GHeap} {e1 e2 : TypeId} {r : Nat → Nat} {L : Nat → Nat} {M : Nat → Nat → Bool} (h : BMat b H g e1 e2 r L M n) : g < H.next ∧ (i < n → r i < H.next) := ⟨GHeap.lt_of_get h.hd, fun hi => GHeap.lt_of_get (h.own.row i hi).2⟩
/-- The entries up to (k, l), row by row, are new ones. -/
def meetM (N A : Nat → Nat → Bool) (k l : Nat) : Nat → Nat → Bool := fun x e => bif decide (x < k) || (x == k && decide (e < l)) then N x e else A x e
theorem meetM_zero {N A : Nat → Nat → Bool} : meetM N A 0 0 = A := by funext x e; simp [meetM]
theorem meetM_next {N A : Nat → Nat → Bool} {k n : Nat} {L : Nat → Nat} : ∀ j, j < n → ∀ d, d < L j → meetM N A (k + 1) 0 j d = meetM N A k (L k) j d := fun j _ d hd => by
  unfold meetM
  congr 1
  rw [Bool.eq_iff_iff]
  simp only [Bool.or_eq_true, decide_eq_true_eq, Bool.and_eq_true, beq_iff_eq]
  constructor
  · rintro (h | ⟨_, h⟩)
    · by_cases e : j = k
      · subst e; exact .inr ⟨rfl, hd⟩
      · exact .inl (by omega)
    · omega
  · rintro (h | ⟨rfl, _⟩)
    · exact .inl (by omega)
    · exact .inl (by omega)
theorem meetM_done {N A : Nat → Nat → Bool} {n : Nat} : ∀ j, j < n → ∀ d, N j d = meetM N A n 0 j d := fun j hj d => by
  unfold meetM
  have : decide (j < n) = true := by simpa using hj
  rw [this]; rfl
theorem meetM_at {N A : Nat → Nat → Bool} {k l : Nat} : meetM N A k l k l = A k l := by
  unfold meetM
  have : (decide (k < k) || (k == k && decide (l < l))) = false := by simp
  rw [this]; rfl
theorem meetM_set {N A : Nat → Nat → Bool} {k l n : Nat} {v : Bool} (hv : v = N k l) : (tabB n (meetM N A k l k)).set l v = tabB n (meetM N A k (l + 1) k) := by
  rw [tabB_set]
  refine tabB_congr fun d _ => ?_
  unfold meetM
  by_cases e : d = l
  · subst e
    have h1 : (d == d) = true := by simp
    have h2 : (decide (k < k) || (k == k && decide (d < d + 1))) = true := by simp
    rw [h1, h2, hv]; rfl
  · have h1 : (d == l) = false := by simpa using e
    have h2 : (decide (k < k) || (k == k && decide (d < l + 1))) = (decide (k < k) || (k == k && decide (d < l))) := by
      rw [Bool.eq_iff_iff]; simp; omega
    rw [h1, h2]; rfl
theorem meetM_other {N A : Nat → Nat → Bool} {k l n : Nat} {L : Nat → Nat} : ∀ j, j < n → j ≠ k → ∀ d, d < L j → meetM N A k (l + 1) j d = meetM N A k l j d := fun j _ hne d _ => by
  unfold meetM
  have h1 : (j == k) = false := by simpa using hne
  simp [h1]
theorem BMat.sl {b n g : Nat} {H : GHeap} {e1 e2 : TypeId} {r : Nat → Nat} {L : Nat → Nat} {M : Nat → Nat → Bool} (h : BMat b H g e1 e2 r L M n) : SlA H (some ⟨g, 0, none⟩) n (fun i => .slice (some ⟨r i, 0, none⟩) (L i) (L i)) :=
  .inr ⟨g, 0, rfl, fun i hi => by rw [GHeap.cell_of h.hd, Nat.zero_add]; simp [slsN, hi]⟩
theorem BMat.put {b n g i : Nat} {H H' : GHeap} {e1 e2 : TypeId} {r : Nat → Nat} {L : Nat → Nat} {M M' : Nat → Nat → Bool} (h : BMat b H g e1 e2 r L M n) (hi : i < n) (s : St [r i] H H') (hg : H'.get (r i) = some (.row (bools (tabB (L i) (M' i))) e2 true))
    (hM : ∀ j, j < n → j ≠ i → ∀ d, d < L j → M' j d = M j d) (hne : (e1 != e2) = true) : BMat b H' g e1 e2 r L M' n := ⟨by
    simp only [bne_iff_ne, ne_eq] at hne
    refine s.same _ _ ⟨fun ex => ?_, trivial⟩ h.hd
    have h1 := h.hd
    rw [ex, (h.own.row i hi).2] at h1
    injection h1 with h1
    injection h1 with _ h1 _
    exact hne h1.symm, h.gb, h.own.put hi s hg hM⟩
/-- Another matrix of rows of its own stays when a row of this one is written to. -/
theorem BMat.st {b n g k : Nat} {H H' : GHeap} {e1 e2 : TypeId} {r : Nat → Nat} {L : Nat → Nat} {M : Nat → Nat → Bool} (h : BMat b H g e1 e2 r L M n) (s : St [k] H H') (hlt : k < b) : BMat b H' g e1 e2 r L M n :=
  ⟨s.same _ _ ⟨by have := h.gb; omega, trivial⟩ h.hd, h.gb, fun i hi => ⟨(h.own.row i hi).1, s.same _ _ ⟨by have := (h.own.row i hi).1; omega, trivial⟩ (h.own.row i hi).2⟩, h.own.inj⟩
def NewBMat (e1 e2 : TypeId) (H : GHeap) (L : Nat → Nat) (M : Nat → Nat → Bool) (n : Nat) (v : Value) (H' : GHeap) : Prop := H.Le H' ∧ ∃ g r, v = .slice (some ⟨g, 0, none⟩) n n ∧ BMat H.next H' g e1 e2 r L M n

def hasL (me : List (List Int)) (x e : Nat) : Bool := (me.getD x []).contains (e : Int)
def opL (op : Bool → Bool → Bool) (p q : List (List Int)) (x e : Nat) : Bool := op (hasL p x e) (hasL q x e)
theorem markP_has {me : List (List Int)} {k : Nat} : markP (me.getD k []) (me.getD k []).length = hasL me k := markP_all _
/-- A connective of two parts. -/
def SFun.conn (f : SFun) (op : Bool → Bool → Bool) (p q : List (List Int)) : Prt := f.pick (opL op p q)
noncomputable def SFun.con (f : SFun) (op : Bool → Bool → Bool) (p q : List (List Int)) : Prt := bif B (f.Is ∧ f.Part p ∧ f.Part q) then f.conn op p q else ⟨[]⟩
noncomputable def SFun.conC (f : SFun) (p q : List (List Int)) : Int := bif B (f.Is ∧ f.Part p ∧ f.Part q) then 0 else 1
theorem SFun.con_not {f : SFun} {op : Bool → Bool → Bool} {p q : List (List Int)} (h : ¬ (f.Is ∧ f.Part p ∧ f.Part q)) : f.con op p q = ⟨[]⟩ ∧ f.conC p q = 1 := by unfold SFun.con SFun.conC; rw [B_false h]; exact ⟨rfl, rfl⟩
theorem SFun.con_ok {f : SFun} {op : Bool → Bool → Bool} {p q : List (List Int)} (h : f.Is ∧ f.Part p ∧ f.Part q) : f.con op p q = f.conn op p q ∧ f.conC p q = 0 := by unfold SFun.con SFun.conC; rw [B_true h]; exact ⟨rfl, rfl⟩
theorem SFun.pick_small {f : SFun} (hs : f.Small) (hz : ∀ i, i < f.sz.length → 0 ≤ f.sz.getD i 0 ∧ f.sz.getD i 0 ≤ 16) (Y : Nat → Nat → Bool) : (f.pick Y).Small := by
  obtain ⟨_, h2, _, _⟩ := hs
  refine ⟨by simp only [SFun.pick, length_rowsOf]; omega, fun i => ?_⟩
  simp only [SFun.pick]
  by_cases hi : i < f.sz.length
  · rw [rowsOf_get hi]
    have := hz i hi
    exact Nat.le_trans (filtN_le _ _) (by omega)
  · rw [List.getD_eq_getElem?_getD, List.getElem?_eq_none (by rw [length_rowsOf]; omega)]
    simp
theorem SFun.con_small {f : SFun} {op : Bool → Bool → Bool} {p q : List (List Int)} (hs : f.Small) : (f.con op p q).Small := by
  by_cases h : f.Is ∧ f.Part p ∧ f.Part q
  · rw [(SFun.con_ok h).1]; exact SFun.pick_small hs h.1.1.sz _
  · rw [(SFun.con_not h).1]; exact ⟨by simp, fun i => by simp⟩
/-- The image of a part under a map. -/
def SMap.dirY (m : SMap) (p : List (List Int)) (x d : Nat) : Bool := (p.getD x []).any fun e => (m.pa.getD x []).getD e.toNat 0 == (d : Int)
/-- The marks after k rows and l elements of row k. -/
def SMap.dirM (m : SMap) (p : List (List Int)) (k l : Nat) : Nat → Nat → Bool := fun x d => bif decide (x < k) then m.dirY p x d else bif x == k then ((p.getD k []).take l).any (fun e => (m.pa.getD k []).getD e.toNat 0 == (d : Int)) else false
theorem SMap.dirM_zero {m : SMap} {p : List (List Int)} : m.dirM p 0 0 = fun _ _ => false := by
  funext x d; unfold SMap.dirM
  have : decide (x < 0) = false := by simp
  rw [this]
  cases (x == 0) <;> simp
theorem SMap.dirM_next {m : SMap} {p : List (List Int)} {k n : Nat} {L : Nat → Nat} : ∀ j, j < n → ∀ d, d < L j → m.dirM p (k + 1) 0 j d = m.dirM p k (p.getD k []).length j d := fun j _ d _ => by
  unfold SMap.dirM
  rcases Nat.lt_trichotomy j k with h | h | h
  · have h1 : decide (j < k + 1) = true := by simp; omega
    have h2 : decide (j < k) = true := by simpa using h
    rw [h1, h2]; rfl
  · subst h
    have h1 : decide (j < j + 1) = true := by simp
    have h2 : decide (j < j) = false := by simp
    have h3 : (j == j) = true := by simp
    rw [h1, h2, h3, List.take_length]; rfl
  · have h1 : decide (j < k + 1) = false := by simp; omega
    have h2 : decide (j < k) = false := by simp; omega
    have h3 : (j == k) = false := by simp; omega
    rw [h1, h2, h3]
    cases (j == k + 1) <;> simp
theorem SMap.dirM_done {m : SMap} {p : List (List Int)} {n : Nat} : ∀ j, j < n → ∀ d, m.dirY p j d = m.dirM p n 0 j d := fun j hj d => by
  unfold SMap.dirM
  have : decide (j < n) = true := by simpa using hj
  rw [this]; rfl
theorem SMap.dirM_set {m : SMap} {p : List (List Int)} {k l n i : Nat} (hl : l < (p.getD k []).length) (hi : (m.pa.getD k []).getD ((p.getD k []).getD l 0).toNat 0 = (i : Int)) : (tabB n (m.dirM p k l k)).set i true = tabB n (m.dirM p k (l + 1) k) := by
  rw [tabB_set]
  refine tabB_congr fun d _ => ?_
  unfold SMap.dirM
  have h2 : decide (k < k) = false := by simp
  have h3 : (k == k) = true := by simp
  rw [h2, h3]
  have e1 : (p.getD k [])[l]? = some ((p.getD k []).getD l 0) := by rw [List.getD_eq_getElem?_getD (i := l), List.getElem?_eq_getElem hl]; rfl
  simp only [cond_false, cond_true, List.take_add_one, e1, Option.toList_some, List.any_append, List.any_cons, List.any_nil, Bool.or_false, hi]
  by_cases e : d = i
  · subst e; simp
  · have h4 : (d == i) = false := by simpa using e
    have h5 : ((i : Int) == (d : Int)) = false := by simp; omega
    rw [h4, h5]; simp
theorem SMap.dirM_other {m : SMap} {p : List (List Int)} {k l n : Nat} {L : Nat → Nat} : ∀ j, j < n → j ≠ k → ∀ d, d < L j → m.dirM p k (l + 1) j d = m.dirM p k l j d := fun j _ hne d _ => by
  unfold SMap.dirM
  have h1 : (j == k) = false := by simpa using hne
  rw [h1]; rfl
noncomputable def SMap.dir (m : SMap) (p : List (List Int)) : Prt := bif B (m.Is ∧ m.s.Part p) then m.t.pick (m.dirY p) else ⟨[]⟩
noncomputable def SMap.dirC (m : SMap) (p : List (List Int)) : Int := bif B (m.Is ∧ m.s.Part p) then 0 else 1
theorem SMap.dir_not {m : SMap} {p : List (List Int)} (h : ¬ (m.Is ∧ m.s.Part p)) : m.dir p = ⟨[]⟩ ∧ m.dirC p = 1 := by unfold SMap.dir SMap.dirC; rw [B_false h]; exact ⟨rfl, rfl⟩
theorem SMap.dir_ok {m : SMap} {p : List (List Int)} (h : m.Is ∧ m.s.Part p) : m.dir p = m.t.pick (m.dirY p) ∧ m.dirC p = 0 := by unfold SMap.dir SMap.dirC; rw [B_true h]; exact ⟨rfl, rfl⟩
theorem SMap.dir_small {m : SMap} {p : List (List Int)} (hs : m.Small) : (m.dir p).Small := by
  by_cases h : m.Is ∧ m.s.Part p
  · rw [(SMap.dir_ok h).1]; exact SFun.pick_small hs.2.1 h.1.1.t.1.sz _
  · rw [(SMap.dir_not h).1]; exact ⟨by simp, fun i => by simp⟩
end Go.GL
