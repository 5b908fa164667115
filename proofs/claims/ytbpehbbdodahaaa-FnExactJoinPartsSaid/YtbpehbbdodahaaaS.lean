/- Parts of set functors. No condition but those of each statement. -/
import Derived.Test.YtbpehbbdodahaaaQ
import Derived.Test.YtbpehbbdodahaaaN
import Derived.Test.YtbpehbbdodahaaaVPrt
import Derived.Test.YtbpehbbdodahaaaGlY
namespace Go.Proofs.Ytbpehbbdodahaaa
open Go Go.GL Go.RowKit Go.Proofs
theorem sl_99_S : sliceT Try.prog 99 = some (34, 1) := by kernel_rfl
theorem rising_c {a : Option Addr} {xs : List Int} {H : GHeap} (h : Ints H a xs := by assumption) (hl : xs.length ≤ 1048576 := by omega) :
    GCalls Try.prog 63 [.slice a xs.length xs.length] H (Ret (.bool (B (Rising xs))) H) := by
  refine GCalls.body (N := 20) (rs := [.tmp 2]) Try.func63 rfl rfl rfl rfl (fun Qx hret hend => ?_)
  refine .forget (fr' := [(0, some _)]) ⟨rfl, trivial⟩ ?_
  refine .seq (fun K1 hK1 => ?_)
  refine .region ?_
  refine .m rfl rfl rfl (.assign rfl) ?_
  refine .nil ?_
  refine hK1 _ _ ?_
  refine .seq (fun K2 hK2 => ?_)
  refine .seq (fun K3 hK3 => ?_)
  refine .region ?_
  refine .m rfl rfl rfl (.assign rfl) ?_
  refine .nil ?_
  refine hK3 _ _ ?_
  refine .block ?_
  refine .loopR (σ := Nat) [(0, some _)] (fun k => [(3, some (.int .i64 (k : Int)))]) (fun k H' => H = H' ∧ 1 ≤ k ∧ k ≤ xs.length + 1 ∧ ∀ i, 1 ≤ i → i < k → i < xs.length → xs.getD (i - 1) 0 < xs.getD i 0) (fun k => xs.length + 1 - k) (1) ⟨rfl, trivial⟩ ⟨rfl, trivial⟩ ?_ ?_
  ·
   refine ⟨rfl, ?_⟩
   exact ⟨by omega, by omega, fun _ _ _ => by omega⟩
  ·
   rintro k _ ⟨rfl, hI⟩ KL1 hKL1
   refine .forget (fr' := [(3, some (.int .i64 (k : Int))), (0, some _)]) ⟨rfl, rfl, trivial⟩ ?_
   obtain ⟨hk0, hk, ha⟩ := hI
   have ek : ((k : Int) - 1).toNat = k - 1 := by omega
   refine .seq (fun K4 hK4 => ?_)
   refine .seq (fun K5 hK5 => ?_)
   refine .region ?_
   refine .m rfl rfl rfl (.move rfl) ?_
   refine .m rfl rfl rfl (.move rfl) ?_
   refine .m rfl rfl rfl (.len sl_22_A rfl) ?_
   refine .m rfl rfl rfl (.cmp rfl rfl rfl) ?_
   refine .nil ?_
   refine hK5 _ _ ?_
   refine .cond rfl (fun h7 => ?_) (fun h7 => ?_)
   ·
    try simp only [sps] at h7
    refine .skip ?_
    refine hK4 _ _ ?_
    refine .seq (fun K6 hK6 => ?_)
    refine .block ?_
    refine .seq (fun K7 hK7 => ?_)
    refine .regionD mixed_orders_B (.q 0 (.q 1 (.q 2 (.q 3 (.q 4 (.q 5 (.q 6 (.q 7 (.q 8 (.q 9 (.done))))))))))) (by kernel_rfl) ?_
    refine .m rfl rfl rfl rfl (.refl _) (.move rfl) ?_
    refine .m rfl rfl rfl rfl (.refl _) (.move rfl) ?_
    refine .m rfl rfl rfl rfl (.refl _) (.sub rfl rfl rfl (by omega) (by omega)) ?_
    refine .m rfl rfl rfl rfl (.refl _) (.idx1 sl_22_A (by assumption) rfl rfl (by omega) (by omega)) ?_
    refine .m rfl rfl rfl rfl (.refl _) (.loadI on_2_A (by assumption) rfl (by omega)) ?_
    refine .m rfl rfl rfl rfl (.refl _) (.move rfl) ?_
    refine .m rfl rfl rfl rfl (.refl _) (.move rfl) ?_
    refine .m rfl rfl rfl rfl (.refl _) (.idxN sl_22_A (by assumption) rfl rfl (by omega)) ?_
    refine .m rfl rfl rfl rfl (.refl _) (.loadI on_2_A (by assumption) rfl (by omega)) ?_
    refine .m rfl rfl rfl rfl (.refl _) (.cmp rfl rfl rfl) ?_
    refine .done ?_
    refine hK7 _ _ ?_
    refine .cond rfl (fun h19 => ?_) (fun h19 => ?_)
    ·
     try simp only [sps] at h19
     refine .seq (fun K8 hK8 => ?_)
     refine .region ?_
     refine .m rfl rfl rfl (.assign rfl) ?_
     refine .nil ?_
     refine hK8 _ _ ?_
     refine .ret ?_
     -- leaf e1
     refine hret _ _ ?_
     refine ⟨_, rfl, ?_⟩
     exact .of (congrArg _ (B_false fun hh => by have := hh k (by omega) (by omega); rw [ek] at h19; omega))
    ·
     try simp only [sps] at h19
     refine .skip ?_
     refine hK6 _ _ ?_
     refine .region ?_
     refine .m rfl rfl rfl (.move rfl) ?_
     refine .m rfl rfl rfl (.add rfl rfl rfl (by omega) (by omega)) ?_
     refine .m rfl rfl rfl (.assign rfl) ?_
     refine .nil ?_
     refine hKL1 (k + 1) _ _ ?_ ?_ ⟨rfl, rfl, trivial⟩
     ·
      refine ⟨rfl, ?_⟩
      refine ⟨by omega, by omega, fun i h1 hi h2 => ?_⟩
      by_cases e : i < k
      · exact ha i h1 e h2
      · obtain rfl : i = k := by omega
        rw [ek] at h19
        exact h19
     ·
      omega
   ·
    try simp only [sps] at h7
    refine .exit ?_
    refine hK2 _ _ ?_
    refine .seq (fun K9 hK9 => ?_)
    refine .region ?_
    refine .m rfl rfl rfl (.assign rfl) ?_
    refine .nil ?_
    refine hK9 _ _ ?_
    refine .ret ?_
    -- leaf e2
    refine hret _ _ ?_
    refine ⟨_, rfl, ?_⟩
    exact .of (congrArg _ (B_true fun i h1 h2 => ha i h1 (by omega) h2))
theorem l02Rises_c {a : Option Addr} {xs : List Int} {H : GHeap} (h : Ints H a xs := by assumption) (hl : xs.length ≤ 1048576 := by omega) :
    GCalls Try.prog 58 [.slice a xs.length xs.length] H (Ret (.bool (B (Rising xs))) H) := by
  refine GCalls.body (N := 20) (rs := [.tmp 2]) Try.func58 rfl rfl rfl rfl (fun Qx hret hend => ?_)
  refine .forget (fr' := [(0, some _)]) ⟨rfl, trivial⟩ ?_
  refine .seq (fun K1 hK1 => ?_)
  refine .region ?_
  refine .m rfl rfl rfl (.assign rfl) ?_
  refine .nil ?_
  refine hK1 _ _ ?_
  refine .seq (fun K2 hK2 => ?_)
  refine .seq (fun K3 hK3 => ?_)
  refine .region ?_
  refine .m rfl rfl rfl (.assign rfl) ?_
  refine .nil ?_
  refine hK3 _ _ ?_
  refine .block ?_
  refine .loopR (σ := Nat) [(0, some _)] (fun k => [(3, some (.int .i64 (k : Int)))]) (fun k H' => H = H' ∧ 1 ≤ k ∧ k ≤ xs.length + 1 ∧ ∀ i, 1 ≤ i → i < k → i < xs.length → xs.getD (i - 1) 0 < xs.getD i 0) (fun k => xs.length + 1 - k) (1) ⟨rfl, trivial⟩ ⟨rfl, trivial⟩ ?_ ?_
  ·
   refine ⟨rfl, ?_⟩
   exact ⟨by omega, by omega, fun _ _ _ => by omega⟩
  ·
   rintro k _ ⟨rfl, hI⟩ KL1 hKL1
   refine .forget (fr' := [(3, some (.int .i64 (k : Int))), (0, some _)]) ⟨rfl, rfl, trivial⟩ ?_
   obtain ⟨hk0, hk, ha⟩ := hI
   have ek : ((k : Int) - 1).toNat = k - 1 := by omega
   refine .seq (fun K4 hK4 => ?_)
   refine .seq (fun K5 hK5 => ?_)
   refine .region ?_
   refine .m rfl rfl rfl (.move rfl) ?_
   refine .m rfl rfl rfl (.move rfl) ?_
   refine .m rfl rfl rfl (.len sl_22_A rfl) ?_
   refine .m rfl rfl rfl (.cmp rfl rfl rfl) ?_
   refine .nil ?_
   refine hK5 _ _ ?_
   refine .cond rfl (fun h7 => ?_) (fun h7 => ?_)
   ·
    try simp only [sps] at h7
    refine .skip ?_
    refine hK4 _ _ ?_
    refine .seq (fun K6 hK6 => ?_)
    refine .block ?_
    refine .seq (fun K7 hK7 => ?_)
    refine .regionD mixed_orders_B (.q 0 (.q 1 (.q 2 (.q 3 (.q 4 (.q 5 (.q 6 (.q 7 (.q 8 (.q 9 (.done))))))))))) (by kernel_rfl) ?_
    refine .m rfl rfl rfl rfl (.refl _) (.move rfl) ?_
    refine .m rfl rfl rfl rfl (.refl _) (.move rfl) ?_
    refine .m rfl rfl rfl rfl (.refl _) (.idxN sl_22_A (by assumption) rfl rfl (by omega)) ?_
    refine .m rfl rfl rfl rfl (.refl _) (.loadI on_2_A (by assumption) rfl (by omega)) ?_
    refine .m rfl rfl rfl rfl (.refl _) (.move rfl) ?_
    refine .m rfl rfl rfl rfl (.refl _) (.move rfl) ?_
    refine .m rfl rfl rfl rfl (.refl _) (.sub rfl rfl rfl (by omega) (by omega)) ?_
    refine .m rfl rfl rfl rfl (.refl _) (.idx1 sl_22_A (by assumption) rfl rfl (by omega) (by omega)) ?_
    refine .m rfl rfl rfl rfl (.refl _) (.loadI on_2_A (by assumption) rfl (by omega)) ?_
    refine .m rfl rfl rfl rfl (.refl _) (.cmp rfl rfl rfl) ?_
    refine .done ?_
    refine hK7 _ _ ?_
    refine .cond rfl (fun h19 => ?_) (fun h19 => ?_)
    ·
     try simp only [sps] at h19
     refine .seq (fun K8 hK8 => ?_)
     refine .region ?_
     refine .m rfl rfl rfl (.assign rfl) ?_
     refine .nil ?_
     refine hK8 _ _ ?_
     refine .ret ?_
     -- leaf e1
     refine hret _ _ ?_
     refine ⟨_, rfl, ?_⟩
     exact .of (congrArg _ (B_false fun hh => by have := hh k (by omega) (by omega); rw [ek] at h19; omega))
    ·
     try simp only [sps] at h19
     refine .skip ?_
     refine hK6 _ _ ?_
     refine .region ?_
     refine .m rfl rfl rfl (.move rfl) ?_
     refine .m rfl rfl rfl (.add rfl rfl rfl (by omega) (by omega)) ?_
     refine .m rfl rfl rfl (.assign rfl) ?_
     refine .nil ?_
     refine hKL1 (k + 1) _ _ ?_ ?_ ⟨rfl, rfl, trivial⟩
     ·
      refine ⟨rfl, ?_⟩
      refine ⟨by omega, by omega, fun i h1 hi h2 => ?_⟩
      by_cases e : i < k
      · exact ha i h1 e h2
      · obtain rfl : i = k := by omega
        rw [ek] at h19
        exact h19
     ·
      omega
   ·
    try simp only [sps] at h7
    refine .exit ?_
    refine hK2 _ _ ?_
    refine .seq (fun K9 hK9 => ?_)
    refine .region ?_
    refine .m rfl rfl rfl (.assign rfl) ?_
    refine .nil ?_
    refine hK9 _ _ ?_
    refine .ret ?_
    -- leaf e2
    refine hret _ _ ?_
    refine ⟨_, rfl, ?_⟩
    exact .of (congrArg _ (B_true fun i h1 h2 => ha i h1 (by omega) h2))
theorem isPart_c {g o : Nat} {f : SFun} {p : SFunP} {m : Prt} {q : PrtP} {H : GHeap} (h : SFun.At H g o f p := by assumption) (hin : m.In H q := by assumption) (hI : f.Is := by assumption) (hs : m.Small := by assumption) :
    GCalls Try.prog 34 [.pointer (some ⟨g, o, none⟩), .agg (m.cells q).toArray] H (Ret (.bool (B (f.Part m.me))) H) := by
  refine GCalls.ret rfl ?_
  refine GCalls.body (N := 91) (rs := [.tmp 4]) Try.func34 rfl rfl rfl rfl (fun Qx hret hend => ?_)
  refine .forget (fr' := [(0, some _), (1, some _)]) ⟨rfl, rfl, trivial⟩ ?_
  have hle := GHeap.Le.refl H
  have base_h := h
  have base_hin := hin
  obtain ⟨fsh, c5, c6, i1, i2⟩ := h.get
  have hm : MemN _ _ _ _ _ := ⟨rfl, h.1⟩
  have hi := h.2
  have hmsh : MemN _ _ _ _ _ := ⟨rfl, fsh.1⟩
  have hish := fsh.2
  obtain ⟨d0, d1, d2, d3, d4, e1, e2, e3, e4⟩ := fsh.get
  have hS := hI.1
  have hC := hS.c.1
  obtain ⟨w1, w2⟩ := hs
  have q1 := hC.tl
  have q2 := hC.n40
  have q3 := hS.al
  have q4 := hS.zl
  have q5 := hC.obj
  refine .seq (fun K1 hK1 => ?_)
  refine .region ?_
  refine .r rfl rfl rfl (.boxR rfl sz_34_VPrt rfl) ?_
  rintro _ H3 ⟨g3, rfl, le3, ge3, at3⟩
  have nx_H3 := le3.1
  replace hle := hle.trans le3
  have lt_at3 := GHeap.lt_of_get at3
  replace h := base_h.mono hle
  replace hin := base_hin.mono hle
  clear fsh c5 c6 i1 i2 hm hi hmsh hish d0 d1 d2 d3 d4 e1 e2 e3 e4
  obtain ⟨fsh, c5, c6, i1, i2⟩ := h.get
  have hm : MemN _ _ _ _ _ := ⟨rfl, h.1⟩
  have hi := h.2
  have hmsh : MemN _ _ _ _ _ := ⟨rfl, fsh.1⟩
  have hish := fsh.2
  obtain ⟨d0, d1, d2, d3, d4, e1, e2, e3, e4⟩ := fsh.get
  have hb3 : Prt.At _ g3 0 m q := ⟨Mem.of_get at3, hin⟩
  obtain ⟨c03, i03⟩ := hb3.get
  have hm3 : MemN _ _ _ _ _ := ⟨rfl, hb3.1⟩
  have hi3 := hb3.2
  refine .m rfl rfl rfl (.assign rfl) ?_
  refine .nil ?_
  refine hK1 _ _ ?_
  refine .seq (fun K2 hK2 => ?_)
  refine .seq (fun K3 hK3 => ?_)
  refine .regionD mixed_orders_B (.q 0 (.q 1 (.q 2 (.q 3 (.q 4 (.q 5 (.q 6 (.q 7 (.q 8 (.done)))))))))) (by kernel_rfl) ?_
  refine .m rfl rfl rfl rfl (.refl _) (.fieldAddr fo_34_0_VPrt rfl) ?_
  refine .m rfl rfl rfl rfl (.refl _) (.load on_23_B rfl (by assumption)) ?_
  refine .m rfl rfl rfl rfl (.refl _) (.len sl_23_B rfl) ?_
  refine .m rfl rfl rfl rfl (.refl _) (.move rfl) ?_
  refine .m rfl rfl rfl rfl (.refl _) (.nilCheck rfl) ?_
  refine .m rfl rfl rfl rfl (.refl _) (.fieldAddr fo_39_1_P rfl) ?_
  refine .m rfl rfl rfl rfl (.refl _) (.load on_22_B rfl (by assumption)) ?_
  refine .m rfl rfl rfl rfl (.refl _) (.len sl_22_A rfl) ?_
  refine .m rfl rfl rfl rfl (.refl _) (.cmp rfl rfl rfl) ?_
  refine .done ?_
  refine hK3 _ _ ?_
  refine .cond rfl (fun h19 => ?_) (fun h19 => ?_)
  ·
   try simp only [sps] at h19
   refine .seq (fun K4 hK4 => ?_)
   refine .region ?_
   refine .m rfl rfl rfl (.assign rfl) ?_
   refine .nil ?_
   refine hK4 _ _ ?_
   refine .ret ?_
   -- leaf e1
   refine hret _ _ ?_
   refine ⟨_, rfl, ?_⟩
   exact ⟨congrArg _ (B_false fun hh => by have := hh.pl; omega), hle⟩
  ·
   try simp only [sps] at h19
   refine .skip ?_
   refine hK2 _ _ ?_
   refine .seq (fun K5 hK5 => ?_)
   refine .seq (fun K6 hK6 => ?_)
   refine .region ?_
   refine .m rfl rfl rfl (.fieldAddr fo_34_0_VPrt rfl) ?_
   refine .m rfl rfl rfl (.load on_23_B rfl (by assumption)) ?_
   refine .m rfl rfl rfl (.len sl_23_B rfl) ?_
   refine .m rfl rfl rfl (.move rfl) ?_
   refine .nil ?_
   refine hK6 _ _ ?_
   refine .block ?_
   refine .loopR (σ := Nat) [(0, some _), (3, some _), (21, some _), (22, some _)] (fun k => [(23, some (.int .i64 (k : Int)))]) (fun k H' => H3 = H' ∧ (k : Int) ≤ m.me.length ∧ ∀ x, x < k → Rising (m.me.getD x []) ∧ allIn (m.me.getD x []) (f.sz.getD x 0) = true) (fun k => (m.me.length - k : Int).toNat) (0) ⟨rfl, rfl, rfl, rfl, trivial⟩ ⟨rfl, trivial⟩ ?_ ?_
   ·
    refine ⟨rfl, ?_⟩
    exact ⟨by omega, fun _ _ => by omega⟩
   ·
    rintro k _ ⟨rfl, hI⟩ KL1 hKL1
    refine .forget (fr' := [(23, some (.int .i64 (k : Int))), (0, some _), (3, some _), (21, some _), (22, some _)]) ⟨rfl, rfl, rfl, rfl, rfl, trivial⟩ ?_
    obtain ⟨hk1, ha1⟩ := hI
    refine .seq (fun K7 hK7 => ?_)
    refine .region ?_
    refine .m rfl rfl rfl (.cmp rfl rfl rfl) ?_
    refine .nil ?_
    refine hK7 _ _ ?_
    refine .seq (fun K8 hK8 => ?_)
    refine .cond rfl (fun h24 => ?_) (fun h24 => ?_)
    ·
     simp only [sps] at h24
     have r1 := i03.2 k (by omega)
     have r2 := hS.sz k (by omega)
     have r3 := w2 k
     refine .skip ?_
     refine hK8 _ _ ?_
     refine .seq (fun K9 hK9 => ?_)
     refine .block ?_
     refine .seq (fun K10 hK10 => ?_)
     refine .region ?_
     refine .m rfl rfl rfl (.move rfl) ?_
     refine .m rfl rfl rfl (.idxN sl_23_B (Intss.sl (by assumption)) rfl rfl (by omega)) ?_
     refine .m rfl rfl rfl (.loadR on_22_B (by assumption) rfl (by omega)) ?_
     refine .m rfl rfl rfl (.assign rfl) ?_
     refine .m rfl rfl rfl (.assign rfl) ?_
     refine .nil ?_
     refine hK10 _ _ ?_
     refine .seq (fun K11 hK11 => ?_)
     refine .region ?_
     refine .m rfl rfl rfl (.move rfl) ?_
     refine .callQ rfl rfl rfl rfl @Try.call63 rfl (rising_c) ?_
     refine .m rfl rfl rfl (.not rfl) ?_
     refine .m rfl rfl rfl (.move rfl) ?_
     refine .split (fun h31 => ?_) (fun h31 => ?_)
     ·
      simp only [B_iff, B_not, Bool.not_eq_true', Bool.not_eq_false'] at h31
      refine .sg rfl rfl rfl rfl rfl ?_
      refine .sg rfl rfl rfl rfl rfl ?_
      refine .sg rfl rfl rfl rfl rfl ?_
      refine .sg rfl rfl rfl rfl rfl ?_
      refine .sg rfl rfl rfl rfl rfl ?_
      refine .sg rfl rfl rfl rfl rfl ?_
      refine .sg rfl rfl rfl rfl rfl ?_
      refine .sg rfl rfl rfl rfl rfl ?_
      refine .sg rfl rfl rfl rfl rfl ?_
      refine .sg rfl rfl rfl rfl rfl ?_
      refine .m rfl rfl rfl (.pickT rfl rfl) ?_
      refine .nil ?_
      refine hK11 _ _ ?_
      refine .condT rfl ?_
      refine .seq (fun K12 hK12 => ?_)
      refine .region ?_
      refine .m rfl rfl rfl (.assign rfl) ?_
      refine .nil ?_
      refine hK12 _ _ ?_
      refine .ret ?_
      -- leaf e2
      refine hret _ _ ?_
      refine ⟨_, rfl, ?_⟩
      exact ⟨congrArg _ (B_false fun hh => h31 (hh.rs k (by omega)).1), hle⟩
     ·
      simp only [B_iff, B_not, Bool.not_eq_true', Bool.not_eq_false'] at h31
      refine .mg rfl rfl rfl rfl rfl (.move rfl) ?_
      refine .mg rfl rfl rfl rfl rfl (.move rfl) ?_
      refine .mg rfl rfl rfl rfl rfl (.nilCheck rfl) ?_
      refine .mg rfl rfl rfl rfl rfl (.fieldAddr fo_39_1_P rfl) ?_
      refine .mg rfl rfl rfl rfl rfl (.load on_22_B rfl (by assumption)) ?_
      refine .mg rfl rfl rfl rfl rfl (.move rfl) ?_
      refine .mg rfl rfl rfl rfl rfl (.idxN sl_22_A (by assumption) rfl rfl (by omega)) ?_
      refine .mg rfl rfl rfl rfl rfl (.loadI on_2_A (by assumption) rfl (by omega)) ?_
      refine .callQg rfl rfl rfl rfl rfl rfl @Try.call64 rfl (within_c) ?_
      refine .mg rfl rfl rfl rfl rfl (.not rfl) ?_
      refine .m rfl rfl rfl (.pickF rfl rfl) ?_
      refine .nil ?_
      refine hK11 _ _ ?_
      refine .cond rfl (fun h42 => ?_) (fun h42 => ?_)
      ·
       simp only [B_iff, B_not, Bool.not_eq_true', Bool.not_eq_false'] at h42
       refine .seq (fun K13 hK13 => ?_)
       refine .region ?_
       refine .m rfl rfl rfl (.assign rfl) ?_
       refine .nil ?_
       refine hK13 _ _ ?_
       refine .ret ?_
       -- leaf e3
       refine hret _ _ ?_
       refine ⟨_, rfl, ?_⟩
       exact ⟨congrArg _ (B_false fun hh => by rw [(hh.rs k (by omega)).2] at h42; cases h42), hle⟩
      ·
       simp only [B_iff, B_not, Bool.not_eq_true', Bool.not_eq_false'] at h42
       refine .skip ?_
       refine hK9 _ _ ?_
       refine .region ?_
       refine .m rfl rfl rfl (.add rfl rfl rfl (by omega) (by omega)) ?_
       refine .m rfl rfl rfl (.move rfl) ?_
       refine .nil ?_
       refine hKL1 (k + 1) _ _ ?_ ?_ ⟨rfl, rfl, rfl, rfl, rfl, trivial⟩
       ·
        refine ⟨rfl, ?_⟩
        refine ⟨by omega, fun x hx => ?_⟩
        by_cases hltq : x < k
        · exact ha1 x hltq
        · obtain rfl : x = k := by omega
          exact ⟨h31, h42⟩
       ·
        omega
    ·
     try simp only [sps] at h24
     refine .exit ?_
     refine hK5 _ _ ?_
     refine .seq (fun K14 hK14 => ?_)
     refine .seq (fun K15 hK15 => ?_)
     refine .region ?_
     refine .m rfl rfl rfl (.move rfl) ?_
     refine .m rfl rfl rfl (.nilCheck rfl) ?_
     refine .m rfl rfl rfl (.fieldAddr fo_39_2_P rfl) ?_
     refine .m rfl rfl rfl (.load on_23_B rfl (by assumption)) ?_
     refine .m rfl rfl rfl (.len sl_23_B rfl) ?_
     refine .m rfl rfl rfl (.move rfl) ?_
     refine .nil ?_
     refine hK15 _ _ ?_
     refine .block ?_
     refine .loopR (σ := Nat) [(0, some _), (3, some _), (47, some _), (48, some _)] (fun a => [(49, some (.int .i64 (a : Int)))]) (fun a H' => H3 = H' ∧ (a : Int) ≤ f.ac.length ∧ ∀ a', a' < a → ∀ i, i < (m.me.getD (f.sh.src.getD a' 0).toNat []).length → (m.me.getD (f.sh.tgt.getD a' 0).toNat []).contains ((f.ac.getD a' []).getD ((m.me.getD (f.sh.src.getD a' 0).toNat []).getD i 0).toNat 0) = true) (fun a => (f.ac.length - a : Int).toNat) (0) ⟨rfl, rfl, rfl, rfl, trivial⟩ ⟨rfl, trivial⟩ ?_ ?_
     ·
      refine ⟨rfl, ?_⟩
      exact ⟨by omega, fun _ _ => by omega⟩
     ·
      rintro a _ ⟨rfl, hI⟩ KL2 hKL2
      refine .forget (fr' := [(49, some (.int .i64 (a : Int))), (0, some _), (3, some _), (47, some _), (48, some _)]) ⟨rfl, rfl, rfl, rfl, rfl, trivial⟩ ?_
      obtain ⟨hk2, ha2⟩ := hI
      refine .seq (fun K16 hK16 => ?_)
      refine .region ?_
      refine .m rfl rfl rfl (.cmp rfl rfl rfl) ?_
      refine .nil ?_
      refine hK16 _ _ ?_
      refine .seq (fun K17 hK17 => ?_)
      refine .cond rfl (fun h50 => ?_) (fun h50 => ?_)
      ·
       simp only [sps] at h50
       have r1 := hS.ends (a := a) (by omega)
       have r2 := i03.2 (f.sh.src.getD a 0).toNat (by omega)
       have r3 := i03.2 (f.sh.tgt.getD a 0).toNat (by omega)
       have r4 := i2.2 a (by omega)
       have r5 := w2 (f.sh.src.getD a 0).toNat
       have r6 := w2 (f.sh.tgt.getD a 0).toNat
       refine .skip ?_
       refine hK17 _ _ ?_
       refine .seq (fun K18 hK18 => ?_)
       refine .block ?_
       refine .seq (fun K19 hK19 => ?_)
       refine .region ?_
       refine .m rfl rfl rfl (.move rfl) ?_
       refine .m rfl rfl rfl (.idxN sl_23_B (Intss.sl (by assumption)) rfl rfl (by omega)) ?_
       refine .m rfl rfl rfl (.loadR on_22_B (by assumption) rfl (by omega)) ?_
       refine .m rfl rfl rfl (.assign rfl) ?_
       refine .m rfl rfl rfl (.assign rfl) ?_
       refine .nil ?_
       refine hK19 _ _ ?_
       refine .seq (fun K20 hK20 => ?_)
       refine .regionD mixed_orders_B (.q 0 (.q 1 (.q 2 (.q 3 (.q 4 (.q 5 (.q 6 (.q 7 (.q 8 (.q 9 (.q 10 (.q 11 (.q 12 (.q 13 (.done))))))))))))))) (by kernel_rfl) ?_
       refine .m rfl rfl rfl rfl (.refl _) (.fieldAddr fo_34_0_VPrt rfl) ?_
       refine .m rfl rfl rfl rfl (.refl _) (.load on_23_B rfl (by assumption)) ?_
       refine .m rfl rfl rfl rfl (.refl _) (.move rfl) ?_
       refine .m rfl rfl rfl rfl (.refl _) (.nilCheck rfl) ?_
       refine .m rfl rfl rfl rfl (.refl _) (.fieldAddr fo_39_0_P rfl) ?_
       refine .m rfl rfl rfl rfl (.refl _) (.fieldAddr fo_37_1_B rfl) ?_
       refine .m rfl rfl rfl rfl (.refl _) (.load on_22_B rfl (by assumption)) ?_
       refine .m rfl rfl rfl rfl (.refl _) (.move rfl) ?_
       refine .m rfl rfl rfl rfl (.refl _) (.idxN sl_22_A (by assumption) rfl rfl (by omega)) ?_
       refine .m rfl rfl rfl rfl (.refl _) (.loadI on_2_A (by assumption) rfl (by omega)) ?_
       refine .m rfl rfl rfl rfl (.refl _) (.idx1 sl_23_B (Intss.sl (by assumption)) rfl rfl (by omega) (by omega)) ?_
       refine .m rfl rfl rfl rfl (.refl _) (.loadR on_22_B (by assumption) rfl (by omega)) ?_
       refine .m rfl rfl rfl rfl (.refl _) (.len sl_22_A rfl) ?_
       refine .m rfl rfl rfl rfl (.refl _) (.move rfl) ?_
       refine .done ?_
       refine hK20 _ _ ?_
       refine .block ?_
       refine .loopR (σ := Nat) [(0, some _), (3, some _), (7, some _), (8, some _), (47, some _), (48, some _), (49, some _), (65, some _), (66, some _)] (fun l => [(67, some (.int .i64 (l : Int)))]) (fun l H' => H3 = H' ∧ (l : Int) ≤ (m.me.getD (f.sh.src.getD a 0).toNat []).length ∧ ∀ i, i < l → (m.me.getD (f.sh.tgt.getD a 0).toNat []).contains ((f.ac.getD a []).getD ((m.me.getD (f.sh.src.getD a 0).toNat []).getD i 0).toNat 0) = true) (fun l => ((m.me.getD (f.sh.src.getD a 0).toNat []).length - l : Int).toNat) (0) ⟨rfl, rfl, rfl, rfl, rfl, rfl, rfl, rfl, rfl, trivial⟩ ⟨rfl, trivial⟩ ?_ ?_
       ·
        refine ⟨rfl, ?_⟩
        exact ⟨by omega, fun _ _ => by omega⟩
       ·
        rintro l _ ⟨rfl, hI⟩ KL3 hKL3
        refine .forget (fr' := [(67, some (.int .i64 (l : Int))), (0, some _), (3, some _), (7, some _), (8, some _), (47, some _), (48, some _), (49, some _), (65, some _), (66, some _)]) ⟨rfl, rfl, rfl, rfl, rfl, rfl, rfl, rfl, rfl, rfl, trivial⟩ ?_
        obtain ⟨hk3, ha3⟩ := hI
        refine .seq (fun K21 hK21 => ?_)
        refine .region ?_
        refine .m rfl rfl rfl (.cmp rfl rfl rfl) ?_
        refine .nil ?_
        refine hK21 _ _ ?_
        refine .seq (fun K22 hK22 => ?_)
        refine .cond rfl (fun h68 => ?_) (fun h68 => ?_)
        ·
         simp only [sps] at h68
         have u1 := allIn_iff.1 (ha1 (f.sh.src.getD a 0).toNat (by omega)).2 l (by omega)
         refine .skip ?_
         refine hK22 _ _ ?_
         refine .seq (fun K23 hK23 => ?_)
         refine .block ?_
         refine .seq (fun K24 hK24 => ?_)
         refine .region ?_
         refine .m rfl rfl rfl (.idxN sl_22_A (by assumption) rfl rfl (by omega)) ?_
         refine .m rfl rfl rfl (.loadI on_2_A (by assumption) rfl (by omega)) ?_
         refine .m rfl rfl rfl (.assign rfl) ?_
         refine .nil ?_
         refine hK24 _ _ ?_
         refine .seq (fun K25 hK25 => ?_)
         refine .regionD mixed_orders_B (.q 0 (.q 1 (.q 2 (.q 3 (.q 4 (.q 5 (.q 6 (.q 7 (.q 8 (.q 9 (.q 10 (.q 11 (.q 12 (.q 13 (.q 14 (.q 15 (.c 16 0 (.q 17 (.done))))))))))))))))))) (by kernel_rfl) ?_
         refine .m rfl rfl rfl rfl (.refl _) (.fieldAddr fo_34_0_VPrt rfl) ?_
         refine .m rfl rfl rfl rfl (.refl _) (.load on_23_B rfl (by assumption)) ?_
         refine .m rfl rfl rfl rfl (.refl _) (.move rfl) ?_
         refine .m rfl rfl rfl rfl (.refl _) (.nilCheck rfl) ?_
         refine .m rfl rfl rfl rfl (.refl _) (.fieldAddr fo_39_0_P rfl) ?_
         refine .m rfl rfl rfl rfl (.refl _) (.fieldAddr fo_37_2_B rfl) ?_
         refine .m rfl rfl rfl rfl (.refl _) (.load on_22_B rfl (by assumption)) ?_
         refine .m rfl rfl rfl rfl (.refl _) (.move rfl) ?_
         refine .m rfl rfl rfl rfl (.refl _) (.idxN sl_22_A (by assumption) rfl rfl (by omega)) ?_
         refine .m rfl rfl rfl rfl (.refl _) (.loadI on_2_A (by assumption) rfl (by omega)) ?_
         refine .m rfl rfl rfl rfl (.refl _) (.idx1 sl_23_B (Intss.sl (by assumption)) rfl rfl (by omega) (by omega)) ?_
         refine .m rfl rfl rfl rfl (.refl _) (.loadR on_22_B (by assumption) rfl (by omega)) ?_
         refine .m rfl rfl rfl rfl (.refl _) (.move rfl) ?_
         refine .m rfl rfl rfl rfl (.refl _) (.move rfl) ?_
         refine .m rfl rfl rfl rfl (.refl _) (.idx1 sl_22_A (by assumption) rfl rfl (by omega) (by omega)) ?_
         refine .m rfl rfl rfl rfl (.refl _) (.loadI on_2_A (by assumption) rfl (by omega)) ?_
         refine .callQ0 rfl rfl rfl rfl rfl @Try.call65 rfl (has_c) ?_
         refine .m rfl rfl rfl rfl (.refl _) (.not rfl) ?_
         refine .done ?_
         refine hK25 _ _ ?_
         refine .cond rfl (fun h88 => ?_) (fun h88 => ?_)
         ·
          simp only [Bool.not_eq_true', Bool.not_eq_false'] at h88
          refine .seq (fun K26 hK26 => ?_)
          refine .region ?_
          refine .m rfl rfl rfl (.assign rfl) ?_
          refine .nil ?_
          refine hK26 _ _ ?_
          refine .ret ?_
          -- leaf e4
          refine hret _ _ ?_
          refine ⟨_, rfl, ?_⟩
          exact ⟨congrArg _ (B_false fun hh => by rw [hh.cl a (by omega) l (by omega)] at h88; cases h88), hle⟩
         ·
          simp only [Bool.not_eq_true', Bool.not_eq_false'] at h88
          refine .skip ?_
          refine hK23 _ _ ?_
          refine .region ?_
          refine .m rfl rfl rfl (.add rfl rfl rfl (by omega) (by omega)) ?_
          refine .m rfl rfl rfl (.move rfl) ?_
          refine .nil ?_
          refine hKL3 (l + 1) _ _ ?_ ?_ ⟨rfl, rfl, rfl, rfl, rfl, rfl, rfl, rfl, rfl, rfl, trivial⟩
          ·
           refine ⟨rfl, ?_⟩
           refine ⟨by omega, fun i hx => ?_⟩
           by_cases hltq : i < l
           · exact ha3 i hltq
           · obtain rfl : i = l := by omega
             exact h88
          ·
           omega
        ·
         try simp only [sps] at h68
         refine .exit ?_
         refine hK18 _ _ ?_
         refine .region ?_
         refine .m rfl rfl rfl (.add rfl rfl rfl (by omega) (by omega)) ?_
         refine .m rfl rfl rfl (.move rfl) ?_
         refine .nil ?_
         refine hKL2 (a + 1) _ _ ?_ ?_ ⟨rfl, rfl, rfl, rfl, rfl, trivial⟩
         ·
          refine ⟨rfl, ?_⟩
          refine ⟨by omega, fun a' hx => ?_⟩
          by_cases hltq : a' < a
          · exact ha2 a' hltq
          · obtain rfl : a' = a := by omega
            exact fun i hi => ha3 i (by omega)
         ·
          omega
      ·
       try simp only [sps] at h50
       refine .exit ?_
       refine hK14 _ _ ?_
       refine .seq (fun K27 hK27 => ?_)
       refine .region ?_
       refine .m rfl rfl rfl (.assign rfl) ?_
       refine .nil ?_
       refine hK27 _ _ ?_
       refine .ret ?_
       -- leaf e5
       refine hret _ _ ?_
       refine ⟨_, rfl, ?_⟩
       exact ⟨congrArg _ (B_true ⟨by omega, fun x hx => ha1 x (by omega), fun a ha => ha2 a (by omega)⟩), hle⟩
theorem holds_c {m : Prt} {q : PrtP} {x : Nat} {n : Int} {H : GHeap} (hin : m.In H q := by assumption) (hs : m.Small := by assumption) (hx : x < m.me.length := by omega) :
    GCalls Try.prog 68 [.agg (m.cells q).toArray, .int .i64 (x : Int), .int .i64 n] H (Ret (.bool ((m.me.getD x []).contains n)) H) := by
  refine GCalls.ret rfl ?_
  refine GCalls.body (N := 14) (rs := [.tmp 6]) Try.func68 rfl rfl rfl rfl (fun Qx hret hend => ?_)
  refine .forget (fr' := [(0, some _), (1, some _), (2, some _)]) ⟨rfl, rfl, rfl, trivial⟩ ?_
  have hle := GHeap.Le.refl H
  have base_hin := hin
  obtain ⟨w1, w2⟩ := hs
  have r3 := w2 x
  refine .seq (fun K1 hK1 => ?_)
  refine .region ?_
  refine .r rfl rfl rfl (.boxR rfl sz_34_VPrt rfl) ?_
  rintro _ H3 ⟨g3, rfl, le3, ge3, at3⟩
  have nx_H3 := le3.1
  replace hle := hle.trans le3
  have lt_at3 := GHeap.lt_of_get at3
  replace hin := base_hin.mono hle
  have hb3 : Prt.At _ g3 0 m q := ⟨Mem.of_get at3, hin⟩
  obtain ⟨c03, i03⟩ := hb3.get
  have hm3 : MemN _ _ _ _ _ := ⟨rfl, hb3.1⟩
  have hi3 := hb3.2
  refine .m rfl rfl rfl (.assign rfl) ?_
  refine .nil ?_
  refine hK1 _ _ ?_
  refine .seq (fun K2 hK2 => ?_)
  refine .region ?_
  have r1 := i03.2 x (by omega)
  refine .m rfl rfl rfl (.fieldAddr fo_34_0_VPrt rfl) ?_
  refine .m rfl rfl rfl (.load on_23_B rfl (by assumption)) ?_
  refine .m rfl rfl rfl (.move rfl) ?_
  refine .m rfl rfl rfl (.idxN sl_23_B (Intss.sl (by assumption)) rfl rfl (by omega)) ?_
  refine .m rfl rfl rfl (.loadR on_22_B (by assumption) rfl (by omega)) ?_
  refine .m rfl rfl rfl (.move rfl) ?_
  refine .callQ rfl rfl rfl rfl @Try.call65 rfl (has_c) ?_
  refine .m rfl rfl rfl (.assign rfl) ?_
  refine .nil ?_
  refine hK2 _ _ ?_
  refine .ret ?_
  -- leaf e1
  refine hret _ _ ?_
  refine ⟨_, rfl, ?_⟩
  exact ⟨rfl, hle⟩
theorem slA_mem1 {H : GHeap} {k n i : Nat} {f : Nat → Value} (h : SlA H (some ⟨k, 0, none⟩) n f) (hi : i < n) : MemN H k (0 + i) 1 [f i] := by
  refine ⟨rfl, fun j v hv => ?_⟩
  rcases h with h | ⟨g, o, e, h⟩
  · omega
  · cases e
    have := h i hi
    match j, hv with
    | 0, hv => simp at hv; subst hv; exact this
theorem areParts_c {g o k n : Nat} {f : SFun} {p : SFunP} {C : Nat → Prt} {P : Nat → PrtP} {H : GHeap} (h : SFun.At H g o f p) (hs : f.Small) (hn : n ≤ 1048576)
    (hsl : SlA H (some ⟨k, 0, none⟩) n (fun i => .slice (P i).a0 (C i).me.length (C i).me.length)) (hc : ∀ i, i < n → (C i).In H (P i)) (hcs : ∀ i, i < n → (C i).Small) :
    GCalls Try.prog 73 [.pointer (some ⟨g, o, none⟩), .slice (some ⟨k, 0, none⟩) n n] H (Ret (.bool (B (f.Is ∧ ∀ i, i < n → f.Part (C i).me))) H) := by
  refine GCalls.ret rfl ?_
  refine GCalls.body (N := 21) (rs := [.tmp 4]) Try.func73 rfl rfl rfl rfl (fun Qx hret hend => ?_)
  refine .forget (fr' := [(0, some _), (1, some _)]) ⟨rfl, rfl, trivial⟩ ?_
  have hle := GHeap.Le.refl H
  have base_h := h
  refine .seq (fun K1 hK1 => ?_)
  refine .region ?_
  refine .m rfl rfl rfl (.assign rfl) ?_
  refine .nil ?_
  refine hK1 _ _ ?_
  refine .seq (fun K2 hK2 => ?_)
  refine .seq (fun K3 hK3 => ?_)
  refine .region ?_
  refine .m rfl rfl rfl (.move rfl) ?_
  refine .callQ rfl rfl rfl rfl @Try.call84 rfl (isSetFunctor_c) ?_
  refine .m rfl rfl rfl (.not rfl) ?_
  refine .nil ?_
  refine hK3 _ _ ?_
  refine .cond rfl (fun h9 => ?_) (fun h9 => ?_)
  ·
   try simp only [sps] at h9
   refine .seq (fun K4 hK4 => ?_)
   refine .region ?_
   refine .m rfl rfl rfl (.assign rfl) ?_
   refine .nil ?_
   refine hK4 _ _ ?_
   refine .ret ?_
   -- leaf e1
   refine hret _ _ ?_
   refine ⟨_, rfl, ?_⟩
   exact ⟨congrArg _ (B_false fun hh => h9 hh.1), hle⟩
  ·
   simp only [sps] at h9
   refine .skip ?_
   refine hK2 _ _ ?_
   refine .seq (fun K5 hK5 => ?_)
   refine .seq (fun K6 hK6 => ?_)
   refine .region ?_
   refine .m rfl rfl rfl (.move rfl) ?_
   refine .m rfl rfl rfl (.len sl_99_S rfl) ?_
   refine .m rfl rfl rfl (.move rfl) ?_
   refine .nil ?_
   refine hK6 _ _ ?_
   refine .block ?_
   refine .loopR (σ := Nat) [(0, some _), (10, some _), (11, some _)] (fun l => [(12, some (.int .i64 (l : Int)))]) (fun l H' => St [] H H' ∧ (l : Int) ≤ n ∧ ∀ i, i < l → f.Part (C i).me) (fun l => (n - l : Int).toNat) (0) ⟨rfl, rfl, rfl, trivial⟩ ⟨rfl, trivial⟩ ?_ ?_
   ·
    refine ⟨.refl _ _, ?_⟩
    exact ⟨by omega, fun _ _ => by omega⟩
   ·
    rintro l HL1 ⟨lst1, hI⟩ KL1 hKL1
    refine .forget (fr' := [(12, some (.int .i64 (l : Int))), (0, some _), (10, some _), (11, some _)]) ⟨rfl, rfl, rfl, rfl, trivial⟩ ?_
    have nx_HL1 := lst1.nx
    replace hle := hle.st lst1 (fun k hk => trivial)
    replace h := base_h.mono hle
    obtain ⟨hk1, ha1⟩ := hI
    refine .seq (fun K7 hK7 => ?_)
    refine .region ?_
    refine .m rfl rfl rfl (.cmp rfl rfl rfl) ?_
    refine .nil ?_
    refine hK7 _ _ ?_
    refine .seq (fun K8 hK8 => ?_)
    refine .cond rfl (fun h13 => ?_) (fun h13 => ?_)
    ·
     simp only [sps] at h13
     have hsl' := hsl.mono hle
     have hm' := slA_mem1 hsl' (i := l) (by omega)
     have hcl := (hc l (by omega)).mono hle
     have hcs' := hcs l (by omega)
     refine .skip ?_
     refine hK8 _ _ ?_
     refine .seq (fun K9 hK9 => ?_)
     refine .block ?_
     refine .seq (fun K10 hK10 => ?_)
     refine .region ?_
     refine .m rfl rfl rfl (.idxN sl_99_S hsl' rfl rfl (by omega)) ?_
     refine .m rfl rfl rfl (.loadM ag_34_VPrt rfl hm') ?_
     refine .r rfl rfl rfl (.allocR rfl ze_34_VPrt rfl) ?_
     rintro _ H6 ⟨g6, rfl, le6, ge6, at6⟩
     have nx_H6 := le6.1
     replace hle := hle.trans le6
     replace lst1 := lst1.le le6
     have lt_at6 := GHeap.lt_of_get at6
     replace h := base_h.mono hle
     refine .r0 rfl rfl (.fillR rfl sz_34_VPrt rfl rfl rfl rfl (by assumption) (by first | rfl | exact Nat.le_of_ble_eq_true rfl | simp)) ?_
     rintro _ H5003 ⟨rfl, st5003, at5003⟩
     have nx_H5003 := st5003.nx
     replace hle := hle.st st5003 (fun k hk => ⟨by omega, trivial⟩)
     replace lst1 := lst1.st st5003 (fun k hk ho => by simp only [out, and_true] at ho ⊢ <;> omega)
     have lt_at5003 := GHeap.lt_of_get at5003
     replace h := base_h.mono hle
     have mm5003 : MemN _ _ _ _ _ := ⟨rfl, Mem.of_get at5003⟩
     have hcl := (hc l (by omega)).mono hle
     refine .nil ?_
     refine hK10 _ _ ?_
     refine .seq (fun K11 hK11 => ?_)
     refine .region ?_
     refine .m rfl rfl rfl (.move rfl) ?_
     refine .m rfl rfl rfl (.loadM ag_34_VPrt rfl ⟨rfl, Mem.of_get at5003⟩) ?_
     refine .callQ rfl rfl rfl rfl @Try.call34 rfl (isPart_c (m := C l) (q := P l)) ?_
     refine .m rfl rfl rfl (.not rfl) ?_
     refine .nil ?_
     refine hK11 _ _ ?_
     refine .cond rfl (fun h19 => ?_) (fun h19 => ?_)
     ·
      try simp only [sps] at h19
      refine .seq (fun K12 hK12 => ?_)
      refine .region ?_
      refine .m rfl rfl rfl (.assign rfl) ?_
      refine .nil ?_
      refine hK12 _ _ ?_
      refine .ret ?_
      -- leaf e2
      refine hret _ _ ?_
      refine ⟨_, rfl, ?_⟩
      exact ⟨congrArg _ (B_false fun hh => h19 (hh.2 l (by omega))), hle⟩
     ·
      try simp only [sps] at h19
      refine .skip ?_
      refine hK9 _ _ ?_
      refine .region ?_
      refine .m rfl rfl rfl (.add rfl rfl rfl (by omega) (by omega)) ?_
      refine .m rfl rfl rfl (.move rfl) ?_
      refine .nil ?_
      refine hKL1 (l + 1) _ _ ?_ ?_ ⟨rfl, rfl, rfl, rfl, trivial⟩
      ·
       refine ⟨lst1, ?_⟩
       refine ⟨by omega, fun i hx => ?_⟩
       by_cases hltq : i < l
       · exact ha1 i hltq
       · obtain rfl : i = l := by omega
         exact h19
      ·
       omega
    ·
     try simp only [sps] at h13
     refine .exit ?_
     refine hK5 _ _ ?_
     refine .seq (fun K13 hK13 => ?_)
     refine .region ?_
     refine .m rfl rfl rfl (.assign rfl) ?_
     refine .nil ?_
     refine hK13 _ _ ?_
     refine .ret ?_
     -- leaf e3
     refine hret _ _ ?_
     refine ⟨_, rfl, ?_⟩
     exact ⟨congrArg _ (B_true ⟨h9, fun i hi => ha1 i (by omega)⟩), hle⟩
theorem areParts2_c {g o k : Nat} {e : TypeId} {f : SFun} {p : SFunP} {m m' : Prt} {q q' : PrtP} {H : GHeap} (h : SFun.At H g o f p := by assumption) (hr : H.get k = some (.row [.slice q.a0 m.me.length m.me.length, .slice q'.a0 m'.me.length m'.me.length] e true) := by assumption)
    (hin : m.In H q := by assumption) (hin' : m'.In H q' := by assumption) (hs : f.Small := by assumption) (hs1 : m.Small := by assumption) (hs2 : m'.Small := by assumption) :
    GCalls Try.prog 73 [.pointer (some ⟨g, o, none⟩), .slice (some ⟨k, 0, none⟩) 2 2] H (Ret (.bool (B (f.Is ∧ f.Part m.me ∧ f.Part m'.me))) H) := by
  have hsl : SlA H (some ⟨k, 0, none⟩) 2 (fun i => .slice (if i = 0 then q else q').a0 (if i = 0 then m else m').me.length (if i = 0 then m else m').me.length) :=
    .inr ⟨k, 0, rfl, fun i hi => by rw [GHeap.cell_of hr]; match i, hi with | 0, _ => rfl | 1, _ => rfl⟩
  have := areParts_c h hs (n := 2) (by omega) (C := fun i => if i = 0 then m else m') (P := fun i => if i = 0 then q else q') hsl
    (fun i hi => by match i, hi with | 0, _ => exact hin | 1, _ => exact hin') (fun i hi => by match i, hi with | 0, _ => exact hs1 | 1, _ => exact hs2)
  rw [B_congr (q := f.Is ∧ f.Part m.me ∧ f.Part m'.me)] at this
  · exact this
  · exact ⟨fun h => ⟨h.1, h.2 0 (by omega), h.2 1 (by omega)⟩, fun h => ⟨h.1, fun i hi => by match i, hi with | 0, _ => exact h.2.1 | 1, _ => exact h.2.2⟩⟩
theorem l25Part_c {f : SFun} {p : SFunP} {me : List (List Int)} {a : Option Addr} {r : Nat → Option Addr} {H : GHeap} (hin : f.In H p := by assumption) (hm : Intss H a me r := by assumption) (hI : f.Is := by assumption) (w1 : me.length ≤ 1048576 := by omega) (w2 : ∀ i, (me.getD i []).length ≤ 1048576 := by assumption) :
    GCalls Try.prog 30 [.agg (f.cells p).toArray, .slice a me.length me.length] H (Ret (.bool (B (f.Part me))) H) := by
  refine GCalls.ret rfl ?_
  refine GCalls.body (N := 89) (rs := [.tmp 4]) Try.func30 rfl rfl rfl rfl (fun Qx hret hend => ?_)
  refine .forget (fr' := [(0, some _), (1, some _)]) ⟨rfl, rfl, trivial⟩ ?_
  have hle := GHeap.Le.refl H
  have base_hin := hin
  have base_hm := hm
  have hS := hI.1
  have hC := hS.c.1
  have q1 := hC.tl
  have q2 := hC.n40
  have q3 := hS.al
  have q4 := hS.zl
  have q5 := hC.obj
  refine .seq (fun K1 hK1 => ?_)
  refine .region ?_
  refine .r rfl rfl rfl (.boxR rfl sz_39_VSFun rfl) ?_
  rintro _ H2 ⟨g2, rfl, le2, ge2, at2⟩
  have nx_H2 := le2.1
  replace hle := hle.trans le2
  have lt_at2 := GHeap.lt_of_get at2
  replace hin := base_hin.mono hle
  replace hm := base_hm.mono hle
  have hb2 : SFun.At _ g2 0 f p := ⟨Mem.of_get at2, hin⟩
  obtain ⟨fsh2, c52, c62, i12, i22⟩ := hb2.get
  have hm2 : MemN _ _ _ _ _ := ⟨rfl, hb2.1⟩
  have hi2 := hb2.2
  have hmsh2 : MemN _ _ _ _ _ := ⟨rfl, fsh2.1⟩
  have hish2 := fsh2.2
  refine .m rfl rfl rfl (.assign rfl) ?_
  refine .nil ?_
  refine hK1 _ _ ?_
  refine .seq (fun K2 hK2 => ?_)
  refine .seq (fun K3 hK3 => ?_)
  refine .region ?_
  obtain ⟨d0, d1, d2, d3, d4, e1, e2, e3, e4⟩ := fsh2.get
  refine .m rfl rfl rfl (.move rfl) ?_
  refine .m rfl rfl rfl (.len sl_23_B rfl) ?_
  refine .m rfl rfl rfl (.fieldAddr fo_39_1_P rfl) ?_
  refine .m rfl rfl rfl (.load on_22_B rfl (by assumption)) ?_
  refine .m rfl rfl rfl (.len sl_22_A rfl) ?_
  refine .m rfl rfl rfl (.cmp rfl rfl rfl) ?_
  refine .nil ?_
  refine hK3 _ _ ?_
  refine .cond rfl (fun h15 => ?_) (fun h15 => ?_)
  ·
   try simp only [sps] at h15
   refine .seq (fun K4 hK4 => ?_)
   refine .region ?_
   refine .m rfl rfl rfl (.assign rfl) ?_
   refine .nil ?_
   refine hK4 _ _ ?_
   refine .ret ?_
   -- leaf e1
   refine hret _ _ ?_
   refine ⟨_, rfl, ?_⟩
   exact ⟨congrArg _ (B_false fun hh => by have := hh.pl; omega), hle⟩
  ·
   try simp only [sps] at h15
   refine .skip ?_
   refine hK2 _ _ ?_
   refine .seq (fun K5 hK5 => ?_)
   refine .seq (fun K6 hK6 => ?_)
   refine .region ?_
   refine .m rfl rfl rfl (.assign rfl) ?_
   refine .nil ?_
   refine hK6 _ _ ?_
   refine .block ?_
   refine .loopR (σ := Nat) [(1, some _), (2, some _)] (fun k => [(5, some (.int .i64 (k : Int)))]) (fun k H' => H2 = H' ∧ (k : Int) ≤ me.length ∧ ∀ x, x < k → Rising (me.getD x []) ∧ allIn (me.getD x []) (f.sz.getD x 0) = true) (fun k => (me.length - k : Int).toNat) (0) ⟨rfl, rfl, trivial⟩ ⟨rfl, trivial⟩ ?_ ?_
   ·
    refine ⟨rfl, ?_⟩
    exact ⟨by omega, fun _ _ => by omega⟩
   ·
    rintro k _ ⟨rfl, hI⟩ KL1 hKL1
    refine .forget (fr' := [(5, some (.int .i64 (k : Int))), (1, some _), (2, some _)]) ⟨rfl, rfl, rfl, trivial⟩ ?_
    obtain ⟨hk1, ha1⟩ := hI
    refine .seq (fun K7 hK7 => ?_)
    refine .seq (fun K8 hK8 => ?_)
    refine .region ?_
    refine .m rfl rfl rfl (.move rfl) ?_
    refine .m rfl rfl rfl (.move rfl) ?_
    refine .m rfl rfl rfl (.len sl_23_B rfl) ?_
    refine .m rfl rfl rfl (.cmp rfl rfl rfl) ?_
    refine .nil ?_
    refine hK8 _ _ ?_
    refine .cond rfl (fun h19 => ?_) (fun h19 => ?_)
    ·
     simp only [sps] at h19
     have r1 := hm.2 k (by omega)
     have r2 := hS.sz k (by omega)
     have r3 := w2 k
     refine .skip ?_
     refine hK7 _ _ ?_
     refine .seq (fun K9 hK9 => ?_)
     refine .block ?_
     refine .seq (fun K10 hK10 => ?_)
     refine .regionD mixed_orders_B (.q 0 (.q 1 (.q 2 (.q 3 (.c 4 0 (.q 5 (.q 6 (.q 7 (.q 8 (.q 9 (.q 10 (.q 11 (.q 12 (.q 13 (.q 14 (.q 15 (.c 16 0 (.q 17 (.q 18 (.done)))))))))))))))))))) (by kernel_rfl) ?_
     refine .m rfl rfl rfl rfl (.refl _) (.move rfl) ?_
     refine .m rfl rfl rfl rfl (.refl _) (.move rfl) ?_
     refine .m rfl rfl rfl rfl (.refl _) (.idxN sl_23_B (Intss.sl (by assumption)) rfl rfl (by omega)) ?_
     refine .m rfl rfl rfl rfl (.refl _) (.loadR on_22_B (by assumption) rfl (by omega)) ?_
     refine .callQ0 rfl rfl rfl rfl rfl @Try.call58 rfl (l02Rises_c) ?_
     refine .m rfl rfl rfl rfl (.refl _) (.not rfl) ?_
     refine .m rfl rfl rfl rfl (.refl _) (.move rfl) ?_
     refine .split (fun h28 => ?_) (fun h28 => ?_)
     ·
      simp only [B_iff, B_not, Bool.not_eq_true', Bool.not_eq_false'] at h28
      refine .sg rfl rfl rfl rfl rfl rfl ?_
      refine .sg rfl rfl rfl rfl rfl rfl ?_
      refine .sg rfl rfl rfl rfl rfl rfl ?_
      refine .sg rfl rfl rfl rfl rfl rfl ?_
      refine .sg rfl rfl rfl rfl rfl rfl ?_
      refine .sg rfl rfl rfl rfl rfl rfl ?_
      refine .sg rfl rfl rfl rfl rfl rfl ?_
      refine .sg rfl rfl rfl rfl rfl rfl ?_
      refine .sg rfl rfl rfl rfl rfl rfl ?_
      refine .sgc rfl rfl rfl rfl rfl rfl ?_
      refine .sg rfl rfl rfl rfl rfl rfl ?_
      refine .m rfl rfl rfl rfl (.refl _) (.pickT rfl rfl) ?_
      refine .done ?_
      refine hK10 _ _ ?_
      refine .condT rfl ?_
      refine .seq (fun K11 hK11 => ?_)
      refine .region ?_
      refine .m rfl rfl rfl (.assign rfl) ?_
      refine .nil ?_
      refine hK11 _ _ ?_
      refine .ret ?_
      -- leaf e2
      refine hret _ _ ?_
      refine ⟨_, rfl, ?_⟩
      exact ⟨congrArg _ (B_false fun hh => h28 (hh.rs k (by omega)).1), hle⟩
     ·
      simp only [B_iff, B_not, Bool.not_eq_true', Bool.not_eq_false'] at h28
      refine .mg rfl rfl rfl rfl rfl rfl (.refl _) (.fieldAddr fo_39_1_P rfl) ?_
      refine .mg rfl rfl rfl rfl rfl rfl (.refl _) (.load on_22_B rfl (by assumption)) ?_
      refine .mg rfl rfl rfl rfl rfl rfl (.refl _) (.move rfl) ?_
      refine .mg rfl rfl rfl rfl rfl rfl (.refl _) (.idxN sl_22_A (by assumption) rfl rfl (by omega)) ?_
      refine .mg rfl rfl rfl rfl rfl rfl (.refl _) (.loadI on_2_A (by assumption) rfl (by omega)) ?_
      refine .mg rfl rfl rfl rfl rfl rfl (.refl _) (.move rfl) ?_
      refine .mg rfl rfl rfl rfl rfl rfl (.refl _) (.move rfl) ?_
      refine .mg rfl rfl rfl rfl rfl rfl (.refl _) (.idxN sl_23_B (Intss.sl (by assumption)) rfl rfl (by omega)) ?_
      refine .mg rfl rfl rfl rfl rfl rfl (.refl _) (.loadR on_22_B (by assumption) rfl (by omega)) ?_
      refine .callQ0g rfl rfl rfl rfl rfl rfl rfl @Try.call59 rfl (l01Map_c) ?_
      refine .mg rfl rfl rfl rfl rfl rfl (.refl _) (.not rfl) ?_
      refine .m rfl rfl rfl rfl (.refl _) (.pickF rfl rfl) ?_
      refine .done ?_
      refine hK10 _ _ ?_
      refine .cond rfl (fun h40 => ?_) (fun h40 => ?_)
      ·
       simp only [B_iff, B_not, Bool.not_eq_true', Bool.not_eq_false'] at h40
       refine .seq (fun K12 hK12 => ?_)
       refine .region ?_
       refine .m rfl rfl rfl (.assign rfl) ?_
       refine .nil ?_
       refine hK12 _ _ ?_
       refine .ret ?_
       -- leaf e3
       refine hret _ _ ?_
       refine ⟨_, rfl, ?_⟩
       exact ⟨congrArg _ (B_false fun hh => by rw [(hh.rs k (by omega)).2] at h40; cases h40), hle⟩
      ·
       simp only [B_iff, B_not, Bool.not_eq_true', Bool.not_eq_false'] at h40
       refine .skip ?_
       refine hK9 _ _ ?_
       refine .region ?_
       refine .m rfl rfl rfl (.move rfl) ?_
       refine .m rfl rfl rfl (.add rfl rfl rfl (by omega) (by omega)) ?_
       refine .m rfl rfl rfl (.assign rfl) ?_
       refine .nil ?_
       refine hKL1 (k + 1) _ _ ?_ ?_ ⟨rfl, rfl, rfl, trivial⟩
       ·
        refine ⟨rfl, ?_⟩
        refine ⟨by omega, fun x hx => ?_⟩
        by_cases hltq : x < k
        · exact ha1 x hltq
        · obtain rfl : x = k := by omega
          exact ⟨h28, h40⟩
       ·
        omega
    ·
     try simp only [sps] at h19
     refine .exit ?_
     refine hK5 _ _ ?_
     refine .seq (fun K13 hK13 => ?_)
     refine .seq (fun K14 hK14 => ?_)
     refine .region ?_
     refine .m rfl rfl rfl (.assign rfl) ?_
     refine .nil ?_
     refine hK14 _ _ ?_
     refine .block ?_
     refine .loopR (σ := Nat) [(1, some _), (2, some _)] (fun b => [(6, some (.int .i64 (b : Int)))]) (fun b H' => H2 = H' ∧ (b : Int) ≤ f.ac.length ∧ ∀ a', a' < b → ∀ i, i < (me.getD (f.sh.src.getD a' 0).toNat []).length → (me.getD (f.sh.tgt.getD a' 0).toNat []).contains ((f.ac.getD a' []).getD ((me.getD (f.sh.src.getD a' 0).toNat []).getD i 0).toNat 0) = true) (fun b => (f.ac.length - b : Int).toNat) (0) ⟨rfl, rfl, trivial⟩ ⟨rfl, trivial⟩ ?_ ?_
     ·
      refine ⟨rfl, ?_⟩
      exact ⟨by omega, fun _ _ => by omega⟩
     ·
      rintro b _ ⟨rfl, hI⟩ KL2 hKL2
      refine .forget (fr' := [(6, some (.int .i64 (b : Int))), (1, some _), (2, some _)]) ⟨rfl, rfl, rfl, trivial⟩ ?_
      obtain ⟨hk2, ha2⟩ := hI
      refine .seq (fun K15 hK15 => ?_)
      refine .seq (fun K16 hK16 => ?_)
      refine .region ?_
      refine .m rfl rfl rfl (.move rfl) ?_
      refine .m rfl rfl rfl (.fieldAddr fo_39_2_P rfl) ?_
      refine .m rfl rfl rfl (.load on_23_B rfl (by assumption)) ?_
      refine .m rfl rfl rfl (.len sl_23_B rfl) ?_
      refine .m rfl rfl rfl (.cmp rfl rfl rfl) ?_
      refine .nil ?_
      refine hK16 _ _ ?_
      refine .cond rfl (fun h45 => ?_) (fun h45 => ?_)
      ·
       simp only [sps] at h45
       have r1 := hS.ends (a := b) (by omega)
       have r2 := hm.2 (f.sh.src.getD b 0).toNat (by omega)
       have r3 := hm.2 (f.sh.tgt.getD b 0).toNat (by omega)
       have r4 := i22.2 b (by omega)
       have r5 := w2 (f.sh.src.getD b 0).toNat
       have r6 := w2 (f.sh.tgt.getD b 0).toNat
       refine .skip ?_
       refine hK15 _ _ ?_
       refine .seq (fun K17 hK17 => ?_)
       refine .block ?_
       refine .seq (fun K18 hK18 => ?_)
       refine .regionD mixed_orders_B (.q 0 (.q 1 (.q 2 (.q 3 (.q 4 (.q 5 (.q 6 (.q 7 (.q 8 (.q 9 (.q 10 (.q 11 (.q 12 (.q 13 (.done))))))))))))))) (by kernel_rfl) ?_
       refine .m rfl rfl rfl rfl (.refl _) (.fieldAddr fo_39_0_P rfl) ?_
       refine .m rfl rfl rfl rfl (.refl _) (.fieldAddr fo_37_1_B rfl) ?_
       refine .m rfl rfl rfl rfl (.refl _) (.load on_22_B rfl (by assumption)) ?_
       refine .m rfl rfl rfl rfl (.refl _) (.move rfl) ?_
       refine .m rfl rfl rfl rfl (.refl _) (.idxN sl_22_A (by assumption) rfl rfl (by omega)) ?_
       refine .m rfl rfl rfl rfl (.refl _) (.loadI on_2_A (by assumption) rfl (by omega)) ?_
       refine .m rfl rfl rfl rfl (.refl _) (.fieldAddr fo_39_0_P rfl) ?_
       refine .m rfl rfl rfl rfl (.refl _) (.fieldAddr fo_37_2_B rfl) ?_
       refine .m rfl rfl rfl rfl (.refl _) (.load on_22_B rfl (by assumption)) ?_
       refine .m rfl rfl rfl rfl (.refl _) (.move rfl) ?_
       refine .m rfl rfl rfl rfl (.refl _) (.idxN sl_22_A (by assumption) rfl rfl (by omega)) ?_
       refine .m rfl rfl rfl rfl (.refl _) (.loadI on_2_A (by assumption) rfl (by omega)) ?_
       refine .m rfl rfl rfl rfl (.refl _) (.assign rfl) ?_
       refine .m rfl rfl rfl rfl (.refl _) (.assign rfl) ?_
       refine .done ?_
       refine hK18 _ _ ?_
       refine .seq (fun K19 hK19 => ?_)
       refine .region ?_
       refine .m rfl rfl rfl (.assign rfl) ?_
       refine .nil ?_
       refine hK19 _ _ ?_
       refine .block ?_
       refine .loopR (σ := Nat) [(1, some _), (2, some _), (6, some _), (7, some _), (8, some _)] (fun l => [(9, some (.int .i64 (l : Int)))]) (fun l H' => H2 = H' ∧ (l : Int) ≤ (me.getD (f.sh.src.getD b 0).toNat []).length ∧ ∀ i, i < l → (me.getD (f.sh.tgt.getD b 0).toNat []).contains ((f.ac.getD b []).getD ((me.getD (f.sh.src.getD b 0).toNat []).getD i 0).toNat 0) = true) (fun l => ((me.getD (f.sh.src.getD b 0).toNat []).length - l : Int).toNat) (0) ⟨rfl, rfl, rfl, rfl, rfl, trivial⟩ ⟨rfl, trivial⟩ ?_ ?_
       ·
        refine ⟨rfl, ?_⟩
        exact ⟨by omega, fun _ _ => by omega⟩
       ·
        rintro l _ ⟨rfl, hI⟩ KL3 hKL3
        refine .forget (fr' := [(9, some (.int .i64 (l : Int))), (1, some _), (2, some _), (6, some _), (7, some _), (8, some _)]) ⟨rfl, rfl, rfl, rfl, rfl, rfl, trivial⟩ ?_
        obtain ⟨hk3, ha3⟩ := hI
        refine .seq (fun K20 hK20 => ?_)
        refine .seq (fun K21 hK21 => ?_)
        refine .region ?_
        refine .m rfl rfl rfl (.move rfl) ?_
        refine .m rfl rfl rfl (.move rfl) ?_
        refine .m rfl rfl rfl (.move rfl) ?_
        refine .m rfl rfl rfl (.idx1 sl_23_B (Intss.sl (by assumption)) rfl rfl (by omega) (by omega)) ?_
        refine .m rfl rfl rfl (.loadR on_22_B (by assumption) rfl (by omega)) ?_
        refine .m rfl rfl rfl (.len sl_22_A rfl) ?_
        refine .m rfl rfl rfl (.cmp rfl rfl rfl) ?_
        refine .nil ?_
        refine hK21 _ _ ?_
        refine .cond rfl (fun h66 => ?_) (fun h66 => ?_)
        ·
         simp only [sps] at h66
         have u1 := allIn_iff.1 (ha1 (f.sh.src.getD b 0).toNat (by omega)).2 l (by omega)
         refine .skip ?_
         refine hK20 _ _ ?_
         refine .seq (fun K22 hK22 => ?_)
         refine .block ?_
         refine .seq (fun K23 hK23 => ?_)
         refine .regionD mixed_orders_B (.q 0 (.q 1 (.q 2 (.q 3 (.q 4 (.q 5 (.q 6 (.q 7 (.q 8 (.q 9 (.q 10 (.q 11 (.q 12 (.q 13 (.q 14 (.q 15 (.q 16 (.q 17 (.c 18 0 (.q 19 (.done))))))))))))))))))))) (by kernel_rfl) ?_
         refine .m rfl rfl rfl rfl (.refl _) (.move rfl) ?_
         refine .m rfl rfl rfl rfl (.refl _) (.move rfl) ?_
         refine .m rfl rfl rfl rfl (.refl _) (.idx1 sl_23_B (Intss.sl (by assumption)) rfl rfl (by omega) (by omega)) ?_
         refine .m rfl rfl rfl rfl (.refl _) (.loadR on_22_B (by assumption) rfl (by omega)) ?_
         refine .m rfl rfl rfl rfl (.refl _) (.fieldAddr fo_39_2_P rfl) ?_
         refine .m rfl rfl rfl rfl (.refl _) (.load on_23_B rfl (by assumption)) ?_
         refine .m rfl rfl rfl rfl (.refl _) (.move rfl) ?_
         refine .m rfl rfl rfl rfl (.refl _) (.idxN sl_23_B (Intss.sl (by assumption)) rfl rfl (by omega)) ?_
         refine .m rfl rfl rfl rfl (.refl _) (.loadR on_22_B (by assumption) rfl (by omega)) ?_
         refine .m rfl rfl rfl rfl (.refl _) (.move rfl) ?_
         refine .m rfl rfl rfl rfl (.refl _) (.move rfl) ?_
         refine .m rfl rfl rfl rfl (.refl _) (.idx1 sl_23_B (Intss.sl (by assumption)) rfl rfl (by omega) (by omega)) ?_
         refine .m rfl rfl rfl rfl (.refl _) (.loadR on_22_B (by assumption) rfl (by omega)) ?_
         refine .m rfl rfl rfl rfl (.refl _) (.move rfl) ?_
         refine .m rfl rfl rfl rfl (.refl _) (.idxN sl_22_A (by assumption) rfl rfl (by omega)) ?_
         refine .m rfl rfl rfl rfl (.refl _) (.loadI on_2_A (by assumption) rfl (by omega)) ?_
         refine .m rfl rfl rfl rfl (.refl _) (.idx1 sl_22_A (by assumption) rfl rfl (by omega) (by omega)) ?_
         refine .m rfl rfl rfl rfl (.refl _) (.loadI on_2_A (by assumption) rfl (by omega)) ?_
         refine .callQ0 rfl rfl rfl rfl rfl @Try.call60 rfl (l01Has_c) ?_
         refine .m rfl rfl rfl rfl (.refl _) (.not rfl) ?_
         refine .done ?_
         refine hK23 _ _ ?_
         refine .cond rfl (fun h88 => ?_) (fun h88 => ?_)
         ·
          simp only [Bool.not_eq_true', Bool.not_eq_false'] at h88
          refine .seq (fun K24 hK24 => ?_)
          refine .region ?_
          refine .m rfl rfl rfl (.assign rfl) ?_
          refine .nil ?_
          refine hK24 _ _ ?_
          refine .ret ?_
          -- leaf e4
          refine hret _ _ ?_
          refine ⟨_, rfl, ?_⟩
          exact ⟨congrArg _ (B_false fun hh => by rw [hh.cl b (by omega) l (by omega)] at h88; cases h88), hle⟩
         ·
          simp only [Bool.not_eq_true', Bool.not_eq_false'] at h88
          refine .skip ?_
          refine hK22 _ _ ?_
          refine .region ?_
          refine .m rfl rfl rfl (.move rfl) ?_
          refine .m rfl rfl rfl (.add rfl rfl rfl (by omega) (by omega)) ?_
          refine .m rfl rfl rfl (.assign rfl) ?_
          refine .nil ?_
          refine hKL3 (l + 1) _ _ ?_ ?_ ⟨rfl, rfl, rfl, rfl, rfl, rfl, trivial⟩
          ·
           refine ⟨rfl, ?_⟩
           refine ⟨by omega, fun i hx => ?_⟩
           by_cases hltq : i < l
           · exact ha3 i hltq
           · obtain rfl : i = l := by omega
             exact h88
          ·
           omega
        ·
         try simp only [sps] at h66
         refine .exit ?_
         refine hK17 _ _ ?_
         refine .region ?_
         refine .m rfl rfl rfl (.move rfl) ?_
         refine .m rfl rfl rfl (.add rfl rfl rfl (by omega) (by omega)) ?_
         refine .m rfl rfl rfl (.assign rfl) ?_
         refine .nil ?_
         refine hKL2 (b + 1) _ _ ?_ ?_ ⟨rfl, rfl, rfl, trivial⟩
         ·
          refine ⟨rfl, ?_⟩
          refine ⟨by omega, fun a' hx => ?_⟩
          by_cases hltq : a' < b
          · exact ha2 a' hltq
          · obtain rfl : a' = b := by omega
            exact fun i hi => ha3 i (by omega)
         ·
          omega
      ·
       try simp only [sps] at h45
       refine .exit ?_
       refine hK13 _ _ ?_
       refine .seq (fun K25 hK25 => ?_)
       refine .region ?_
       refine .m rfl rfl rfl (.assign rfl) ?_
       refine .nil ?_
       refine hK25 _ _ ?_
       refine .ret ?_
       -- leaf e5
       refine hret _ _ ?_
       refine ⟨_, rfl, ?_⟩
       exact ⟨congrArg _ (B_true ⟨by omega, fun x hx => ha1 x (by omega), fun a ha => ha2 a (by omega)⟩), hle⟩
theorem specIsPart_c {f : SFun} {p : SFunP} {m : Prt} {q : PrtP} {H : GHeap} (hin : f.In H p := by assumption) (hin' : m.In H q := by assumption) (hs : f.Small := by assumption) (hs' : m.Small := by assumption) :
    GCalls Try.prog 70 [.agg (f.cells p).toArray, .agg (m.cells q).toArray] H (Ret (.bool (B (f.Is ∧ f.Part m.me))) H) := by
  refine GCalls.ret rfl ?_
  obtain ⟨w1, w2⟩ := hs'
  refine GCalls.body (N := 13) (rs := [.tmp 4]) Try.func70 rfl rfl rfl rfl (fun Qx hret hend => ?_)
  refine .forget (fr' := [(0, some _), (1, some _)]) ⟨rfl, rfl, trivial⟩ ?_
  have hle := GHeap.Le.refl H
  have base_hin := hin
  have base_hin' := hin'
  refine .seq (fun K1 hK1 => ?_)
  refine .region ?_
  refine .r rfl rfl rfl (.boxR rfl sz_39_VSFun rfl) ?_
  rintro _ H2 ⟨g2, rfl, le2, ge2, at2⟩
  have nx_H2 := le2.1
  replace hle := hle.trans le2
  have lt_at2 := GHeap.lt_of_get at2
  replace hin := base_hin.mono hle
  replace hin' := base_hin'.mono hle
  have hb2 : SFun.At _ g2 0 f p := ⟨Mem.of_get at2, hin⟩
  obtain ⟨fsh2, c52, c62, i12, i22⟩ := hb2.get
  have hm2 : MemN _ _ _ _ _ := ⟨rfl, hb2.1⟩
  have hi2 := hb2.2
  have hmsh2 : MemN _ _ _ _ _ := ⟨rfl, fsh2.1⟩
  have hish2 := fsh2.2
  refine .r rfl rfl rfl (.boxR rfl sz_34_VPrt rfl) ?_
  rintro _ H3 ⟨g3, rfl, le3, ge3, at3⟩
  have nx_H3 := le3.1
  replace hle := hle.trans le3
  replace at2 := le3.2 _ _ at2
  have lt_at3 := GHeap.lt_of_get at3
  replace hin := base_hin.mono hle
  replace hin' := base_hin'.mono hle
  clear hb2 fsh2 c52 c62 i12 i22 hm2 hi2 hmsh2 hish2
  have hb2 : SFun.At _ g2 0 f p := ⟨Mem.of_get at2, hin⟩
  obtain ⟨fsh2, c52, c62, i12, i22⟩ := hb2.get
  have hm2 : MemN _ _ _ _ _ := ⟨rfl, hb2.1⟩
  have hi2 := hb2.2
  have hmsh2 : MemN _ _ _ _ _ := ⟨rfl, fsh2.1⟩
  have hish2 := fsh2.2
  have hb3 : Prt.At _ g3 0 m q := ⟨Mem.of_get at3, hin'⟩
  obtain ⟨c03, i03⟩ := hb3.get
  have hm3 : MemN _ _ _ _ _ := ⟨rfl, hb3.1⟩
  have hi3 := hb3.2
  refine .m rfl rfl rfl (.assign rfl) ?_
  refine .nil ?_
  refine hK1 _ _ ?_
  refine .seq (fun K2 hK2 => ?_)
  refine .region ?_
  refine .m rfl rfl rfl (.loadM ag_39_VSFun rfl ⟨rfl, Mem.of_get at2⟩) ?_
  refine .callQ rfl rfl rfl rfl @Try.call78 rfl (l19Is_c) ?_
  refine .m rfl rfl rfl (.move rfl) ?_
  refine .split (fun h7 => ?_) (fun h7 => ?_)
  ·
   simp only [sps] at h7
   refine .mg rfl rfl rfl rfl rfl (.loadM ag_39_VSFun rfl ⟨rfl, Mem.of_get at2⟩) ?_
   refine .mg rfl rfl rfl rfl rfl (.fieldAddr fo_34_0_VPrt rfl) ?_
   refine .mg rfl rfl rfl rfl rfl (.load on_23_B rfl (by assumption)) ?_
   refine .callQg rfl rfl rfl rfl rfl rfl @Try.call30 rfl (l25Part_c) ?_
   refine .m rfl rfl rfl (.pickT rfl rfl) ?_
   refine .m rfl rfl rfl (.assign rfl) ?_
   refine .nil ?_
   refine hK2 _ _ ?_
   refine .ret ?_
   -- leaf e1
   refine hret _ _ ?_
   refine ⟨_, rfl, ?_⟩
   first
   | exact ⟨congrArg _ (B_congr ⟨fun hh => hh.2, fun hf => ⟨h7, hf⟩⟩), hle⟩
   | exact ⟨congrArg _ (B_false fun hh => h7 hh.1), hle⟩
  ·
   simp only [sps] at h7
   refine .sg rfl rfl rfl rfl rfl ?_
   refine .sg rfl rfl rfl rfl rfl ?_
   refine .sg rfl rfl rfl rfl rfl ?_
   refine .sg rfl rfl rfl rfl rfl ?_
   refine .m rfl rfl rfl (.pickF rfl rfl) ?_
   refine .m rfl rfl rfl (.assign rfl) ?_
   refine .nil ?_
   refine hK2 _ _ ?_
   refine .ret ?_
   -- leaf e2
   refine hret _ _ ?_
   refine ⟨_, rfl, ?_⟩
   first
   | exact ⟨congrArg _ (B_congr ⟨fun hh => hh.2, fun hf => ⟨h7, hf⟩⟩), hle⟩
   | exact ⟨congrArg _ (B_false fun hh => h7 hh.1), hle⟩
theorem l26Two_c {f : SFun} {p : SFunP} {m m' : Prt} {q q' : PrtP} {H : GHeap} (hin : f.In H p := by assumption) (hin1 : m.In H q := by assumption) (hin2 : m'.In H q' := by assumption) (hs : f.Small := by assumption) (hs1 : m.Small := by assumption) (hs2 : m'.Small := by assumption) :
    GCalls Try.prog 41 [.agg (f.cells p).toArray, .agg (m.cells q).toArray, .agg (m'.cells q').toArray] H (Ret (.bool (B (f.Is ∧ f.Part m.me ∧ f.Part m'.me))) H) := by
  refine GCalls.ret rfl ?_
  have hs2' := hs2
  obtain ⟨w1, w2⟩ := hs2'
  refine GCalls.body (N := 16) (rs := [.tmp 6]) Try.func41 rfl rfl rfl rfl (fun Qx hret hend => ?_)
  refine .forget (fr' := [(0, some _), (1, some _), (2, some _)]) ⟨rfl, rfl, rfl, trivial⟩ ?_
  have hle := GHeap.Le.refl H
  have base_hin := hin
  have base_hin1 := hin1
  have base_hin2 := hin2
  refine .seq (fun K1 hK1 => ?_)
  refine .region ?_
  refine .r rfl rfl rfl (.boxR rfl sz_39_VSFun rfl) ?_
  rintro _ H3 ⟨g3, rfl, le3, ge3, at3⟩
  have nx_H3 := le3.1
  replace hle := hle.trans le3
  have lt_at3 := GHeap.lt_of_get at3
  replace hin := base_hin.mono hle
  replace hin1 := base_hin1.mono hle
  replace hin2 := base_hin2.mono hle
  have hb3 : SFun.At _ g3 0 f p := ⟨Mem.of_get at3, hin⟩
  obtain ⟨fsh3, c53, c63, i13, i23⟩ := hb3.get
  have hm3 : MemN _ _ _ _ _ := ⟨rfl, hb3.1⟩
  have hi3 := hb3.2
  have hmsh3 : MemN _ _ _ _ _ := ⟨rfl, fsh3.1⟩
  have hish3 := fsh3.2
  refine .r rfl rfl rfl (.boxR rfl sz_34_VPrt rfl) ?_
  rintro _ H4 ⟨g4, rfl, le4, ge4, at4⟩
  have nx_H4 := le4.1
  replace hle := hle.trans le4
  replace at3 := le4.2 _ _ at3
  have lt_at4 := GHeap.lt_of_get at4
  replace hin := base_hin.mono hle
  replace hin1 := base_hin1.mono hle
  replace hin2 := base_hin2.mono hle
  clear hb3 fsh3 c53 c63 i13 i23 hm3 hi3 hmsh3 hish3
  have hb3 : SFun.At _ g3 0 f p := ⟨Mem.of_get at3, hin⟩
  obtain ⟨fsh3, c53, c63, i13, i23⟩ := hb3.get
  have hm3 : MemN _ _ _ _ _ := ⟨rfl, hb3.1⟩
  have hi3 := hb3.2
  have hmsh3 : MemN _ _ _ _ _ := ⟨rfl, fsh3.1⟩
  have hish3 := fsh3.2
  have hb4 : Prt.At _ g4 0 m q := ⟨Mem.of_get at4, hin1⟩
  obtain ⟨c04, i04⟩ := hb4.get
  have hm4 : MemN _ _ _ _ _ := ⟨rfl, hb4.1⟩
  have hi4 := hb4.2
  refine .r rfl rfl rfl (.boxR rfl sz_34_VPrt rfl) ?_
  rintro _ H5 ⟨g5, rfl, le5, ge5, at5⟩
  have nx_H5 := le5.1
  replace hle := hle.trans le5
  replace at3 := le5.2 _ _ at3
  replace at4 := le5.2 _ _ at4
  have lt_at5 := GHeap.lt_of_get at5
  replace hin := base_hin.mono hle
  replace hin1 := base_hin1.mono hle
  replace hin2 := base_hin2.mono hle
  clear hb3 fsh3 c53 c63 i13 i23 hm3 hi3 hmsh3 hish3
  have hb3 : SFun.At _ g3 0 f p := ⟨Mem.of_get at3, hin⟩
  obtain ⟨fsh3, c53, c63, i13, i23⟩ := hb3.get
  have hm3 : MemN _ _ _ _ _ := ⟨rfl, hb3.1⟩
  have hi3 := hb3.2
  have hmsh3 : MemN _ _ _ _ _ := ⟨rfl, fsh3.1⟩
  have hish3 := fsh3.2
  clear hb4 c04 i04 hm4 hi4
  have hb4 : Prt.At _ g4 0 m q := ⟨Mem.of_get at4, hin1⟩
  obtain ⟨c04, i04⟩ := hb4.get
  have hm4 : MemN _ _ _ _ _ := ⟨rfl, hb4.1⟩
  have hi4 := hb4.2
  have hb5 : Prt.At _ g5 0 m' q' := ⟨Mem.of_get at5, hin2⟩
  obtain ⟨c05, i05⟩ := hb5.get
  have hm5 : MemN _ _ _ _ _ := ⟨rfl, hb5.1⟩
  have hi5 := hb5.2
  refine .m rfl rfl rfl (.assign rfl) ?_
  refine .nil ?_
  refine hK1 _ _ ?_
  refine .seq (fun K2 hK2 => ?_)
  refine .region ?_
  refine .m rfl rfl rfl (.loadM ag_39_VSFun rfl ⟨rfl, Mem.of_get at3⟩) ?_
  refine .m rfl rfl rfl (.loadM ag_34_VPrt rfl ⟨rfl, Mem.of_get at4⟩) ?_
  refine .callQ rfl rfl rfl rfl @Try.call70 rfl (specIsPart_c) ?_
  refine .m rfl rfl rfl (.move rfl) ?_
  refine .split (fun h10 => ?_) (fun h10 => ?_)
  ·
   simp only [sps] at h10
   have hI := h10.1
   refine .mg rfl rfl rfl rfl rfl (.loadM ag_39_VSFun rfl ⟨rfl, Mem.of_get at3⟩) ?_
   refine .mg rfl rfl rfl rfl rfl (.fieldAddr fo_34_0_VPrt rfl) ?_
   refine .mg rfl rfl rfl rfl rfl (.load on_23_B rfl (by assumption)) ?_
   refine .callQg rfl rfl rfl rfl rfl rfl @Try.call30 rfl (l25Part_c) ?_
   refine .m rfl rfl rfl (.pickT rfl rfl) ?_
   refine .m rfl rfl rfl (.assign rfl) ?_
   refine .nil ?_
   refine hK2 _ _ ?_
   refine .ret ?_
   -- leaf e1
   refine hret _ _ ?_
   refine ⟨_, rfl, ?_⟩
   first
   | exact ⟨congrArg _ (B_congr ⟨fun hh => hh.2.2, fun hf => ⟨h10.1, h10.2, hf⟩⟩), hle⟩
   | exact ⟨congrArg _ (B_false fun hh => h10 ⟨hh.1, hh.2.1⟩), hle⟩
  ·
   simp only [sps] at h10
   refine .sg rfl rfl rfl rfl rfl ?_
   refine .sg rfl rfl rfl rfl rfl ?_
   refine .sg rfl rfl rfl rfl rfl ?_
   refine .sg rfl rfl rfl rfl rfl ?_
   refine .m rfl rfl rfl (.pickF rfl rfl) ?_
   refine .m rfl rfl rfl (.assign rfl) ?_
   refine .nil ?_
   refine hK2 _ _ ?_
   refine .ret ?_
   -- leaf e2
   refine hret _ _ ?_
   refine ⟨_, rfl, ?_⟩
   first
   | exact ⟨congrArg _ (B_congr ⟨fun hh => hh.2.2, fun hf => ⟨h10.1, h10.2, hf⟩⟩), hle⟩
   | exact ⟨congrArg _ (B_false fun hh => h10 ⟨hh.1, hh.2.1⟩), hle⟩
end Go.Proofs.Ytbpehbbdodahaaa
