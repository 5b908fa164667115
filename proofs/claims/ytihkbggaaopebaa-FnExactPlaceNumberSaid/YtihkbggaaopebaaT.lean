/- Profunctors, in the reference. No condition but those of each statement. -/
import Derived.Test.YtihkbggaaopebaaO
import Derived.Test.YtihkbggaaopebaaD
namespace Go.Proofs.Ytihkbggaaopebaa
open Go Go.GL Go.RowKit Go.Proofs
theorem l22Calm_c {a : Option Addr} {xs : List Int} {H : GHeap} (h : Ints H a xs := by assumption) (hl : xs.length ≤ 1048576 := by omega) :
    GCalls Try.prog 56 [.slice a xs.length xs.length] H (Ret (.bool (B (NoMove xs))) H) := by
  refine GCalls.body (N := 16) (rs := [.tmp 2]) Try.func56 rfl rfl rfl rfl (fun Qx hret hend => ?_)
  refine .forget (fr' := [(0, some _)]) ⟨rfl, trivial⟩ ?_
  refine .seq (fun K1 hK1 => ?_)
  refine .region ?_
  refine .m rfl rfl rfl (.assign rfl) ?_
  refine .nil ?_
  refine hK1 _ _ ?_
  refine .seq (fun K2 hK2 => ?_)
  refine .seq (fun K3 hK3 => ?_)
  refine .region ?_
  refine .m rfl rfl rfl (.assign rfl) ?_
  refine .nil ?_
  refine hK3 _ _ ?_
  refine .block ?_
  refine .loopR (σ := Nat) [(0, some _)] (fun k => [(3, some (.int .i64 (k : Int)))]) (fun k H' => H = H' ∧ (k : Int) ≤ xs.length ∧ ∀ i, i < k → xs.getD i 0 = (i : Int)) (fun k => (xs.length - k : Int).toNat) (0) ⟨rfl, trivial⟩ ⟨rfl, trivial⟩ ?_ ?_
  ·
   refine ⟨rfl, ?_⟩
   exact ⟨by omega, fun _ _ => by omega⟩
  ·
   rintro k _ ⟨rfl, hI⟩ KL1 hKL1
   refine .forget (fr' := [(3, some (.int .i64 (k : Int))), (0, some _)]) ⟨rfl, rfl, trivial⟩ ?_
   obtain ⟨hk1, ha1⟩ := hI
   refine .seq (fun K4 hK4 => ?_)
   refine .seq (fun K5 hK5 => ?_)
   refine .region ?_
   refine .m rfl rfl rfl (.move rfl) ?_
   refine .m rfl rfl rfl (.move rfl) ?_
   refine .m rfl rfl rfl (.len sl_22_A rfl) ?_
   refine .m rfl rfl rfl (.cmp rfl rfl rfl) ?_
   refine .nil ?_
   refine hK5 _ _ ?_
   refine .cond rfl (fun h7 => ?_) (fun h7 => ?_)
   ·
    try simp only [sps] at h7
    refine .skip ?_
    refine hK4 _ _ ?_
    refine .seq (fun K6 hK6 => ?_)
    refine .block ?_
    refine .seq (fun K7 hK7 => ?_)
    refine .region ?_
    refine .m rfl rfl rfl (.move rfl) ?_
    refine .m rfl rfl rfl (.move rfl) ?_
    refine .m rfl rfl rfl (.idxN sl_22_A (by assumption) rfl rfl (by omega)) ?_
    refine .m rfl rfl rfl (.loadI on_2_A (by assumption) rfl (by omega)) ?_
    refine .m rfl rfl rfl (.move rfl) ?_
    refine .m rfl rfl rfl (.cmp rfl rfl rfl) ?_
    refine .nil ?_
    refine hK7 _ _ ?_
    refine .cond rfl (fun h15 => ?_) (fun h15 => ?_)
    ·
     try simp only [sps] at h15
     refine .seq (fun K8 hK8 => ?_)
     refine .region ?_
     refine .m rfl rfl rfl (.assign rfl) ?_
     refine .nil ?_
     refine hK8 _ _ ?_
     refine .ret ?_
     -- leaf e1
     refine hret _ _ ?_
     refine ⟨_, rfl, ?_⟩
     exact .of (congrArg _ (B_false fun hh => h15 (hh k (by omega))))
    ·
     try simp only [sps] at h15
     refine .skip ?_
     refine hK6 _ _ ?_
     refine .region ?_
     refine .m rfl rfl rfl (.move rfl) ?_
     refine .m rfl rfl rfl (.add rfl rfl rfl (by omega) (by omega)) ?_
     refine .m rfl rfl rfl (.assign rfl) ?_
     refine .nil ?_
     refine hKL1 (k + 1) _ _ ?_ ?_ ⟨rfl, rfl, trivial⟩
     ·
      refine ⟨rfl, ?_⟩
      refine ⟨by omega, fun i hx => ?_⟩
      by_cases hltq : i < k
      · exact ha1 i hltq
      · obtain rfl : i = k := by omega
        exact h15
     ·
      omega
   ·
    try simp only [sps] at h7
    refine .exit ?_
    refine hK2 _ _ ?_
    refine .seq (fun K9 hK9 => ?_)
    refine .region ?_
    refine .m rfl rfl rfl (.assign rfl) ?_
    refine .nil ?_
    refine hK9 _ _ ?_
    refine .ret ?_
    -- leaf e2
    refine hret _ _ ?_
    refine ⟨_, rfl, ?_⟩
    exact .of (congrArg _ (B_true fun i hi => ha1 i (by omega)))
theorem l22Sized_c {m : Prof} {p : ProfP} {H : GHeap} (hin : m.In H p := by assumption) (hs : m.Small := by assumption) (hC : m.s.Is := by assumption) (hD : m.t.Is := by assumption) :
    GCalls Try.prog 38 [.agg (m.cells p).toArray] H (Ret (.bool (B m.Sized)) H) := by
  refine GCalls.ret rfl ?_
  refine GCalls.body (N := 69) (rs := [.tmp 2]) Try.func38 rfl rfl rfl rfl (fun Qx hret hend => ?_)
  refine .forget (fr' := [(0, some _)]) ⟨rfl, trivial⟩ ?_
  have hle := GHeap.Le.refl H
  have base_hin := hin
  obtain ⟨s1, s2, ⟨s3, s4⟩, ⟨s5, s6⟩, s7, s8⟩ := hs
  have q1 := hC.1.n40
  have q2 := hD.1.n40
  refine .seq (fun K1 hK1 => ?_)
  refine .region ?_
  refine .r rfl rfl rfl (.boxR rfl sz_33_VProf rfl) ?_
  rintro _ H1 ⟨g1, rfl, le1, ge1, at1⟩
  have nx_H1 := le1.1
  replace hle := hle.trans le1
  have lt_at1 := GHeap.lt_of_get at1
  replace hin := base_hin.mono hle
  have hb1 : Prof.At _ g1 0 m p := ⟨Mem.of_get at1, hin⟩
  obtain ⟨fs1, ft1, c101, c111, c121, i21, i31, i41⟩ := hb1.get
  have hm1 : MemN _ _ _ _ _ := ⟨rfl, hb1.1⟩
  have hi1 := hb1.2
  have hms1 : MemN _ _ _ _ _ := ⟨rfl, fs1.1⟩
  have his1 := fs1.2
  have hmt1 : MemN _ _ _ _ _ := ⟨rfl, ft1.1⟩
  have hit1 := ft1.2
  refine .m rfl rfl rfl (.assign rfl) ?_
  refine .nil ?_
  refine hK1 _ _ ?_
  refine .seq (fun K2 hK2 => ?_)
  refine .seq (fun K3 hK3 => ?_)
  refine .region ?_
  obtain ⟨c0, c1, c2, c3, c4, d1, d2, d3, d4⟩ := fs1.get
  obtain ⟨x0, x1, x2, x3, x4, y1, y2, y3, y4⟩ := ft1.get
  refine .m rfl rfl rfl (.fieldAddr fo_33_2_VProf rfl) ?_
  refine .m rfl rfl rfl (.load on_23_B rfl (by assumption)) ?_
  refine .m rfl rfl rfl (.len sl_23_B rfl) ?_
  refine .m rfl rfl rfl (.fieldAddr fo_33_0_VProf rfl) ?_
  refine .m rfl rfl rfl (.fieldAddr fo_31_0_B rfl) ?_
  refine .m rfl rfl rfl (.load on_2_A rfl (by assumption)) ?_
  refine .m rfl rfl rfl (.cmp rfl rfl rfl) ?_
  refine .m rfl rfl rfl (.move rfl) ?_
  refine .split (fun h12 => ?_) (fun h12 => ?_)
  ·
   try simp only [sps] at h12
   refine .sg rfl rfl rfl rfl rfl ?_
   refine .sg rfl rfl rfl rfl rfl ?_
   refine .sg rfl rfl rfl rfl rfl ?_
   refine .sg rfl rfl rfl rfl rfl ?_
   refine .sg rfl rfl rfl rfl rfl ?_
   refine .sg rfl rfl rfl rfl rfl ?_
   refine .sg rfl rfl rfl rfl rfl ?_
   refine .sg rfl rfl rfl rfl rfl ?_
   refine .m rfl rfl rfl (.pickT rfl rfl) ?_
   refine .m rfl rfl rfl (.move rfl) ?_
   refine .sg rfl rfl rfl rfl rfl ?_
   refine .sg rfl rfl rfl rfl rfl ?_
   refine .sg rfl rfl rfl rfl rfl ?_
   refine .sg rfl rfl rfl rfl rfl ?_
   refine .sg rfl rfl rfl rfl rfl ?_
   refine .sg rfl rfl rfl rfl rfl ?_
   refine .sg rfl rfl rfl rfl rfl ?_
   refine .sg rfl rfl rfl rfl rfl ?_
   refine .m rfl rfl rfl (.pickT rfl rfl) ?_
   refine .nil ?_
   refine hK3 _ _ ?_
   refine .condT rfl ?_
   refine .seq (fun K4 hK4 => ?_)
   refine .region ?_
   refine .m rfl rfl rfl (.assign rfl) ?_
   refine .nil ?_
   refine hK4 _ _ ?_
   refine .ret ?_
   -- leaf e1
   refine hret _ _ ?_
   refine ⟨_, rfl, ?_⟩
   first
   | exact ⟨congrArg _ (B_true ⟨by omega, by omega, by omega, fun x hx => (ha1 x (by omega)).1, fun x hx y hy => (ha1 x (by omega)).2 y hy⟩), hle⟩
   | exact ⟨congrArg _ (B_false fun hh => by have := hh.rng k (by omega) j (by omega); omega), hle⟩
   | exact ⟨congrArg _ (B_false fun hh => by have := hh.row k (by omega); omega), hle⟩
   | exact ⟨congrArg _ (B_false fun hh => by have := hh.sl; omega), hle⟩
   | exact ⟨congrArg _ (B_false fun hh => by have := hh.bl; omega), hle⟩
   | exact ⟨congrArg _ (B_false fun hh => by have := hh.hl; omega), hle⟩
  ·
   try simp only [sps] at h12
   refine .mg rfl rfl rfl rfl rfl (.fieldAddr fo_33_3_VProf rfl) ?_
   refine .mg rfl rfl rfl rfl rfl (.load on_26_VProf rfl (by assumption)) ?_
   refine .mg rfl rfl rfl rfl rfl (.len sl_26_VZ rfl) ?_
   refine .mg rfl rfl rfl rfl rfl (.fieldAddr fo_33_0_VProf rfl) ?_
   refine .mg rfl rfl rfl rfl rfl (.fieldAddr fo_31_1_B rfl) ?_
   refine .mg rfl rfl rfl rfl rfl (.load on_22_B rfl (by assumption)) ?_
   refine .mg rfl rfl rfl rfl rfl (.len sl_22_A rfl) ?_
   refine .mg rfl rfl rfl rfl rfl (.cmp rfl rfl rfl) ?_
   refine .m rfl rfl rfl (.pickF rfl rfl) ?_
   refine .m rfl rfl rfl (.move rfl) ?_
   refine .split (fun h22 => ?_) (fun h22 => ?_)
   ·
    try simp only [sps] at h22
    refine .sg rfl rfl rfl rfl rfl ?_
    refine .sg rfl rfl rfl rfl rfl ?_
    refine .sg rfl rfl rfl rfl rfl ?_
    refine .sg rfl rfl rfl rfl rfl ?_
    refine .sg rfl rfl rfl rfl rfl ?_
    refine .sg rfl rfl rfl rfl rfl ?_
    refine .sg rfl rfl rfl rfl rfl ?_
    refine .sg rfl rfl rfl rfl rfl ?_
    refine .m rfl rfl rfl (.pickT rfl rfl) ?_
    refine .nil ?_
    refine hK3 _ _ ?_
    refine .condT rfl ?_
    refine .seq (fun K5 hK5 => ?_)
    refine .region ?_
    refine .m rfl rfl rfl (.assign rfl) ?_
    refine .nil ?_
    refine hK5 _ _ ?_
    refine .ret ?_
    -- leaf e2
    refine hret _ _ ?_
    refine ⟨_, rfl, ?_⟩
    first
    | exact ⟨congrArg _ (B_true ⟨by omega, by omega, by omega, fun x hx => (ha1 x (by omega)).1, fun x hx y hy => (ha1 x (by omega)).2 y hy⟩), hle⟩
    | exact ⟨congrArg _ (B_false fun hh => by have := hh.rng k (by omega) j (by omega); omega), hle⟩
    | exact ⟨congrArg _ (B_false fun hh => by have := hh.row k (by omega); omega), hle⟩
    | exact ⟨congrArg _ (B_false fun hh => by have := hh.sl; omega), hle⟩
    | exact ⟨congrArg _ (B_false fun hh => by have := hh.bl; omega), hle⟩
    | exact ⟨congrArg _ (B_false fun hh => by have := hh.hl; omega), hle⟩
   ·
    try simp only [sps] at h22
    refine .mg rfl rfl rfl rfl rfl (.fieldAddr fo_33_4_VProf rfl) ?_
    refine .mg rfl rfl rfl rfl rfl (.load on_26_VProf rfl (by assumption)) ?_
    refine .mg rfl rfl rfl rfl rfl (.len sl_26_VZ rfl) ?_
    refine .mg rfl rfl rfl rfl rfl (.fieldAddr fo_33_1_VProf rfl) ?_
    refine .mg rfl rfl rfl rfl rfl (.fieldAddr fo_31_1_B rfl) ?_
    refine .mg rfl rfl rfl rfl rfl (.load on_22_B rfl (by assumption)) ?_
    refine .mg rfl rfl rfl rfl rfl (.len sl_22_A rfl) ?_
    refine .mg rfl rfl rfl rfl rfl (.cmp rfl rfl rfl) ?_
    refine .m rfl rfl rfl (.pickF rfl rfl) ?_
    refine .nil ?_
    refine hK3 _ _ ?_
    refine .cond rfl (fun h31 => ?_) (fun h31 => ?_)
    ·
     try simp only [sps] at h31
     refine .seq (fun K6 hK6 => ?_)
     refine .region ?_
     refine .m rfl rfl rfl (.assign rfl) ?_
     refine .nil ?_
     refine hK6 _ _ ?_
     refine .ret ?_
     -- leaf e3
     refine hret _ _ ?_
     refine ⟨_, rfl, ?_⟩
     first
     | exact ⟨congrArg _ (B_true ⟨by omega, by omega, by omega, fun x hx => (ha1 x (by omega)).1, fun x hx y hy => (ha1 x (by omega)).2 y hy⟩), hle⟩
     | exact ⟨congrArg _ (B_false fun hh => by have := hh.rng k (by omega) j (by omega); omega), hle⟩
     | exact ⟨congrArg _ (B_false fun hh => by have := hh.row k (by omega); omega), hle⟩
     | exact ⟨congrArg _ (B_false fun hh => by have := hh.sl; omega), hle⟩
     | exact ⟨congrArg _ (B_false fun hh => by have := hh.bl; omega), hle⟩
     | exact ⟨congrArg _ (B_false fun hh => by have := hh.hl; omega), hle⟩
    ·
     try simp only [sps] at h31
     refine .skip ?_
     refine hK2 _ _ ?_
     refine .seq (fun K7 hK7 => ?_)
     refine .seq (fun K8 hK8 => ?_)
     refine .region ?_
     refine .m rfl rfl rfl (.assign rfl) ?_
     refine .nil ?_
     refine hK8 _ _ ?_
     refine .block ?_
     refine .loopR (σ := Nat) [(1, some _)] (fun k => [(3, some (.int .i64 (k : Int)))]) (fun k H' => H1 = H' ∧ (k : Int) ≤ m.sz.length ∧ ∀ x, x < k → ((m.sz.getD x []).length : Int) = m.t.obj ∧ ∀ y : Nat, y < (m.sz.getD x []).length → 0 ≤ (m.sz.getD x []).getD y 0 ∧ (m.sz.getD x []).getD y 0 ≤ 64) (fun k => (m.sz.length - k : Int).toNat) (0) ⟨rfl, trivial⟩ ⟨rfl, trivial⟩ ?_ ?_
     ·
      refine ⟨rfl, ?_⟩
      exact ⟨by omega, fun _ _ => by omega⟩
     ·
      rintro k _ ⟨rfl, hI⟩ KL1 hKL1
      refine .forget (fr' := [(3, some (.int .i64 (k : Int))), (1, some _)]) ⟨rfl, rfl, trivial⟩ ?_
      obtain ⟨hk1, ha1⟩ := hI
      refine .seq (fun K9 hK9 => ?_)
      refine .seq (fun K10 hK10 => ?_)
      refine .region ?_
      refine .m rfl rfl rfl (.move rfl) ?_
      refine .m rfl rfl rfl (.fieldAddr fo_33_2_VProf rfl) ?_
      refine .m rfl rfl rfl (.load on_23_B rfl (by assumption)) ?_
      refine .m rfl rfl rfl (.len sl_23_B rfl) ?_
      refine .m rfl rfl rfl (.cmp rfl rfl rfl) ?_
      refine .nil ?_
      refine hK10 _ _ ?_
      refine .cond rfl (fun h36 => ?_) (fun h36 => ?_)
      ·
       simp only [sps] at h36
       have r1 := i21.2 k (by omega)
       have r2 := s4 k
       refine .skip ?_
       refine hK9 _ _ ?_
       refine .seq (fun K11 hK11 => ?_)
       refine .block ?_
       refine .seq (fun K12 hK12 => ?_)
       refine .seq (fun K13 hK13 => ?_)
       refine .regionD mixed_orders_B (.q 0 (.q 1 (.q 2 (.q 3 (.q 4 (.q 5 (.q 6 (.q 7 (.q 8 (.q 9 (.done))))))))))) (by kernel_rfl) ?_
       refine .m rfl rfl rfl rfl (.refl _) (.fieldAddr fo_33_2_VProf rfl) ?_
       refine .m rfl rfl rfl rfl (.refl _) (.load on_23_B rfl (by assumption)) ?_
       refine .m rfl rfl rfl rfl (.refl _) (.move rfl) ?_
       refine .m rfl rfl rfl rfl (.refl _) (.idxN sl_23_B (Intss.sl (by assumption)) rfl rfl (by omega)) ?_
       refine .m rfl rfl rfl rfl (.refl _) (.loadR on_22_B (by assumption) rfl (by omega)) ?_
       refine .m rfl rfl rfl rfl (.refl _) (.len sl_22_A rfl) ?_
       refine .m rfl rfl rfl rfl (.refl _) (.fieldAddr fo_33_1_VProf rfl) ?_
       refine .m rfl rfl rfl rfl (.refl _) (.fieldAddr fo_31_0_B rfl) ?_
       refine .m rfl rfl rfl rfl (.refl _) (.load on_2_A rfl (by assumption)) ?_
       refine .m rfl rfl rfl rfl (.refl _) (.cmp rfl rfl rfl) ?_
       refine .done ?_
       refine hK13 _ _ ?_
       refine .cond rfl (fun h48 => ?_) (fun h48 => ?_)
       ·
        try simp only [sps] at h48
        refine .seq (fun K14 hK14 => ?_)
        refine .region ?_
        refine .m rfl rfl rfl (.assign rfl) ?_
        refine .nil ?_
        refine hK14 _ _ ?_
        refine .ret ?_
        -- leaf e4
        refine hret _ _ ?_
        refine ⟨_, rfl, ?_⟩
        first
        | exact ⟨congrArg _ (B_true ⟨by omega, by omega, by omega, fun x hx => (ha1 x (by omega)).1, fun x hx y hy => (ha1 x (by omega)).2 y hy⟩), hle⟩
        | exact ⟨congrArg _ (B_false fun hh => by have := hh.rng k (by omega) j (by omega); omega), hle⟩
        | exact ⟨congrArg _ (B_false fun hh => by have := hh.row k (by omega); omega), hle⟩
        | exact ⟨congrArg _ (B_false fun hh => by have := hh.sl; omega), hle⟩
        | exact ⟨congrArg _ (B_false fun hh => by have := hh.bl; omega), hle⟩
        | exact ⟨congrArg _ (B_false fun hh => by have := hh.hl; omega), hle⟩
       ·
        try simp only [sps] at h48
        refine .skip ?_
        refine hK12 _ _ ?_
        refine .seq (fun K15 hK15 => ?_)
        refine .region ?_
        refine .m rfl rfl rfl (.assign rfl) ?_
        refine .nil ?_
        refine hK15 _ _ ?_
        refine .block ?_
        refine .loopR (σ := Nat) [(1, some _), (3, some _)] (fun j => [(4, some (.int .i64 (j : Int)))]) (fun j H' => H1 = H' ∧ (j : Int) ≤ (m.sz.getD k []).length ∧ ∀ y, y < j → 0 ≤ (m.sz.getD k []).getD y 0 ∧ (m.sz.getD k []).getD y 0 ≤ 64) (fun j => ((m.sz.getD k []).length - j : Int).toNat) (0) ⟨rfl, rfl, trivial⟩ ⟨rfl, trivial⟩ ?_ ?_
        ·
         refine ⟨rfl, ?_⟩
         exact ⟨by omega, fun _ _ => by omega⟩
        ·
         rintro j _ ⟨rfl, hI⟩ KL2 hKL2
         refine .forget (fr' := [(4, some (.int .i64 (j : Int))), (1, some _), (3, some _)]) ⟨rfl, rfl, rfl, trivial⟩ ?_
         obtain ⟨hk2, ha2⟩ := hI
         refine .seq (fun K16 hK16 => ?_)
         refine .seq (fun K17 hK17 => ?_)
         refine .region ?_
         refine .m rfl rfl rfl (.move rfl) ?_
         refine .m rfl rfl rfl (.fieldAddr fo_33_2_VProf rfl) ?_
         refine .m rfl rfl rfl (.load on_23_B rfl (by assumption)) ?_
         refine .m rfl rfl rfl (.move rfl) ?_
         refine .m rfl rfl rfl (.idxN sl_23_B (Intss.sl (by assumption)) rfl rfl (by omega)) ?_
         refine .m rfl rfl rfl (.loadR on_22_B (by assumption) rfl (by omega)) ?_
         refine .m rfl rfl rfl (.len sl_22_A rfl) ?_
         refine .m rfl rfl rfl (.cmp rfl rfl rfl) ?_
         refine .nil ?_
         refine hK17 _ _ ?_
         refine .cond rfl (fun h56 => ?_) (fun h56 => ?_)
         ·
          try simp only [sps] at h56
          refine .skip ?_
          refine hK16 _ _ ?_
          refine .seq (fun K18 hK18 => ?_)
          refine .block ?_
          refine .seq (fun K19 hK19 => ?_)
          refine .region ?_
          refine .m rfl rfl rfl (.fieldAddr fo_33_2_VProf rfl) ?_
          refine .m rfl rfl rfl (.load on_23_B rfl (by assumption)) ?_
          refine .m rfl rfl rfl (.move rfl) ?_
          refine .m rfl rfl rfl (.idxN sl_23_B (Intss.sl (by assumption)) rfl rfl (by omega)) ?_
          refine .m rfl rfl rfl (.loadR on_22_B (by assumption) rfl (by omega)) ?_
          refine .m rfl rfl rfl (.move rfl) ?_
          refine .m rfl rfl rfl (.idxN sl_22_A (by assumption) rfl rfl (by omega)) ?_
          refine .m rfl rfl rfl (.loadI on_2_A (by assumption) rfl (by omega)) ?_
          refine .callQ rfl rfl rfl rfl @Try.call55 rfl (l01In_c) ?_
          refine .m rfl rfl rfl (.not rfl) ?_
          refine .nil ?_
          refine hK19 _ _ ?_
          refine .cond rfl (fun h68 => ?_) (fun h68 => ?_)
          ·
           try simp only [sps] at h68
           refine .seq (fun K20 hK20 => ?_)
           refine .region ?_
           refine .m rfl rfl rfl (.assign rfl) ?_
           refine .nil ?_
           refine hK20 _ _ ?_
           refine .ret ?_
           -- leaf e5
           refine hret _ _ ?_
           refine ⟨_, rfl, ?_⟩
           first
           | exact ⟨congrArg _ (B_true ⟨by omega, by omega, by omega, fun x hx => (ha1 x (by omega)).1, fun x hx y hy => (ha1 x (by omega)).2 y hy⟩), hle⟩
           | exact ⟨congrArg _ (B_false fun hh => by have := hh.rng k (by omega) j (by omega); omega), hle⟩
           | exact ⟨congrArg _ (B_false fun hh => by have := hh.row k (by omega); omega), hle⟩
           | exact ⟨congrArg _ (B_false fun hh => by have := hh.sl; omega), hle⟩
           | exact ⟨congrArg _ (B_false fun hh => by have := hh.bl; omega), hle⟩
           | exact ⟨congrArg _ (B_false fun hh => by have := hh.hl; omega), hle⟩
          ·
           try simp only [sps] at h68
           refine .skip ?_
           refine hK18 _ _ ?_
           refine .region ?_
           refine .m rfl rfl rfl (.move rfl) ?_
           refine .m rfl rfl rfl (.add rfl rfl rfl (by omega) (by omega)) ?_
           refine .m rfl rfl rfl (.assign rfl) ?_
           refine .nil ?_
           refine hKL2 (j + 1) _ _ ?_ ?_ ⟨rfl, rfl, rfl, trivial⟩
           ·
            refine ⟨rfl, ?_⟩
            refine ⟨by omega, fun y hx => ?_⟩
            by_cases hltq : y < j
            · exact ha2 y hltq
            · obtain rfl : y = j := by omega
              exact h68
           ·
            omega
         ·
          try simp only [sps] at h56
          refine .exit ?_
          refine hK11 _ _ ?_
          refine .region ?_
          refine .m rfl rfl rfl (.move rfl) ?_
          refine .m rfl rfl rfl (.add rfl rfl rfl (by omega) (by omega)) ?_
          refine .m rfl rfl rfl (.assign rfl) ?_
          refine .nil ?_
          refine hKL1 (k + 1) _ _ ?_ ?_ ⟨rfl, rfl, trivial⟩
          ·
           refine ⟨rfl, ?_⟩
           refine ⟨by omega, fun x hx => ?_⟩
           by_cases hltq : x < k
           · exact ha1 x hltq
           · obtain rfl : x = k := by omega
             exact ⟨h48, fun y hy => ha2 y (by omega)⟩
          ·
           omega
      ·
       try simp only [sps] at h36
       refine .exit ?_
       refine hK7 _ _ ?_
       refine .seq (fun K21 hK21 => ?_)
       refine .region ?_
       refine .m rfl rfl rfl (.assign rfl) ?_
       refine .nil ?_
       refine hK21 _ _ ?_
       refine .ret ?_
       -- leaf e6
       refine hret _ _ ?_
       refine ⟨_, rfl, ?_⟩
       first
       | exact ⟨congrArg _ (B_true ⟨by omega, by omega, by omega, fun x hx => (ha1 x (by omega)).1, fun x hx y hy => (ha1 x (by omega)).2 y hy⟩), hle⟩
       | exact ⟨congrArg _ (B_false fun hh => by have := hh.rng k (by omega) j (by omega); omega), hle⟩
       | exact ⟨congrArg _ (B_false fun hh => by have := hh.row k (by omega); omega), hle⟩
       | exact ⟨congrArg _ (B_false fun hh => by have := hh.sl; omega), hle⟩
       | exact ⟨congrArg _ (B_false fun hh => by have := hh.bl; omega), hle⟩
       | exact ⟨congrArg _ (B_false fun hh => by have := hh.hl; omega), hle⟩
set_option maxHeartbeats 4000000 in
theorem l22Maps_c {m : Prof} {p : ProfP} {H : GHeap} (hin : m.In H p := by assumption) (hs : m.Small := by assumption) (hC : m.s.Is := by assumption) (hD : m.t.Is := by assumption) (hz : m.Sized := by assumption) :
    GCalls Try.prog 39 [.agg (m.cells p).toArray] H (Ret (.bool (B m.Maps)) H) := by
  refine GCalls.ret rfl ?_
  refine GCalls.body (N := 147) (rs := [.tmp 2]) Try.func39 rfl rfl rfl rfl (fun Qx hret hend => ?_)
  refine .forget (fr' := [(0, some _)]) ⟨rfl, trivial⟩ ?_
  have hle := GHeap.Le.refl H
  have base_hin := hin
  obtain ⟨s1, s2, ⟨s3, s4⟩, ⟨s5, s6⟩, s7, s8⟩ := hs
  have q1 := hC.1.n40
  have q2 := hD.1.n40
  have q3 := hz.sl
  refine .seq (fun K1 hK1 => ?_)
  refine .region ?_
  refine .r rfl rfl rfl (.boxR rfl sz_33_VProf rfl) ?_
  rintro _ H1 ⟨g1, rfl, le1, ge1, at1⟩
  have nx_H1 := le1.1
  replace hle := hle.trans le1
  have lt_at1 := GHeap.lt_of_get at1
  replace hin := base_hin.mono hle
  have hb1 : Prof.At _ g1 0 m p := ⟨Mem.of_get at1, hin⟩
  obtain ⟨fs1, ft1, c101, c111, c121, i21, i31, i41⟩ := hb1.get
  have hm1 : MemN _ _ _ _ _ := ⟨rfl, hb1.1⟩
  have hi1 := hb1.2
  have hms1 : MemN _ _ _ _ _ := ⟨rfl, fs1.1⟩
  have his1 := fs1.2
  have hmt1 : MemN _ _ _ _ _ := ⟨rfl, ft1.1⟩
  have hit1 := ft1.2
  refine .m rfl rfl rfl (.assign rfl) ?_
  refine .nil ?_
  refine hK1 _ _ ?_
  refine .seq (fun K2 hK2 => ?_)
  refine .regionD mixed_orders_B (.q 0 (.q 1 (.q 2 (.q 3 (.or (.c 4 1 (.c 5 1 (.c 6 1 (.c 7 0 .done)))) (.c 5 1 (.c 4 1 (.c 6 1 (.c 7 0 .done))))))))) (by kernel_rfl) ?_
  refine .m rfl rfl rfl rfl (.refl _) (.fieldAddr fo_33_0_VProf rfl) ?_
  refine .m rfl rfl rfl rfl (.refl _) (.loadM ag_31_D rfl (by assumption)) ?_
  refine .m rfl rfl rfl rfl (.refl _) (.fieldAddr fo_33_1_VProf rfl) ?_
  refine .m rfl rfl rfl rfl (.refl _) (.loadM ag_31_D rfl (by assumption)) ?_
  refine .two [(1, some _)] rfl rfl rfl rfl rfl rfl rfl rfl rfl rfl rfl rfl rfl rfl rfl rfl rfl rfl ze_31_E rfl sz_31_D rfl rfl rfl rfl rfl (by rfl) (by rfl) rfl rfl rfl rfl rfl ⟨rfl, trivial⟩ rfl rfl (.refl _) ?_
  intro g3 g4 H4 fr4 le4 ge3 ge4 at3 at4 hsub4
  have nx_H4 := le4.1
  replace hle := hle.trans le4
  replace at1 := le4.2 _ _ at1
  have lt_at3 := GHeap.lt_of_get at3
  have lt_at4 := GHeap.lt_of_get at4
  replace hin := base_hin.mono hle
  clear hb1 fs1 ft1 c101 c111 c121 i21 i31 i41 hm1 hi1 hms1 his1 hmt1 hit1
  have hb1 : Prof.At _ g1 0 m p := ⟨Mem.of_get at1, hin⟩
  obtain ⟨fs1, ft1, c101, c111, c121, i21, i31, i41⟩ := hb1.get
  have hm1 : MemN _ _ _ _ _ := ⟨rfl, hb1.1⟩
  have hi1 := hb1.2
  have hms1 : MemN _ _ _ _ _ := ⟨rfl, fs1.1⟩
  have his1 := fs1.2
  have hmt1 : MemN _ _ _ _ _ := ⟨rfl, ft1.1⟩
  have hit1 := ft1.2
  have hb3 : Cat.At _ g3 0 m.s p.s := ⟨Mem.of_get at3, his1⟩
  obtain ⟨c03, c13, c23, c33, c43, i13, i23, i33, i43⟩ := hb3.get
  have hm3 : MemN _ _ _ _ _ := ⟨rfl, hb3.1⟩
  have hi3 := hb3.2
  have hb4 : Cat.At _ g4 0 m.t p.t := ⟨Mem.of_get at4, hit1⟩
  obtain ⟨c04, c14, c24, c34, c44, i14, i24, i34, i44⟩ := hb4.get
  have hm4 : MemN _ _ _ _ _ := ⟨rfl, hb4.1⟩
  have hi4 := hb4.2
  refine hK2 _ _ ?_
  refine .forget hsub4 ?_
  refine .seq (fun K3 hK3 => ?_)
  refine .seq (fun K4 hK4 => ?_)
  refine .region ?_
  refine .m rfl rfl rfl (.assign rfl) ?_
  refine .nil ?_
  refine hK4 _ _ ?_
  refine .block ?_
  refine .loopR (σ := Nat) [(1, some _), (3, some _), (4, some _)] (fun a => [(5, some (.int .i64 (a : Int)))]) (fun a H' => H4 = H' ∧ (a : Int) ≤ m.be.length ∧ ∀ a', a' < a → ((m.be.getD a' []).length : Int) = m.t.obj ∧ ∀ y, y < (m.be.getD a' []).length → m.BeOk a' y) (fun a => (m.be.length - a : Int).toNat) (0) ⟨rfl, rfl, rfl, trivial⟩ ⟨rfl, trivial⟩ ?_ ?_
  ·
   refine ⟨rfl, ?_⟩
   exact ⟨by omega, fun _ _ => by omega⟩
  ·
   rintro a _ ⟨rfl, hI⟩ KL1 hKL1
   refine .forget (fr' := [(5, some (.int .i64 (a : Int))), (1, some _), (3, some _), (4, some _)]) ⟨rfl, rfl, rfl, rfl, trivial⟩ ?_
   obtain ⟨hk1, ha1⟩ := hI
   refine .seq (fun K5 hK5 => ?_)
   refine .seq (fun K6 hK6 => ?_)
   refine .region ?_
   refine .m rfl rfl rfl (.move rfl) ?_
   refine .m rfl rfl rfl (.fieldAddr fo_33_3_VProf rfl) ?_
   refine .m rfl rfl rfl (.load on_26_VProf rfl (by assumption)) ?_
   refine .m rfl rfl rfl (.len sl_26_VZ rfl) ?_
   refine .m rfl rfl rfl (.cmp rfl rfl rfl) ?_
   refine .nil ?_
   refine hK6 _ _ ?_
   refine .cond rfl (fun h19 => ?_) (fun h19 => ?_)
   ·
    simp only [sps] at h19
    have r1 := i31.2 a (by omega)
    have r2 := s6 a
    have r3 := hz.b hC (a := a) (by omega)
    refine .skip ?_
    refine hK5 _ _ ?_
    refine .seq (fun K7 hK7 => ?_)
    refine .block ?_
    refine .seq (fun K8 hK8 => ?_)
    refine .seq (fun K9 hK9 => ?_)
    refine .regionD mixed_orders_B (.q 0 (.q 1 (.q 2 (.q 3 (.q 4 (.q 5 (.q 6 (.q 7 (.q 8 (.done)))))))))) (by kernel_rfl) ?_
    refine .m rfl rfl rfl rfl (.refl _) (.fieldAddr fo_33_3_VProf rfl) ?_
    refine .m rfl rfl rfl rfl (.refl _) (.load on_26_VProf rfl (by assumption)) ?_
    refine .m rfl rfl rfl rfl (.refl _) (.move rfl) ?_
    refine .m rfl rfl rfl rfl (.refl _) (.idxN sl_26_VZ (Intsss.sl (by assumption)) rfl rfl (by omega)) ?_
    refine .m rfl rfl rfl rfl (.refl _) (.loadRR on_23_B (by assumption) rfl (by omega)) ?_
    refine .m rfl rfl rfl rfl (.refl _) (.len sl_23_B rfl) ?_
    refine .m rfl rfl rfl rfl (.refl _) (.fieldAddr fo_31_0_B rfl) ?_
    refine .m rfl rfl rfl rfl (.refl _) (.load on_2_A rfl (by assumption)) ?_
    refine .m rfl rfl rfl rfl (.refl _) (.cmp rfl rfl rfl) ?_
    refine .done ?_
    refine hK9 _ _ ?_
    refine .cond rfl (fun h30 => ?_) (fun h30 => ?_)
    ·
     try simp only [sps] at h30
     refine .seq (fun K10 hK10 => ?_)
     refine .region ?_
     refine .m rfl rfl rfl (.assign rfl) ?_
     refine .nil ?_
     refine hK10 _ _ ?_
     refine .ret ?_
     -- leaf e1
     refine hret _ _ ?_
     refine ⟨_, rfl, ?_⟩
     first
     | exact ⟨congrArg _ (B_true ⟨fun a ha => ha1 a (by omega), fun b hb => ha3 b (by omega)⟩), hle⟩
     | exact ⟨congrArg _ (B_false fun hh => by rw [((hh.bh b (by omega)).2 x (by omega)).2] at h146; cases h146), hle⟩
     | exact ⟨congrArg _ (B_false fun hh => h130 ((hh.bh b (by omega)).2 x (by omega)).1), hle⟩
     | exact ⟨congrArg _ (B_false fun hh => by rw [((hh.be a (by omega)).2 y (by omega)).2] at h80; cases h80), hle⟩
     | exact ⟨congrArg _ (B_false fun hh => h64 ((hh.be a (by omega)).2 y (by omega)).1), hle⟩
     | exact ⟨congrArg _ (B_false fun hh => by have := (hh.bh b (by omega)).1; omega), hle⟩
     | exact ⟨congrArg _ (B_false fun hh => by have := (hh.be a (by omega)).1; omega), hle⟩
    ·
     try simp only [sps] at h30
     refine .skip ?_
     refine hK8 _ _ ?_
     refine .seq (fun K11 hK11 => ?_)
     refine .region ?_
     refine .m rfl rfl rfl (.assign rfl) ?_
     refine .nil ?_
     refine hK11 _ _ ?_
     refine .block ?_
     refine .loopR (σ := Nat) [(1, some _), (3, some _), (4, some _), (5, some _)] (fun y => [(6, some (.int .i64 (y : Int)))]) (fun y H' => H4 = H' ∧ (y : Int) ≤ (m.be.getD a []).length ∧ ∀ y', y' < y → m.BeOk a y') (fun y => ((m.be.getD a []).length - y : Int).toNat) (0) ⟨rfl, rfl, rfl, rfl, trivial⟩ ⟨rfl, trivial⟩ ?_ ?_
     ·
      refine ⟨rfl, ?_⟩
      exact ⟨by omega, fun _ _ => by omega⟩
     ·
      rintro y _ ⟨rfl, hI⟩ KL2 hKL2
      refine .forget (fr' := [(6, some (.int .i64 (y : Int))), (1, some _), (3, some _), (4, some _), (5, some _)]) ⟨rfl, rfl, rfl, rfl, rfl, trivial⟩ ?_
      obtain ⟨hk2, ha2⟩ := hI
      refine .seq (fun K12 hK12 => ?_)
      refine .seq (fun K13 hK13 => ?_)
      refine .region ?_
      refine .m rfl rfl rfl (.move rfl) ?_
      refine .m rfl rfl rfl (.fieldAddr fo_33_3_VProf rfl) ?_
      refine .m rfl rfl rfl (.load on_26_VProf rfl (by assumption)) ?_
      refine .m rfl rfl rfl (.move rfl) ?_
      refine .m rfl rfl rfl (.idxN sl_26_VZ (Intsss.sl (by assumption)) rfl rfl (by omega)) ?_
      refine .m rfl rfl rfl (.loadRR on_23_B (by assumption) rfl (by omega)) ?_
      refine .m rfl rfl rfl (.len sl_23_B rfl) ?_
      refine .m rfl rfl rfl (.cmp rfl rfl rfl) ?_
      refine .nil ?_
      refine hK13 _ _ ?_
      refine .cond rfl (fun h38 => ?_) (fun h38 => ?_)
      ·
       simp only [sps] at h38
       have t1 := r1.2 y (by omega)
       have t2 := r2.2 y
       have t3 := i21.2 (m.s.src.getD a 0).toNat (by omega)
       have t4 := i21.2 (m.s.tgt.getD a 0).toNat (by omega)
       refine .skip ?_
       refine hK12 _ _ ?_
       refine .seq (fun K14 hK14 => ?_)
       refine .block ?_
       refine .seq (fun K15 hK15 => ?_)
       refine .region ?_
       refine .m rfl rfl rfl (.fieldAddr fo_33_3_VProf rfl) ?_
       refine .m rfl rfl rfl (.load on_26_VProf rfl (by assumption)) ?_
       refine .m rfl rfl rfl (.move rfl) ?_
       refine .m rfl rfl rfl (.idxN sl_26_VZ (Intsss.sl (by assumption)) rfl rfl (by omega)) ?_
       refine .m rfl rfl rfl (.loadRR on_23_B (by assumption) rfl (by omega)) ?_
       refine .m rfl rfl rfl (.move rfl) ?_
       refine .m rfl rfl rfl (.idxN sl_23_B (Intss.sl (by assumption)) rfl rfl (by omega)) ?_
       refine .m rfl rfl rfl (.loadR on_22_B (by assumption) rfl (by omega)) ?_
       refine .m rfl rfl rfl (.assign rfl) ?_
       refine .nil ?_
       refine hK15 _ _ ?_
       refine .seq (fun K16 hK16 => ?_)
       refine .regionD mixed_orders_B (.q 0 (.q 1 (.q 2 (.q 3 (.q 4 (.q 5 (.q 6 (.q 7 (.q 8 (.q 9 (.q 10 (.q 11 (.q 12 (.q 13 (.q 14 (.q 15 (.q 16 (.q 17 (.q 18 (.q 19 (.q 20 (.q 21 (.q 22 (.q 23 (.q 24 (.q 25 (.q 26 (.q 27 (.q 28 (.c 29 0 (.q 30 (.q 31 (.done))))))))))))))))))))))))))))))))) (by kernel_rfl) ?_
       refine .m rfl rfl rfl rfl (.refl _) (.move rfl) ?_
       refine .m rfl rfl rfl rfl (.refl _) (.len sl_22_A rfl) ?_
       refine .m rfl rfl rfl rfl (.refl _) (.fieldAddr fo_33_2_VProf rfl) ?_
       refine .m rfl rfl rfl rfl (.refl _) (.load on_23_B rfl (by assumption)) ?_
       refine .m rfl rfl rfl rfl (.refl _) (.fieldAddr fo_31_2_B rfl) ?_
       refine .m rfl rfl rfl rfl (.refl _) (.load on_22_B rfl (by assumption)) ?_
       refine .m rfl rfl rfl rfl (.refl _) (.move rfl) ?_
       refine .m rfl rfl rfl rfl (.refl _) (.idxN sl_22_A (by assumption) rfl rfl (by omega)) ?_
       refine .m rfl rfl rfl rfl (.refl _) (.loadI on_2_A (by assumption) rfl (by omega)) ?_
       refine .m rfl rfl rfl rfl (.refl _) (.idx1 sl_23_B (Intss.sl (by assumption)) rfl rfl (by omega) (by omega)) ?_
       refine .m rfl rfl rfl rfl (.refl _) (.loadR on_22_B (by assumption) rfl (by omega)) ?_
       refine .m rfl rfl rfl rfl (.refl _) (.move rfl) ?_
       refine .m rfl rfl rfl rfl (.refl _) (.idxN sl_22_A (by assumption) rfl rfl (by omega)) ?_
       refine .m rfl rfl rfl rfl (.refl _) (.loadI on_2_A (by assumption) rfl (by omega)) ?_
       refine .m rfl rfl rfl rfl (.refl _) (.cmp rfl rfl rfl) ?_
       refine .m rfl rfl rfl rfl (.refl _) (.move rfl) ?_
       refine .split (fun h64 => ?_) (fun h64 => ?_)
       ·
        try simp only [sps] at h64
        refine .sg rfl rfl rfl rfl rfl rfl ?_
        refine .sg rfl rfl rfl rfl rfl rfl ?_
        refine .sg rfl rfl rfl rfl rfl rfl ?_
        refine .sg rfl rfl rfl rfl rfl rfl ?_
        refine .sg rfl rfl rfl rfl rfl rfl ?_
        refine .sg rfl rfl rfl rfl rfl rfl ?_
        refine .sg rfl rfl rfl rfl rfl rfl ?_
        refine .sg rfl rfl rfl rfl rfl rfl ?_
        refine .sg rfl rfl rfl rfl rfl rfl ?_
        refine .sg rfl rfl rfl rfl rfl rfl ?_
        refine .sg rfl rfl rfl rfl rfl rfl ?_
        refine .sg rfl rfl rfl rfl rfl rfl ?_
        refine .sg rfl rfl rfl rfl rfl rfl ?_
        refine .sgc rfl rfl rfl rfl rfl rfl ?_
        refine .sg rfl rfl rfl rfl rfl rfl ?_
        refine .m rfl rfl rfl rfl (.refl _) (.pickT rfl rfl) ?_
        refine .done ?_
        refine hK16 _ _ ?_
        refine .condT rfl ?_
        refine .seq (fun K17 hK17 => ?_)
        refine .region ?_
        refine .m rfl rfl rfl (.assign rfl) ?_
        refine .nil ?_
        refine hK17 _ _ ?_
        refine .ret ?_
        -- leaf e2
        refine hret _ _ ?_
        refine ⟨_, rfl, ?_⟩
        first
        | exact ⟨congrArg _ (B_true ⟨fun a ha => ha1 a (by omega), fun b hb => ha3 b (by omega)⟩), hle⟩
        | exact ⟨congrArg _ (B_false fun hh => by rw [((hh.bh b (by omega)).2 x (by omega)).2] at h146; cases h146), hle⟩
        | exact ⟨congrArg _ (B_false fun hh => h130 ((hh.bh b (by omega)).2 x (by omega)).1), hle⟩
        | exact ⟨congrArg _ (B_false fun hh => by rw [((hh.be a (by omega)).2 y (by omega)).2] at h80; cases h80), hle⟩
        | exact ⟨congrArg _ (B_false fun hh => h64 ((hh.be a (by omega)).2 y (by omega)).1), hle⟩
        | exact ⟨congrArg _ (B_false fun hh => by have := (hh.bh b (by omega)).1; omega), hle⟩
        | exact ⟨congrArg _ (B_false fun hh => by have := (hh.be a (by omega)).1; omega), hle⟩
       ·
        try simp only [sps] at h64
        refine .mg rfl rfl rfl rfl rfl rfl (.refl _) (.fieldAddr fo_33_2_VProf rfl) ?_
        refine .mg rfl rfl rfl rfl rfl rfl (.refl _) (.load on_23_B rfl (by assumption)) ?_
        refine .mg rfl rfl rfl rfl rfl rfl (.refl _) (.fieldAddr fo_31_1_B rfl) ?_
        refine .mg rfl rfl rfl rfl rfl rfl (.refl _) (.load on_22_B rfl (by assumption)) ?_
        refine .mg rfl rfl rfl rfl rfl rfl (.refl _) (.move rfl) ?_
        refine .mg rfl rfl rfl rfl rfl rfl (.refl _) (.idxN sl_22_A (by assumption) rfl rfl (by omega)) ?_
        refine .mg rfl rfl rfl rfl rfl rfl (.refl _) (.loadI on_2_A (by assumption) rfl (by omega)) ?_
        refine .mg rfl rfl rfl rfl rfl rfl (.refl _) (.idx1 sl_23_B (Intss.sl (by assumption)) rfl rfl (by omega) (by omega)) ?_
        refine .mg rfl rfl rfl rfl rfl rfl (.refl _) (.loadR on_22_B (by assumption) rfl (by omega)) ?_
        refine .mg rfl rfl rfl rfl rfl rfl (.refl _) (.move rfl) ?_
        refine .mg rfl rfl rfl rfl rfl rfl (.refl _) (.idxN sl_22_A (by assumption) rfl rfl (by omega)) ?_
        refine .mg rfl rfl rfl rfl rfl rfl (.refl _) (.loadI on_2_A (by assumption) rfl (by omega)) ?_
        refine .mg rfl rfl rfl rfl rfl rfl (.refl _) (.move rfl) ?_
        refine .callQ0g rfl rfl rfl rfl rfl rfl rfl @Try.call49 rfl (l01Map_c) ?_
        refine .mg rfl rfl rfl rfl rfl rfl (.refl _) (.not rfl) ?_
        refine .m rfl rfl rfl rfl (.refl _) (.pickF rfl rfl) ?_
        refine .done ?_
        refine hK16 _ _ ?_
        refine .cond rfl (fun h80 => ?_) (fun h80 => ?_)
        ·
         simp only [B_iff, B_not, Bool.not_eq_true', Bool.not_eq_false'] at h80
         refine .seq (fun K18 hK18 => ?_)
         refine .region ?_
         refine .m rfl rfl rfl (.assign rfl) ?_
         refine .nil ?_
         refine hK18 _ _ ?_
         refine .ret ?_
         -- leaf e3
         refine hret _ _ ?_
         refine ⟨_, rfl, ?_⟩
         first
         | exact ⟨congrArg _ (B_true ⟨fun a ha => ha1 a (by omega), fun b hb => ha3 b (by omega)⟩), hle⟩
         | exact ⟨congrArg _ (B_false fun hh => by rw [((hh.bh b (by omega)).2 x (by omega)).2] at h146; cases h146), hle⟩
         | exact ⟨congrArg _ (B_false fun hh => h130 ((hh.bh b (by omega)).2 x (by omega)).1), hle⟩
         | exact ⟨congrArg _ (B_false fun hh => by rw [((hh.be a (by omega)).2 y (by omega)).2] at h80; cases h80), hle⟩
         | exact ⟨congrArg _ (B_false fun hh => h64 ((hh.be a (by omega)).2 y (by omega)).1), hle⟩
         | exact ⟨congrArg _ (B_false fun hh => by have := (hh.bh b (by omega)).1; omega), hle⟩
         | exact ⟨congrArg _ (B_false fun hh => by have := (hh.be a (by omega)).1; omega), hle⟩
        ·
         simp only [B_iff, B_not, Bool.not_eq_true', Bool.not_eq_false'] at h80
         refine .skip ?_
         refine hK14 _ _ ?_
         refine .region ?_
         refine .m rfl rfl rfl (.move rfl) ?_
         refine .m rfl rfl rfl (.add rfl rfl rfl (by omega) (by omega)) ?_
         refine .m rfl rfl rfl (.assign rfl) ?_
         refine .nil ?_
         refine hKL2 (y + 1) _ _ ?_ ?_ ⟨rfl, rfl, rfl, rfl, rfl, trivial⟩
         ·
          refine ⟨rfl, ?_⟩
          refine ⟨by omega, fun y' hx => ?_⟩
          by_cases hltq : y' < y
          · exact ha2 y' hltq
          · obtain rfl : y' = y := by omega
            exact ⟨by omega, h80⟩
         ·
          omega
      ·
       try simp only [sps] at h38
       refine .exit ?_
       refine hK7 _ _ ?_
       refine .region ?_
       refine .m rfl rfl rfl (.move rfl) ?_
       refine .m rfl rfl rfl (.add rfl rfl rfl (by omega) (by omega)) ?_
       refine .m rfl rfl rfl (.assign rfl) ?_
       refine .nil ?_
       refine hKL1 (a + 1) _ _ ?_ ?_ ⟨rfl, rfl, rfl, rfl, trivial⟩
       ·
        refine ⟨rfl, ?_⟩
        refine ⟨by omega, fun a' hx => ?_⟩
        by_cases hltq : a' < a
        · exact ha1 a' hltq
        · obtain rfl : a' = a := by omega
          exact ⟨h30, fun y hy => ha2 y (by omega)⟩
       ·
        omega
   ·
    try simp only [sps] at h19
    refine .exit ?_
    refine hK3 _ _ ?_
    refine .seq (fun K19 hK19 => ?_)
    refine .seq (fun K20 hK20 => ?_)
    refine .region ?_
    refine .m rfl rfl rfl (.assign rfl) ?_
    refine .nil ?_
    refine hK20 _ _ ?_
    refine .block ?_
    refine .loopR (σ := Nat) [(1, some _), (3, some _), (4, some _)] (fun b => [(8, some (.int .i64 (b : Int)))]) (fun b H' => H4 = H' ∧ (b : Int) ≤ m.bh.length ∧ ∀ b', b' < b → ((m.bh.getD b' []).length : Int) = m.s.obj ∧ ∀ x, x < (m.bh.getD b' []).length → m.BhOk b' x) (fun b => (m.bh.length - b : Int).toNat) (0) ⟨rfl, rfl, rfl, trivial⟩ ⟨rfl, trivial⟩ ?_ ?_
    ·
     refine ⟨rfl, ?_⟩
     exact ⟨by omega, fun _ _ => by omega⟩
    ·
     rintro b _ ⟨rfl, hI⟩ KL3 hKL3
     refine .forget (fr' := [(8, some (.int .i64 (b : Int))), (1, some _), (3, some _), (4, some _)]) ⟨rfl, rfl, rfl, rfl, trivial⟩ ?_
     obtain ⟨hk3, ha3⟩ := hI
     refine .seq (fun K21 hK21 => ?_)
     refine .seq (fun K22 hK22 => ?_)
     refine .region ?_
     refine .m rfl rfl rfl (.move rfl) ?_
     refine .m rfl rfl rfl (.fieldAddr fo_33_4_VProf rfl) ?_
     refine .m rfl rfl rfl (.load on_26_VProf rfl (by assumption)) ?_
     refine .m rfl rfl rfl (.len sl_26_VZ rfl) ?_
     refine .m rfl rfl rfl (.cmp rfl rfl rfl) ?_
     refine .nil ?_
     refine hK22 _ _ ?_
     refine .cond rfl (fun h85 => ?_) (fun h85 => ?_)
     ·
      simp only [sps] at h85
      have r1 := i41.2 b (by omega)
      have r2 := s8 b
      have r3 := hz.h hD (b := b) (by omega)
      refine .skip ?_
      refine hK21 _ _ ?_
      refine .seq (fun K23 hK23 => ?_)
      refine .block ?_
      refine .seq (fun K24 hK24 => ?_)
      refine .seq (fun K25 hK25 => ?_)
      refine .regionD mixed_orders_B (.q 0 (.q 1 (.q 2 (.q 3 (.q 4 (.q 5 (.q 6 (.q 7 (.q 8 (.done)))))))))) (by kernel_rfl) ?_
      refine .m rfl rfl rfl rfl (.refl _) (.fieldAddr fo_33_4_VProf rfl) ?_
      refine .m rfl rfl rfl rfl (.refl _) (.load on_26_VProf rfl (by assumption)) ?_
      refine .m rfl rfl rfl rfl (.refl _) (.move rfl) ?_
      refine .m rfl rfl rfl rfl (.refl _) (.idxN sl_26_VZ (Intsss.sl (by assumption)) rfl rfl (by omega)) ?_
      refine .m rfl rfl rfl rfl (.refl _) (.loadRR on_23_B (by assumption) rfl (by omega)) ?_
      refine .m rfl rfl rfl rfl (.refl _) (.len sl_23_B rfl) ?_
      refine .m rfl rfl rfl rfl (.refl _) (.fieldAddr fo_31_0_B rfl) ?_
      refine .m rfl rfl rfl rfl (.refl _) (.load on_2_A rfl (by assumption)) ?_
      refine .m rfl rfl rfl rfl (.refl _) (.cmp rfl rfl rfl) ?_
      refine .done ?_
      refine hK25 _ _ ?_
      refine .cond rfl (fun h96 => ?_) (fun h96 => ?_)
      ·
       try simp only [sps] at h96
       refine .seq (fun K26 hK26 => ?_)
       refine .region ?_
       refine .m rfl rfl rfl (.assign rfl) ?_
       refine .nil ?_
       refine hK26 _ _ ?_
       refine .ret ?_
       -- leaf e4
       refine hret _ _ ?_
       refine ⟨_, rfl, ?_⟩
       first
       | exact ⟨congrArg _ (B_true ⟨fun a ha => ha1 a (by omega), fun b hb => ha3 b (by omega)⟩), hle⟩
       | exact ⟨congrArg _ (B_false fun hh => by rw [((hh.bh b (by omega)).2 x (by omega)).2] at h146; cases h146), hle⟩
       | exact ⟨congrArg _ (B_false fun hh => h130 ((hh.bh b (by omega)).2 x (by omega)).1), hle⟩
       | exact ⟨congrArg _ (B_false fun hh => by rw [((hh.be a (by omega)).2 y (by omega)).2] at h80; cases h80), hle⟩
       | exact ⟨congrArg _ (B_false fun hh => h64 ((hh.be a (by omega)).2 y (by omega)).1), hle⟩
       | exact ⟨congrArg _ (B_false fun hh => by have := (hh.bh b (by omega)).1; omega), hle⟩
       | exact ⟨congrArg _ (B_false fun hh => by have := (hh.be a (by omega)).1; omega), hle⟩
      ·
       try simp only [sps] at h96
       refine .skip ?_
       refine hK24 _ _ ?_
       refine .seq (fun K27 hK27 => ?_)
       refine .region ?_
       refine .m rfl rfl rfl (.assign rfl) ?_
       refine .nil ?_
       refine hK27 _ _ ?_
       refine .block ?_
       refine .loopR (σ := Nat) [(1, some _), (3, some _), (4, some _), (8, some _)] (fun x => [(9, some (.int .i64 (x : Int)))]) (fun x H' => H4 = H' ∧ (x : Int) ≤ (m.bh.getD b []).length ∧ ∀ x', x' < x → m.BhOk b x') (fun x => ((m.bh.getD b []).length - x : Int).toNat) (0) ⟨rfl, rfl, rfl, rfl, trivial⟩ ⟨rfl, trivial⟩ ?_ ?_
       ·
        refine ⟨rfl, ?_⟩
        exact ⟨by omega, fun _ _ => by omega⟩
       ·
        rintro x _ ⟨rfl, hI⟩ KL4 hKL4
        refine .forget (fr' := [(9, some (.int .i64 (x : Int))), (1, some _), (3, some _), (4, some _), (8, some _)]) ⟨rfl, rfl, rfl, rfl, rfl, trivial⟩ ?_
        obtain ⟨hk4, ha4⟩ := hI
        refine .seq (fun K28 hK28 => ?_)
        refine .seq (fun K29 hK29 => ?_)
        refine .region ?_
        refine .m rfl rfl rfl (.move rfl) ?_
        refine .m rfl rfl rfl (.fieldAddr fo_33_4_VProf rfl) ?_
        refine .m rfl rfl rfl (.load on_26_VProf rfl (by assumption)) ?_
        refine .m rfl rfl rfl (.move rfl) ?_
        refine .m rfl rfl rfl (.idxN sl_26_VZ (Intsss.sl (by assumption)) rfl rfl (by omega)) ?_
        refine .m rfl rfl rfl (.loadRR on_23_B (by assumption) rfl (by omega)) ?_
        refine .m rfl rfl rfl (.len sl_23_B rfl) ?_
        refine .m rfl rfl rfl (.cmp rfl rfl rfl) ?_
        refine .nil ?_
        refine hK29 _ _ ?_
        refine .cond rfl (fun h104 => ?_) (fun h104 => ?_)
        ·
         simp only [sps] at h104
         have t1 := r1.2 x (by omega)
         have t2 := r2.2 x
         have t3 := i21.2 x (by omega)
         have t4 := hz.row x (by omega)
         refine .skip ?_
         refine hK28 _ _ ?_
         refine .seq (fun K30 hK30 => ?_)
         refine .block ?_
         refine .seq (fun K31 hK31 => ?_)
         refine .region ?_
         refine .m rfl rfl rfl (.fieldAddr fo_33_4_VProf rfl) ?_
         refine .m rfl rfl rfl (.load on_26_VProf rfl (by assumption)) ?_
         refine .m rfl rfl rfl (.move rfl) ?_
         refine .m rfl rfl rfl (.idxN sl_26_VZ (Intsss.sl (by assumption)) rfl rfl (by omega)) ?_
         refine .m rfl rfl rfl (.loadRR on_23_B (by assumption) rfl (by omega)) ?_
         refine .m rfl rfl rfl (.move rfl) ?_
         refine .m rfl rfl rfl (.idxN sl_23_B (Intss.sl (by assumption)) rfl rfl (by omega)) ?_
         refine .m rfl rfl rfl (.loadR on_22_B (by assumption) rfl (by omega)) ?_
         refine .m rfl rfl rfl (.assign rfl) ?_
         refine .nil ?_
         refine hK31 _ _ ?_
         refine .seq (fun K32 hK32 => ?_)
         refine .regionD mixed_orders_B (.q 0 (.q 1 (.q 2 (.q 3 (.q 4 (.q 5 (.q 6 (.q 7 (.q 8 (.q 9 (.q 10 (.q 11 (.q 12 (.q 13 (.q 14 (.q 15 (.q 16 (.q 17 (.q 18 (.q 19 (.q 20 (.q 21 (.q 22 (.q 23 (.q 24 (.q 25 (.q 26 (.q 27 (.q 28 (.c 29 0 (.q 30 (.q 31 (.done))))))))))))))))))))))))))))))))) (by kernel_rfl) ?_
         refine .m rfl rfl rfl rfl (.refl _) (.move rfl) ?_
         refine .m rfl rfl rfl rfl (.refl _) (.len sl_22_A rfl) ?_
         refine .m rfl rfl rfl rfl (.refl _) (.fieldAddr fo_33_2_VProf rfl) ?_
         refine .m rfl rfl rfl rfl (.refl _) (.load on_23_B rfl (by assumption)) ?_
         refine .m rfl rfl rfl rfl (.refl _) (.move rfl) ?_
         refine .m rfl rfl rfl rfl (.refl _) (.idxN sl_23_B (Intss.sl (by assumption)) rfl rfl (by omega)) ?_
         refine .m rfl rfl rfl rfl (.refl _) (.loadR on_22_B (by assumption) rfl (by omega)) ?_
         refine .m rfl rfl rfl rfl (.refl _) (.fieldAddr fo_31_1_B rfl) ?_
         refine .m rfl rfl rfl rfl (.refl _) (.load on_22_B rfl (by assumption)) ?_
         refine .m rfl rfl rfl rfl (.refl _) (.move rfl) ?_
         refine .m rfl rfl rfl rfl (.refl _) (.idxN sl_22_A (by assumption) rfl rfl (by omega)) ?_
         refine .m rfl rfl rfl rfl (.refl _) (.loadI on_2_A (by assumption) rfl (by omega)) ?_
         refine .m rfl rfl rfl rfl (.refl _) (.idx1 sl_22_A (by assumption) rfl rfl (by omega) (by omega)) ?_
         refine .m rfl rfl rfl rfl (.refl _) (.loadI on_2_A (by assumption) rfl (by omega)) ?_
         refine .m rfl rfl rfl rfl (.refl _) (.cmp rfl rfl rfl) ?_
         refine .m rfl rfl rfl rfl (.refl _) (.move rfl) ?_
         refine .split (fun h130 => ?_) (fun h130 => ?_)
         ·
          try simp only [sps] at h130
          refine .sg rfl rfl rfl rfl rfl rfl ?_
          refine .sg rfl rfl rfl rfl rfl rfl ?_
          refine .sg rfl rfl rfl rfl rfl rfl ?_
          refine .sg rfl rfl rfl rfl rfl rfl ?_
          refine .sg rfl rfl rfl rfl rfl rfl ?_
          refine .sg rfl rfl rfl rfl rfl rfl ?_
          refine .sg rfl rfl rfl rfl rfl rfl ?_
          refine .sg rfl rfl rfl rfl rfl rfl ?_
          refine .sg rfl rfl rfl rfl rfl rfl ?_
          refine .sg rfl rfl rfl rfl rfl rfl ?_
          refine .sg rfl rfl rfl rfl rfl rfl ?_
          refine .sg rfl rfl rfl rfl rfl rfl ?_
          refine .sg rfl rfl rfl rfl rfl rfl ?_
          refine .sgc rfl rfl rfl rfl rfl rfl ?_
          refine .sg rfl rfl rfl rfl rfl rfl ?_
          refine .m rfl rfl rfl rfl (.refl _) (.pickT rfl rfl) ?_
          refine .done ?_
          refine hK32 _ _ ?_
          refine .condT rfl ?_
          refine .seq (fun K33 hK33 => ?_)
          refine .region ?_
          refine .m rfl rfl rfl (.assign rfl) ?_
          refine .nil ?_
          refine hK33 _ _ ?_
          refine .ret ?_
          -- leaf e5
          refine hret _ _ ?_
          refine ⟨_, rfl, ?_⟩
          first
          | exact ⟨congrArg _ (B_true ⟨fun a ha => ha1 a (by omega), fun b hb => ha3 b (by omega)⟩), hle⟩
          | exact ⟨congrArg _ (B_false fun hh => by rw [((hh.bh b (by omega)).2 x (by omega)).2] at h146; cases h146), hle⟩
          | exact ⟨congrArg _ (B_false fun hh => h130 ((hh.bh b (by omega)).2 x (by omega)).1), hle⟩
          | exact ⟨congrArg _ (B_false fun hh => by rw [((hh.be a (by omega)).2 y (by omega)).2] at h80; cases h80), hle⟩
          | exact ⟨congrArg _ (B_false fun hh => h64 ((hh.be a (by omega)).2 y (by omega)).1), hle⟩
          | exact ⟨congrArg _ (B_false fun hh => by have := (hh.bh b (by omega)).1; omega), hle⟩
          | exact ⟨congrArg _ (B_false fun hh => by have := (hh.be a (by omega)).1; omega), hle⟩
         ·
          try simp only [sps] at h130
          refine .mg rfl rfl rfl rfl rfl rfl (.refl _) (.fieldAddr fo_33_2_VProf rfl) ?_
          refine .mg rfl rfl rfl rfl rfl rfl (.refl _) (.load on_23_B rfl (by assumption)) ?_
          refine .mg rfl rfl rfl rfl rfl rfl (.refl _) (.move rfl) ?_
          refine .mg rfl rfl rfl rfl rfl rfl (.refl _) (.idxN sl_23_B (Intss.sl (by assumption)) rfl rfl (by omega)) ?_
          refine .mg rfl rfl rfl rfl rfl rfl (.refl _) (.loadR on_22_B (by assumption) rfl (by omega)) ?_
          refine .mg rfl rfl rfl rfl rfl rfl (.refl _) (.fieldAddr fo_31_2_B rfl) ?_
          refine .mg rfl rfl rfl rfl rfl rfl (.refl _) (.load on_22_B rfl (by assumption)) ?_
          refine .mg rfl rfl rfl rfl rfl rfl (.refl _) (.move rfl) ?_
          refine .mg rfl rfl rfl rfl rfl rfl (.refl _) (.idxN sl_22_A (by assumption) rfl rfl (by omega)) ?_
          refine .mg rfl rfl rfl rfl rfl rfl (.refl _) (.loadI on_2_A (by assumption) rfl (by omega)) ?_
          refine .mg rfl rfl rfl rfl rfl rfl (.refl _) (.idx1 sl_22_A (by assumption) rfl rfl (by omega) (by omega)) ?_
          refine .mg rfl rfl rfl rfl rfl rfl (.refl _) (.loadI on_2_A (by assumption) rfl (by omega)) ?_
          refine .mg rfl rfl rfl rfl rfl rfl (.refl _) (.move rfl) ?_
          refine .callQ0g rfl rfl rfl rfl rfl rfl rfl @Try.call49 rfl (l01Map_c) ?_
          refine .mg rfl rfl rfl rfl rfl rfl (.refl _) (.not rfl) ?_
          refine .m rfl rfl rfl rfl (.refl _) (.pickF rfl rfl) ?_
          refine .done ?_
          refine hK32 _ _ ?_
          refine .cond rfl (fun h146 => ?_) (fun h146 => ?_)
          ·
           simp only [B_iff, B_not, Bool.not_eq_true', Bool.not_eq_false'] at h146
           refine .seq (fun K34 hK34 => ?_)
           refine .region ?_
           refine .m rfl rfl rfl (.assign rfl) ?_
           refine .nil ?_
           refine hK34 _ _ ?_
           refine .ret ?_
           -- leaf e6
           refine hret _ _ ?_
           refine ⟨_, rfl, ?_⟩
           first
           | exact ⟨congrArg _ (B_true ⟨fun a ha => ha1 a (by omega), fun b hb => ha3 b (by omega)⟩), hle⟩
           | exact ⟨congrArg _ (B_false fun hh => by rw [((hh.bh b (by omega)).2 x (by omega)).2] at h146; cases h146), hle⟩
           | exact ⟨congrArg _ (B_false fun hh => h130 ((hh.bh b (by omega)).2 x (by omega)).1), hle⟩
           | exact ⟨congrArg _ (B_false fun hh => by rw [((hh.be a (by omega)).2 y (by omega)).2] at h80; cases h80), hle⟩
           | exact ⟨congrArg _ (B_false fun hh => h64 ((hh.be a (by omega)).2 y (by omega)).1), hle⟩
           | exact ⟨congrArg _ (B_false fun hh => by have := (hh.bh b (by omega)).1; omega), hle⟩
           | exact ⟨congrArg _ (B_false fun hh => by have := (hh.be a (by omega)).1; omega), hle⟩
          ·
           simp only [B_iff, B_not, Bool.not_eq_true', Bool.not_eq_false'] at h146
           refine .skip ?_
           refine hK30 _ _ ?_
           refine .region ?_
           refine .m rfl rfl rfl (.move rfl) ?_
           refine .m rfl rfl rfl (.add rfl rfl rfl (by omega) (by omega)) ?_
           refine .m rfl rfl rfl (.assign rfl) ?_
           refine .nil ?_
           refine hKL4 (x + 1) _ _ ?_ ?_ ⟨rfl, rfl, rfl, rfl, rfl, trivial⟩
           ·
            refine ⟨rfl, ?_⟩
            refine ⟨by omega, fun x' hx => ?_⟩
            by_cases hltq : x' < x
            · exact ha4 x' hltq
            · obtain rfl : x' = x := by omega
              exact ⟨by omega, h146⟩
           ·
            omega
        ·
         try simp only [sps] at h104
         refine .exit ?_
         refine hK23 _ _ ?_
         refine .region ?_
         refine .m rfl rfl rfl (.move rfl) ?_
         refine .m rfl rfl rfl (.add rfl rfl rfl (by omega) (by omega)) ?_
         refine .m rfl rfl rfl (.assign rfl) ?_
         refine .nil ?_
         refine hKL3 (b + 1) _ _ ?_ ?_ ⟨rfl, rfl, rfl, rfl, trivial⟩
         ·
          refine ⟨rfl, ?_⟩
          refine ⟨by omega, fun b' hx => ?_⟩
          by_cases hltq : b' < b
          · exact ha3 b' hltq
          · obtain rfl : b' = b := by omega
            exact ⟨h96, fun x hx => ha4 x (by omega)⟩
         ·
          omega
     ·
      try simp only [sps] at h85
      refine .exit ?_
      refine hK19 _ _ ?_
      refine .seq (fun K35 hK35 => ?_)
      refine .region ?_
      refine .m rfl rfl rfl (.assign rfl) ?_
      refine .nil ?_
      refine hK35 _ _ ?_
      refine .ret ?_
      -- leaf e7
      refine hret _ _ ?_
      refine ⟨_, rfl, ?_⟩
      first
      | exact ⟨congrArg _ (B_true ⟨fun a ha => ha1 a (by omega), fun b hb => ha3 b (by omega)⟩), hle⟩
      | exact ⟨congrArg _ (B_false fun hh => by rw [((hh.bh b (by omega)).2 x (by omega)).2] at h146; cases h146), hle⟩
      | exact ⟨congrArg _ (B_false fun hh => h130 ((hh.bh b (by omega)).2 x (by omega)).1), hle⟩
      | exact ⟨congrArg _ (B_false fun hh => by rw [((hh.be a (by omega)).2 y (by omega)).2] at h80; cases h80), hle⟩
      | exact ⟨congrArg _ (B_false fun hh => h64 ((hh.be a (by omega)).2 y (by omega)).1), hle⟩
      | exact ⟨congrArg _ (B_false fun hh => by have := (hh.bh b (by omega)).1; omega), hle⟩
      | exact ⟨congrArg _ (B_false fun hh => by have := (hh.be a (by omega)).1; omega), hle⟩
set_option maxHeartbeats 8000000 in
theorem l22Laws_c {m : Prof} {p : ProfP} {H : GHeap} (hin : m.In H p := by assumption) (hS : m.Shape := by assumption) :
    GCalls Try.prog 40 [.agg (m.cells p).toArray] H (Ret (.bool (B (m.Acts ∧ m.Mix))) H) := by
  refine GCalls.ret rfl ?_
  refine GCalls.body (N := 244) (rs := [.tmp 2]) Try.func40 rfl rfl rfl rfl (fun Qx hret hend => ?_)
  refine .forget (fr' := [(0, some _)]) ⟨rfl, trivial⟩ ?_
  have hle := GHeap.Le.refl H
  have base_hin := hin
  have hC := hS.s.1
  have hD := hS.t.1
  have q1 := hC.il
  have q2 := hD.il
  have q3 := hC.cl
  have q4 := hD.cl
  have q5 := hS.z.sl
  have q6 := hS.z.bl
  have q7 := hS.z.hl
  have q8 := hC.obj
  have q9 := hD.obj
  have q10 := hC.n40
  have q11 := hD.n40
  have q12 := hC.tl
  have q13 := hD.tl
  refine .seq (fun K1 hK1 => ?_)
  refine .region ?_
  refine .r rfl rfl rfl (.boxR rfl sz_33_VProf rfl) ?_
  rintro _ H1 ⟨g1, rfl, le1, ge1, at1⟩
  have nx_H1 := le1.1
  replace hle := hle.trans le1
  have lt_at1 := GHeap.lt_of_get at1
  replace hin := base_hin.mono hle
  have hb1 : Prof.At _ g1 0 m p := ⟨Mem.of_get at1, hin⟩
  obtain ⟨fs1, ft1, c101, c111, c121, i21, i31, i41⟩ := hb1.get
  have hm1 : MemN _ _ _ _ _ := ⟨rfl, hb1.1⟩
  have hi1 := hb1.2
  have hms1 : MemN _ _ _ _ _ := ⟨rfl, fs1.1⟩
  have his1 := fs1.2
  have hmt1 : MemN _ _ _ _ _ := ⟨rfl, ft1.1⟩
  have hit1 := ft1.2
  refine .m rfl rfl rfl (.assign rfl) ?_
  refine .nil ?_
  refine hK1 _ _ ?_
  refine .seq (fun K2 hK2 => ?_)
  refine .regionD mixed_orders_B (.q 0 (.q 1 (.q 2 (.q 3 (.or (.c 4 1 (.c 5 1 (.c 6 1 (.c 7 0 .done)))) (.c 5 1 (.c 4 1 (.c 6 1 (.c 7 0 .done))))))))) (by kernel_rfl) ?_
  refine .m rfl rfl rfl rfl (.refl _) (.fieldAddr fo_33_0_VProf rfl) ?_
  refine .m rfl rfl rfl rfl (.refl _) (.loadM ag_31_D rfl (by assumption)) ?_
  refine .m rfl rfl rfl rfl (.refl _) (.fieldAddr fo_33_1_VProf rfl) ?_
  refine .m rfl rfl rfl rfl (.refl _) (.loadM ag_31_D rfl (by assumption)) ?_
  refine .two [(1, some _)] rfl rfl rfl rfl rfl rfl rfl rfl rfl rfl rfl rfl rfl rfl rfl rfl rfl rfl ze_31_E rfl sz_31_D rfl rfl rfl rfl rfl (by rfl) (by rfl) rfl rfl rfl rfl rfl ⟨rfl, trivial⟩ rfl rfl (.refl _) ?_
  intro g3 g4 H4 fr4 le4 ge3 ge4 at3 at4 hsub4
  have nx_H4 := le4.1
  replace hle := hle.trans le4
  replace at1 := le4.2 _ _ at1
  have lt_at3 := GHeap.lt_of_get at3
  have lt_at4 := GHeap.lt_of_get at4
  replace hin := base_hin.mono hle
  clear hb1 fs1 ft1 c101 c111 c121 i21 i31 i41 hm1 hi1 hms1 his1 hmt1 hit1
  have hb1 : Prof.At _ g1 0 m p := ⟨Mem.of_get at1, hin⟩
  obtain ⟨fs1, ft1, c101, c111, c121, i21, i31, i41⟩ := hb1.get
  have hm1 : MemN _ _ _ _ _ := ⟨rfl, hb1.1⟩
  have hi1 := hb1.2
  have hms1 : MemN _ _ _ _ _ := ⟨rfl, fs1.1⟩
  have his1 := fs1.2
  have hmt1 : MemN _ _ _ _ _ := ⟨rfl, ft1.1⟩
  have hit1 := ft1.2
  have hb3 : Cat.At _ g3 0 m.s p.s := ⟨Mem.of_get at3, his1⟩
  obtain ⟨c03, c13, c23, c33, c43, i13, i23, i33, i43⟩ := hb3.get
  have hm3 : MemN _ _ _ _ _ := ⟨rfl, hb3.1⟩
  have hi3 := hb3.2
  have hb4 : Cat.At _ g4 0 m.t p.t := ⟨Mem.of_get at4, hit1⟩
  obtain ⟨c04, c14, c24, c34, c44, i14, i24, i34, i44⟩ := hb4.get
  have hm4 : MemN _ _ _ _ _ := ⟨rfl, hb4.1⟩
  have hi4 := hb4.2
  refine hK2 _ _ ?_
  refine .forget hsub4 ?_
  refine .seq (fun K3 hK3 => ?_)
  refine .seq (fun K4 hK4 => ?_)
  refine .region ?_
  refine .m rfl rfl rfl (.assign rfl) ?_
  refine .nil ?_
  refine hK4 _ _ ?_
  refine .block ?_
  refine .loopR (σ := Nat) [(1, some _), (3, some _), (4, some _)] (fun y => [(5, some (.int .i64 (y : Int)))]) (fun y H' => St [] H4 H' ∧ (y : Int) ≤ m.t.obj ∧ ∀ y', y' < y → (∀ x : Nat, (x : Int) < m.s.obj → NoMove ((m.be.getD (m.s.idn.getD x 0).toNat []).getD y' []) ∧ NoMove ((m.bh.getD (m.t.idn.getD y' 0).toNat []).getD x [])) ∧ ∀ a : Nat, a < m.s.src.length → ∀ b : Nat, b < m.s.src.length → 0 ≤ (m.s.comp.getD a []).getD b 0 → (m.be.getD ((m.s.comp.getD a []).getD b 0).toNat []).getD y' [] = thenL ((m.be.getD b []).getD y' []) ((m.be.getD a []).getD y' [])) (fun y => (m.t.obj - y : Int).toNat) (0) ⟨rfl, rfl, rfl, trivial⟩ ⟨rfl, trivial⟩ ?_ ?_
  ·
   refine ⟨.refl _ _, ?_⟩
   exact ⟨by omega, fun _ _ => by omega⟩
  ·
   rintro y HL1 ⟨lst1, hI⟩ KL1 hKL1
   refine .forget (fr' := [(5, some (.int .i64 (y : Int))), (1, some _), (3, some _), (4, some _)]) ⟨rfl, rfl, rfl, rfl, trivial⟩ ?_
   have nx_HL1 := lst1.nx
   replace hle := hle.st lst1 (fun k hk => trivial)
   replace at1 := lst1.same _ _ trivial at1
   replace at3 := lst1.same _ _ trivial at3
   replace at4 := lst1.same _ _ trivial at4
   replace hin := base_hin.mono hle
   clear hb1 fs1 ft1 c101 c111 c121 i21 i31 i41 hm1 hi1 hms1 his1 hmt1 hit1
   have hb1 : Prof.At _ g1 0 m p := ⟨Mem.of_get at1, hin⟩
   obtain ⟨fs1, ft1, c101, c111, c121, i21, i31, i41⟩ := hb1.get
   have hm1 : MemN _ _ _ _ _ := ⟨rfl, hb1.1⟩
   have hi1 := hb1.2
   have hms1 : MemN _ _ _ _ _ := ⟨rfl, fs1.1⟩
   have his1 := fs1.2
   have hmt1 : MemN _ _ _ _ _ := ⟨rfl, ft1.1⟩
   have hit1 := ft1.2
   clear hb3 c03 c13 c23 c33 c43 i13 i23 i33 i43 hm3 hi3
   have hb3 : Cat.At _ g3 0 m.s p.s := ⟨Mem.of_get at3, his1⟩
   obtain ⟨c03, c13, c23, c33, c43, i13, i23, i33, i43⟩ := hb3.get
   have hm3 : MemN _ _ _ _ _ := ⟨rfl, hb3.1⟩
   have hi3 := hb3.2
   clear hb4 c04 c14 c24 c34 c44 i14 i24 i34 i44 hm4 hi4
   have hb4 : Cat.At _ g4 0 m.t p.t := ⟨Mem.of_get at4, hit1⟩
   obtain ⟨c04, c14, c24, c34, c44, i14, i24, i34, i44⟩ := hb4.get
   have hm4 : MemN _ _ _ _ _ := ⟨rfl, hb4.1⟩
   have hi4 := hb4.2
   obtain ⟨hk1, ha1⟩ := hI
   refine .seq (fun K5 hK5 => ?_)
   refine .seq (fun K6 hK6 => ?_)
   refine .region ?_
   refine .m rfl rfl rfl (.move rfl) ?_
   refine .m rfl rfl rfl (.fieldAddr fo_31_0_B rfl) ?_
   refine .m rfl rfl rfl (.load on_2_A rfl (by assumption)) ?_
   refine .m rfl rfl rfl (.cmp rfl rfl rfl) ?_
   refine .nil ?_
   refine hK6 _ _ ?_
   refine .cond rfl (fun h25 => ?_) (fun h25 => ?_)
   ·
    simp only [sps] at h25
    have b1 := hD.idn y (by omega)
    refine .skip ?_
    refine hK5 _ _ ?_
    refine .seq (fun K7 hK7 => ?_)
    refine .block ?_
    refine .seq (fun K8 hK8 => ?_)
    refine .seq (fun K9 hK9 => ?_)
    refine .region ?_
    refine .m rfl rfl rfl (.assign rfl) ?_
    refine .nil ?_
    refine hK9 _ _ ?_
    refine .block ?_
    refine .loopR (σ := Nat) [(1, some _), (3, some _), (4, some _), (5, some _)] (fun x => [(6, some (.int .i64 (x : Int)))]) (fun x H' => HL1 = H' ∧ (x : Int) ≤ m.s.obj ∧ ∀ x', x' < x → NoMove ((m.be.getD (m.s.idn.getD x' 0).toNat []).getD y []) ∧ NoMove ((m.bh.getD (m.t.idn.getD y 0).toNat []).getD x' [])) (fun x => (m.s.obj - x : Int).toNat) (0) ⟨rfl, rfl, rfl, rfl, trivial⟩ ⟨rfl, trivial⟩ ?_ ?_
    ·
     refine ⟨rfl, ?_⟩
     exact ⟨by omega, fun _ _ => by omega⟩
    ·
     rintro x _ ⟨rfl, hI⟩ KL2 hKL2
     refine .forget (fr' := [(6, some (.int .i64 (x : Int))), (1, some _), (3, some _), (4, some _), (5, some _)]) ⟨rfl, rfl, rfl, rfl, rfl, trivial⟩ ?_
     obtain ⟨hk2, ha2⟩ := hI
     refine .seq (fun K10 hK10 => ?_)
     refine .seq (fun K11 hK11 => ?_)
     refine .region ?_
     refine .m rfl rfl rfl (.move rfl) ?_
     refine .m rfl rfl rfl (.fieldAddr fo_31_0_B rfl) ?_
     refine .m rfl rfl rfl (.load on_2_A rfl (by assumption)) ?_
     refine .m rfl rfl rfl (.cmp rfl rfl rfl) ?_
     refine .nil ?_
     refine hK11 _ _ ?_
     refine .cond rfl (fun h31 => ?_) (fun h31 => ?_)
     ·
      simp only [sps] at h31
      have r1 := hC.idn x (by omega)
      have r3 := hS.by (a := (m.s.idn.getD x 0).toNat) (y := y) (by omega) (by omega)
      rw [(hC.ids x (by omega)).1, (hC.ids x (by omega)).2, Int.toNat_natCast] at r3
      have s3 := hS.hx (b := (m.t.idn.getD y 0).toNat) (x := x) (by omega) (by omega)
      rw [(hD.ids y (by omega)).1, (hD.ids y (by omega)).2, Int.toNat_natCast] at s3
      have r2 := i31.2 (m.s.idn.getD x 0).toNat (by omega)
      have r4 := r2.2 y (by omega)
      have s2 := i41.2 (m.t.idn.getD y 0).toNat (by omega)
      have s4 := s2.2 x (by omega)
      refine .skip ?_
      refine hK10 _ _ ?_
      refine .seq (fun K12 hK12 => ?_)
      refine .block ?_
      refine .seq (fun K13 hK13 => ?_)
      refine .regionD mixed_orders_B (.q 0 (.q 1 (.q 2 (.q 3 (.q 4 (.q 5 (.q 6 (.q 7 (.q 8 (.q 9 (.q 10 (.q 11 (.c 12 0 (.q 13 (.q 14 (.q 15 (.q 16 (.q 17 (.q 18 (.q 19 (.q 20 (.q 21 (.q 22 (.q 23 (.q 24 (.q 25 (.q 26 (.c 27 0 (.q 28 (.q 29 (.done))))))))))))))))))))))))))))))) (by kernel_rfl) ?_
      refine .m rfl rfl rfl rfl (.refl _) (.fieldAddr fo_33_3_VProf rfl) ?_
      refine .m rfl rfl rfl rfl (.refl _) (.load on_26_VProf rfl (by assumption)) ?_
      refine .m rfl rfl rfl rfl (.refl _) (.fieldAddr fo_31_3_B rfl) ?_
      refine .m rfl rfl rfl rfl (.refl _) (.load on_22_B rfl (by assumption)) ?_
      refine .m rfl rfl rfl rfl (.refl _) (.move rfl) ?_
      refine .m rfl rfl rfl rfl (.refl _) (.idxN sl_22_A (by assumption) rfl rfl (by omega)) ?_
      refine .m rfl rfl rfl rfl (.refl _) (.loadI on_2_A (by assumption) rfl (by omega)) ?_
      refine .m rfl rfl rfl rfl (.refl _) (.idx1 sl_26_VZ (Intsss.sl (by assumption)) rfl rfl (by omega) (by omega)) ?_
      refine .m rfl rfl rfl rfl (.refl _) (.loadRR on_23_B (by assumption) rfl (by omega)) ?_
      refine .m rfl rfl rfl rfl (.refl _) (.move rfl) ?_
      refine .m rfl rfl rfl rfl (.refl _) (.idxN sl_23_B (Intss.sl (by assumption)) rfl rfl (by omega)) ?_
      refine .m rfl rfl rfl rfl (.refl _) (.loadR on_22_B (by assumption) rfl (by omega)) ?_
      refine .callQ0 rfl rfl rfl rfl rfl @Try.call56 rfl (l22Calm_c) ?_
      refine .m rfl rfl rfl rfl (.refl _) (.not rfl) ?_
      refine .m rfl rfl rfl rfl (.refl _) (.move rfl) ?_
      refine .split (fun h48 => ?_) (fun h48 => ?_)
      ·
       try simp only [sps] at h48
       refine .sg rfl rfl rfl rfl rfl rfl ?_
       refine .sg rfl rfl rfl rfl rfl rfl ?_
       refine .sg rfl rfl rfl rfl rfl rfl ?_
       refine .sg rfl rfl rfl rfl rfl rfl ?_
       refine .sg rfl rfl rfl rfl rfl rfl ?_
       refine .sg rfl rfl rfl rfl rfl rfl ?_
       refine .sg rfl rfl rfl rfl rfl rfl ?_
       refine .sg rfl rfl rfl rfl rfl rfl ?_
       refine .sg rfl rfl rfl rfl rfl rfl ?_
       refine .sg rfl rfl rfl rfl rfl rfl ?_
       refine .sg rfl rfl rfl rfl rfl rfl ?_
       refine .sg rfl rfl rfl rfl rfl rfl ?_
       refine .sgc rfl rfl rfl rfl rfl rfl ?_
       refine .sg rfl rfl rfl rfl rfl rfl ?_
       refine .m rfl rfl rfl rfl (.refl _) (.pickT rfl rfl) ?_
       refine .done ?_
       refine hK13 _ _ ?_
       refine .condT rfl ?_
       refine .seq (fun K14 hK14 => ?_)
       refine .region ?_
       refine .m rfl rfl rfl (.assign rfl) ?_
       refine .nil ?_
       refine hK14 _ _ ?_
       refine .ret ?_
       -- leaf e1
       refine hret _ _ ?_
       refine ⟨_, rfl, ?_⟩
       first
       | exact ⟨congrArg _ (B_true ⟨⟨fun y hy x hx => (ha1 y (by omega)).1 x (by omega), fun y hy a ha b hb => (ha1 y (by omega)).2 a (by omega) b (by omega), fun x hx a ha b hb => ha5 x (by omega) a (by omega) b (by omega)⟩, fun a ha b hb => ha8 a (by omega) b (by omega)⟩), hle⟩
       | exact ⟨congrArg _ (B_false fun hh => h63 (hh.1.idb y (by omega) x (by omega)).2), hle⟩
       | exact ⟨congrArg _ (B_false fun hh => h48 (hh.1.idb y (by omega) x (by omega)).1), hle⟩
       | exact ⟨congrArg _ (B_false fun hh => h116 (hh.1.thb y (by omega) a (by omega) b (by omega) h88)), hle⟩
       | exact ⟨congrArg _ (B_false fun hh => h175 (hh.1.thh x (by omega) a (by omega) b (by omega) h147)), hle⟩
       | exact ⟨congrArg _ (B_false fun hh => h243 (hh.2 a (by omega) b (by omega))), hle⟩
      ·
       try simp only [sps] at h48
       refine .mg rfl rfl rfl rfl rfl rfl (.refl _) (.fieldAddr fo_33_4_VProf rfl) ?_
       refine .mg rfl rfl rfl rfl rfl rfl (.refl _) (.load on_26_VProf rfl (by assumption)) ?_
       refine .mg rfl rfl rfl rfl rfl rfl (.refl _) (.fieldAddr fo_31_3_B rfl) ?_
       refine .mg rfl rfl rfl rfl rfl rfl (.refl _) (.load on_22_B rfl (by assumption)) ?_
       refine .mg rfl rfl rfl rfl rfl rfl (.refl _) (.move rfl) ?_
       refine .mg rfl rfl rfl rfl rfl rfl (.refl _) (.idxN sl_22_A (by assumption) rfl rfl (by omega)) ?_
       refine .mg rfl rfl rfl rfl rfl rfl (.refl _) (.loadI on_2_A (by assumption) rfl (by omega)) ?_
       refine .mg rfl rfl rfl rfl rfl rfl (.refl _) (.idx1 sl_26_VZ (Intsss.sl (by assumption)) rfl rfl (by omega) (by omega)) ?_
       refine .mg rfl rfl rfl rfl rfl rfl (.refl _) (.loadRR on_23_B (by assumption) rfl (by omega)) ?_
       refine .mg rfl rfl rfl rfl rfl rfl (.refl _) (.move rfl) ?_
       refine .mg rfl rfl rfl rfl rfl rfl (.refl _) (.idxN sl_23_B (Intss.sl (by assumption)) rfl rfl (by omega)) ?_
       refine .mg rfl rfl rfl rfl rfl rfl (.refl _) (.loadR on_22_B (by assumption) rfl (by omega)) ?_
       refine .callQ0g rfl rfl rfl rfl rfl rfl rfl @Try.call56 rfl (l22Calm_c) ?_
       refine .mg rfl rfl rfl rfl rfl rfl (.refl _) (.not rfl) ?_
       refine .m rfl rfl rfl rfl (.refl _) (.pickF rfl rfl) ?_
       refine .done ?_
       refine hK13 _ _ ?_
       refine .cond rfl (fun h63 => ?_) (fun h63 => ?_)
       ·
        try simp only [sps] at h63
        refine .seq (fun K15 hK15 => ?_)
        refine .region ?_
        refine .m rfl rfl rfl (.assign rfl) ?_
        refine .nil ?_
        refine hK15 _ _ ?_
        refine .ret ?_
        -- leaf e2
        refine hret _ _ ?_
        refine ⟨_, rfl, ?_⟩
        first
        | exact ⟨congrArg _ (B_true ⟨⟨fun y hy x hx => (ha1 y (by omega)).1 x (by omega), fun y hy a ha b hb => (ha1 y (by omega)).2 a (by omega) b (by omega), fun x hx a ha b hb => ha5 x (by omega) a (by omega) b (by omega)⟩, fun a ha b hb => ha8 a (by omega) b (by omega)⟩), hle⟩
        | exact ⟨congrArg _ (B_false fun hh => h63 (hh.1.idb y (by omega) x (by omega)).2), hle⟩
        | exact ⟨congrArg _ (B_false fun hh => h48 (hh.1.idb y (by omega) x (by omega)).1), hle⟩
        | exact ⟨congrArg _ (B_false fun hh => h116 (hh.1.thb y (by omega) a (by omega) b (by omega) h88)), hle⟩
        | exact ⟨congrArg _ (B_false fun hh => h175 (hh.1.thh x (by omega) a (by omega) b (by omega) h147)), hle⟩
        | exact ⟨congrArg _ (B_false fun hh => h243 (hh.2 a (by omega) b (by omega))), hle⟩
       ·
        try simp only [sps] at h63
        refine .skip ?_
        refine hK12 _ _ ?_
        refine .region ?_
        refine .m rfl rfl rfl (.move rfl) ?_
        refine .m rfl rfl rfl (.add rfl rfl rfl (by omega) (by omega)) ?_
        refine .m rfl rfl rfl (.assign rfl) ?_
        refine .nil ?_
        refine hKL2 (x + 1) _ _ ?_ ?_ ⟨rfl, rfl, rfl, rfl, rfl, trivial⟩
        ·
         refine ⟨rfl, ?_⟩
         refine ⟨by omega, fun x' hx => ?_⟩
         by_cases hltq : x' < x
         · exact ha2 x' hltq
         · obtain rfl : x' = x := by omega
           exact ⟨h48, h63⟩
        ·
         omega
     ·
      try simp only [sps] at h31
      refine .exit ?_
      refine hK8 _ _ ?_
      refine .seq (fun K16 hK16 => ?_)
      refine .region ?_
      refine .m rfl rfl rfl (.assign rfl) ?_
      refine .nil ?_
      refine hK16 _ _ ?_
      refine .block ?_
      refine .loopR (σ := Nat) [(1, some _), (3, some _), (4, some _), (5, some _)] (fun a => [(7, some (.int .i64 (a : Int)))]) (fun a H' => St [] HL1 H' ∧ (a : Int) ≤ m.s.src.length ∧ ∀ a', a' < a → ∀ b : Nat, b < m.s.src.length → 0 ≤ (m.s.comp.getD a' []).getD b 0 → (m.be.getD ((m.s.comp.getD a' []).getD b 0).toNat []).getD y [] = thenL ((m.be.getD b []).getD y []) ((m.be.getD a' []).getD y [])) (fun a => (m.s.src.length - a : Int).toNat) (0) ⟨rfl, rfl, rfl, rfl, trivial⟩ ⟨rfl, trivial⟩ ?_ ?_
      ·
       refine ⟨.refl _ _, ?_⟩
       exact ⟨by omega, fun _ _ => by omega⟩
      ·
       rintro a HL3 ⟨lst3, hI⟩ KL3 hKL3
       refine .forget (fr' := [(7, some (.int .i64 (a : Int))), (1, some _), (3, some _), (4, some _), (5, some _)]) ⟨rfl, rfl, rfl, rfl, rfl, trivial⟩ ?_
       have nx_HL3 := lst3.nx
       replace hle := hle.st lst3 (fun k hk => trivial)
       replace lst1 := lst1.st lst3 (fun k hk ho => by simp only [out, and_true] at ho ⊢ <;> omega)
       replace at1 := lst3.same _ _ trivial at1
       replace at3 := lst3.same _ _ trivial at3
       replace at4 := lst3.same _ _ trivial at4
       replace hin := base_hin.mono hle
       clear hb1 fs1 ft1 c101 c111 c121 i21 i31 i41 hm1 hi1 hms1 his1 hmt1 hit1
       have hb1 : Prof.At _ g1 0 m p := ⟨Mem.of_get at1, hin⟩
       obtain ⟨fs1, ft1, c101, c111, c121, i21, i31, i41⟩ := hb1.get
       have hm1 : MemN _ _ _ _ _ := ⟨rfl, hb1.1⟩
       have hi1 := hb1.2
       have hms1 : MemN _ _ _ _ _ := ⟨rfl, fs1.1⟩
       have his1 := fs1.2
       have hmt1 : MemN _ _ _ _ _ := ⟨rfl, ft1.1⟩
       have hit1 := ft1.2
       clear hb3 c03 c13 c23 c33 c43 i13 i23 i33 i43 hm3 hi3
       have hb3 : Cat.At _ g3 0 m.s p.s := ⟨Mem.of_get at3, his1⟩
       obtain ⟨c03, c13, c23, c33, c43, i13, i23, i33, i43⟩ := hb3.get
       have hm3 : MemN _ _ _ _ _ := ⟨rfl, hb3.1⟩
       have hi3 := hb3.2
       clear hb4 c04 c14 c24 c34 c44 i14 i24 i34 i44 hm4 hi4
       have hb4 : Cat.At _ g4 0 m.t p.t := ⟨Mem.of_get at4, hit1⟩
       obtain ⟨c04, c14, c24, c34, c44, i14, i24, i34, i44⟩ := hb4.get
       have hm4 : MemN _ _ _ _ _ := ⟨rfl, hb4.1⟩
       have hi4 := hb4.2
       obtain ⟨hk3, ha3⟩ := hI
       refine .seq (fun K17 hK17 => ?_)
       refine .seq (fun K18 hK18 => ?_)
       refine .region ?_
       refine .m rfl rfl rfl (.move rfl) ?_
       refine .m rfl rfl rfl (.fieldAddr fo_31_1_B rfl) ?_
       refine .m rfl rfl rfl (.load on_22_B rfl (by assumption)) ?_
       refine .m rfl rfl rfl (.len sl_22_A rfl) ?_
       refine .m rfl rfl rfl (.cmp rfl rfl rfl) ?_
       refine .nil ?_
       refine hK18 _ _ ?_
       refine .cond rfl (fun h68 => ?_) (fun h68 => ?_)
       ·
        simp only [sps] at h68
        have r1 := hC.row a (by omega)
        have r4 := hS.by (a := a) (y := y) (by omega) (by omega)
        have r2 := i43.2 a (by omega)
        have r3 := i31.2 a (by omega)
        have r5 := r3.2 y (by omega)
        refine .skip ?_
        refine hK17 _ _ ?_
        refine .seq (fun K19 hK19 => ?_)
        refine .block ?_
        refine .seq (fun K20 hK20 => ?_)
        refine .region ?_
        refine .m rfl rfl rfl (.assign rfl) ?_
        refine .nil ?_
        refine hK20 _ _ ?_
        refine .block ?_
        refine .loopR (σ := Nat) [(1, some _), (3, some _), (4, some _), (5, some _), (7, some _)] (fun b => [(8, some (.int .i64 (b : Int)))]) (fun b H' => St [] HL3 H' ∧ (b : Int) ≤ m.s.src.length ∧ ∀ b', b' < b → 0 ≤ (m.s.comp.getD a []).getD b' 0 → (m.be.getD ((m.s.comp.getD a []).getD b' 0).toNat []).getD y [] = thenL ((m.be.getD b' []).getD y []) ((m.be.getD a []).getD y [])) (fun b => (m.s.src.length - b : Int).toNat) (0) ⟨rfl, rfl, rfl, rfl, rfl, trivial⟩ ⟨rfl, trivial⟩ ?_ ?_
        ·
         refine ⟨.refl _ _, ?_⟩
         exact ⟨by omega, fun _ _ => by omega⟩
        ·
         rintro b HL4 ⟨lst4, hI⟩ KL4 hKL4
         refine .forget (fr' := [(8, some (.int .i64 (b : Int))), (1, some _), (3, some _), (4, some _), (5, some _), (7, some _)]) ⟨rfl, rfl, rfl, rfl, rfl, rfl, trivial⟩ ?_
         have nx_HL4 := lst4.nx
         replace hle := hle.st lst4 (fun k hk => trivial)
         replace lst1 := lst1.st lst4 (fun k hk ho => by simp only [out, and_true] at ho ⊢ <;> omega)
         replace lst3 := lst3.st lst4 (fun k hk ho => by simp only [out, and_true] at ho ⊢ <;> omega)
         replace at1 := lst4.same _ _ trivial at1
         replace at3 := lst4.same _ _ trivial at3
         replace at4 := lst4.same _ _ trivial at4
         replace hin := base_hin.mono hle
         clear hb1 fs1 ft1 c101 c111 c121 i21 i31 i41 hm1 hi1 hms1 his1 hmt1 hit1
         have hb1 : Prof.At _ g1 0 m p := ⟨Mem.of_get at1, hin⟩
         obtain ⟨fs1, ft1, c101, c111, c121, i21, i31, i41⟩ := hb1.get
         have hm1 : MemN _ _ _ _ _ := ⟨rfl, hb1.1⟩
         have hi1 := hb1.2
         have hms1 : MemN _ _ _ _ _ := ⟨rfl, fs1.1⟩
         have his1 := fs1.2
         have hmt1 : MemN _ _ _ _ _ := ⟨rfl, ft1.1⟩
         have hit1 := ft1.2
         clear hb3 c03 c13 c23 c33 c43 i13 i23 i33 i43 hm3 hi3
         have hb3 : Cat.At _ g3 0 m.s p.s := ⟨Mem.of_get at3, his1⟩
         obtain ⟨c03, c13, c23, c33, c43, i13, i23, i33, i43⟩ := hb3.get
         have hm3 : MemN _ _ _ _ _ := ⟨rfl, hb3.1⟩
         have hi3 := hb3.2
         clear hb4 c04 c14 c24 c34 c44 i14 i24 i34 i44 hm4 hi4
         have hb4 : Cat.At _ g4 0 m.t p.t := ⟨Mem.of_get at4, hit1⟩
         obtain ⟨c04, c14, c24, c34, c44, i14, i24, i34, i44⟩ := hb4.get
         have hm4 : MemN _ _ _ _ _ := ⟨rfl, hb4.1⟩
         have hi4 := hb4.2
         clear r2 r3 r5
         have r2 := i43.2 a (by omega)
         have r3 := i31.2 a (by omega)
         have r5 := r3.2 y (by omega)
         obtain ⟨hk4, ha4⟩ := hI
         refine .seq (fun K21 hK21 => ?_)
         refine .seq (fun K22 hK22 => ?_)
         refine .region ?_
         refine .m rfl rfl rfl (.move rfl) ?_
         refine .m rfl rfl rfl (.fieldAddr fo_31_1_B rfl) ?_
         refine .m rfl rfl rfl (.load on_22_B rfl (by assumption)) ?_
         refine .m rfl rfl rfl (.len sl_22_A rfl) ?_
         refine .m rfl rfl rfl (.cmp rfl rfl rfl) ?_
         refine .nil ?_
         refine hK22 _ _ ?_
         refine .cond rfl (fun h75 => ?_) (fun h75 => ?_)
         ·
          simp only [sps] at h75
          have t4 := hS.by (a := b) (y := y) (by omega) (by omega)
          have t3 := i31.2 b (by omega)
          have t5 := t3.2 y (by omega)
          refine .skip ?_
          refine hK21 _ _ ?_
          refine .seq (fun K23 hK23 => ?_)
          refine .block ?_
          refine .seq (fun K24 hK24 => ?_)
          refine .region ?_
          refine .m rfl rfl rfl (.fieldAddr fo_31_4_B rfl) ?_
          refine .m rfl rfl rfl (.load on_23_B rfl (by assumption)) ?_
          refine .m rfl rfl rfl (.move rfl) ?_
          refine .m rfl rfl rfl (.idxN sl_23_B (Intss.sl (by assumption)) rfl rfl (by omega)) ?_
          refine .m rfl rfl rfl (.loadR on_22_B (by assumption) rfl (by omega)) ?_
          refine .m rfl rfl rfl (.move rfl) ?_
          refine .m rfl rfl rfl (.idxN sl_22_A (by assumption) rfl rfl (by omega)) ?_
          refine .m rfl rfl rfl (.loadI on_2_A (by assumption) rfl (by omega)) ?_
          refine .m rfl rfl rfl (.assign rfl) ?_
          refine .nil ?_
          refine hK24 _ _ ?_
          refine .seq (fun K25 hK25 => ?_)
          refine .regionD mixed_orders_B (.q 0 (.q 1 (.q 2 (.q 3 (.q 4 (.q 5 (.q 6 (.q 7 (.q 8 (.q 9 (.q 10 (.q 11 (.q 12 (.q 13 (.q 14 (.q 15 (.q 16 (.q 17 (.q 18 (.q 19 (.q 20 (.q 21 (.q 22 (.q 23 (.q 24 (.q 25 (.q 26 (.c 27 1 (.c 28 0 (.q 29 (.q 30 (.done)))))))))))))))))))))))))))))))) (by kernel_rfl) ?_
          refine .m rfl rfl rfl rfl (.refl _) (.move rfl) ?_
          refine .m rfl rfl rfl rfl (.refl _) (.cmp rfl rfl rfl) ?_
          refine .m rfl rfl rfl rfl (.refl _) (.move rfl) ?_
          refine .split (fun h88 => ?_) (fun h88 => ?_)
          ·
           simp only [sps] at h88
           have u1 := hC.comp (a := a) (b := b) (by omega) (by omega) h88
           have u4 := hS.by (a := ((m.s.comp.getD a []).getD b 0).toNat) (y := y) (by omega) (by omega)
           have u6 : ∀ i, i < ((m.be.getD b []).getD y []).length → 0 ≤ ((m.be.getD b []).getD y []).getD i 0 ∧ ((m.be.getD b []).getD y []).getD i 0 < ((m.be.getD a []).getD y []).length := fun i hi => by
             have := t4.2.2.2.2.1 i hi
             rw [← u1.1, ← r4.2.2.2.1] at this
             exact this
           have u3 := i31.2 ((m.s.comp.getD a []).getD b 0).toNat (by omega)
           have u5 := u3.2 y (by omega)
           refine .mg rfl rfl rfl rfl rfl rfl (.refl _) (.fieldAddr fo_33_3_VProf rfl) ?_
           refine .mg rfl rfl rfl rfl rfl rfl (.refl _) (.load on_26_VProf rfl (by assumption)) ?_
           refine .mg rfl rfl rfl rfl rfl rfl (.refl _) (.move rfl) ?_
           refine .mg rfl rfl rfl rfl rfl rfl (.refl _) (.idx1 sl_26_VZ (Intsss.sl (by assumption)) rfl rfl (by omega) (by omega)) ?_
           refine .mg rfl rfl rfl rfl rfl rfl (.refl _) (.loadRR on_23_B (by assumption) rfl (by omega)) ?_
           refine .mg rfl rfl rfl rfl rfl rfl (.refl _) (.move rfl) ?_
           refine .mg rfl rfl rfl rfl rfl rfl (.refl _) (.idxN sl_23_B (Intss.sl (by assumption)) rfl rfl (by omega)) ?_
           refine .mg rfl rfl rfl rfl rfl rfl (.refl _) (.loadR on_22_B (by assumption) rfl (by omega)) ?_
           refine .mg rfl rfl rfl rfl rfl rfl (.refl _) (.fieldAddr fo_33_3_VProf rfl) ?_
           refine .mg rfl rfl rfl rfl rfl rfl (.refl _) (.load on_26_VProf rfl (by assumption)) ?_
           refine .mg rfl rfl rfl rfl rfl rfl (.refl _) (.move rfl) ?_
           refine .mg rfl rfl rfl rfl rfl rfl (.refl _) (.idxN sl_26_VZ (Intsss.sl (by assumption)) rfl rfl (by omega)) ?_
           refine .mg rfl rfl rfl rfl rfl rfl (.refl _) (.loadRR on_23_B (by assumption) rfl (by omega)) ?_
           refine .mg rfl rfl rfl rfl rfl rfl (.refl _) (.move rfl) ?_
           refine .mg rfl rfl rfl rfl rfl rfl (.refl _) (.idxN sl_23_B (Intss.sl (by assumption)) rfl rfl (by omega)) ?_
           refine .mg rfl rfl rfl rfl rfl rfl (.refl _) (.loadR on_22_B (by assumption) rfl (by omega)) ?_
           refine .mg rfl rfl rfl rfl rfl rfl (.refl _) (.fieldAddr fo_33_3_VProf rfl) ?_
           refine .mg rfl rfl rfl rfl rfl rfl (.refl _) (.load on_26_VProf rfl (by assumption)) ?_
           refine .mg rfl rfl rfl rfl rfl rfl (.refl _) (.move rfl) ?_
           refine .mg rfl rfl rfl rfl rfl rfl (.refl _) (.idxN sl_26_VZ (Intsss.sl (by assumption)) rfl rfl (by omega)) ?_
           refine .mg rfl rfl rfl rfl rfl rfl (.refl _) (.loadRR on_23_B (by assumption) rfl (by omega)) ?_
           refine .mg rfl rfl rfl rfl rfl rfl (.refl _) (.move rfl) ?_
           refine .mg rfl rfl rfl rfl rfl rfl (.refl _) (.idxN sl_23_B (Intss.sl (by assumption)) rfl rfl (by omega)) ?_
           refine .mg rfl rfl rfl rfl rfl rfl (.refl _) (.loadR on_22_B (by assumption) rfl (by omega)) ?_
           refine .call1g rfl rfl rfl rfl rfl rfl rfl @Try.call51 rfl (l01Then_c) ?_
           rintro _ H113 ⟨le113, g113, rfl, at113, ge113⟩
           have hbl := le113
           refine ⟨hbl, ?_⟩
           have nx_H113 := le113.1
           replace hle := hle.trans le113
           replace lst1 := lst1.le le113
           replace lst3 := lst3.le le113
           replace lst4 := lst4.le le113
           replace at1 := le113.2 _ _ at1
           replace at3 := le113.2 _ _ at3
           replace at4 := le113.2 _ _ at4
           have lt_at113 := GHeap.lt_of_get at113
           replace hin := base_hin.mono hle
           clear hb1 fs1 ft1 c101 c111 c121 i21 i31 i41 hm1 hi1 hms1 his1 hmt1 hit1
           have hb1 : Prof.At _ g1 0 m p := ⟨Mem.of_get at1, hin⟩
           obtain ⟨fs1, ft1, c101, c111, c121, i21, i31, i41⟩ := hb1.get
           have hm1 : MemN _ _ _ _ _ := ⟨rfl, hb1.1⟩
           have hi1 := hb1.2
           have hms1 : MemN _ _ _ _ _ := ⟨rfl, fs1.1⟩
           have his1 := fs1.2
           have hmt1 : MemN _ _ _ _ _ := ⟨rfl, ft1.1⟩
           have hit1 := ft1.2
           clear hb3 c03 c13 c23 c33 c43 i13 i23 i33 i43 hm3 hi3
           have hb3 : Cat.At _ g3 0 m.s p.s := ⟨Mem.of_get at3, his1⟩
           obtain ⟨c03, c13, c23, c33, c43, i13, i23, i33, i43⟩ := hb3.get
           have hm3 : MemN _ _ _ _ _ := ⟨rfl, hb3.1⟩
           have hi3 := hb3.2
           clear hb4 c04 c14 c24 c34 c44 i14 i24 i34 i44 hm4 hi4
           have hb4 : Cat.At _ g4 0 m.t p.t := ⟨Mem.of_get at4, hit1⟩
           obtain ⟨c04, c14, c24, c34, c44, i14, i24, i34, i44⟩ := hb4.get
           have hm4 : MemN _ _ _ _ _ := ⟨rfl, hb4.1⟩
           have hi4 := hb4.2
           clear r2 r3 r5
           have r2 := i43.2 a (by omega)
           have r3 := i31.2 a (by omega)
           have r5 := r3.2 y (by omega)
           clear t3 t5
           have t3 := i31.2 b (by omega)
           have t5 := t3.2 y (by omega)
           clear u3 u5
           have u3 := i31.2 ((m.s.comp.getD a []).getD b 0).toNat (by omega)
           have u5 := u3.2 y (by omega)
           have i113 := Ints.of_get at113
           refine .callQ0g rfl rfl rfl rfl rfl rfl rfl @Try.call50 rfl (l01Same_c (hy := by rw [length_thenL]; omega)) ?_
           refine .mg rfl rfl rfl rfl rfl rfl (.refl _) (.not rfl) ?_
           refine .m rfl rfl rfl rfl (.refl _) (.pickT rfl rfl) ?_
           refine .done ?_
           refine hK25 _ _ ?_
           refine .cond rfl (fun h116 => ?_) (fun h116 => ?_)
           ·
            try simp only [sps] at h116
            refine .seq (fun K26 hK26 => ?_)
            refine .region ?_
            refine .m rfl rfl rfl (.assign rfl) ?_
            refine .nil ?_
            refine hK26 _ _ ?_
            refine .ret ?_
            -- leaf e3
            refine hret _ _ ?_
            refine ⟨_, rfl, ?_⟩
            first
            | exact ⟨congrArg _ (B_true ⟨⟨fun y hy x hx => (ha1 y (by omega)).1 x (by omega), fun y hy a ha b hb => (ha1 y (by omega)).2 a (by omega) b (by omega), fun x hx a ha b hb => ha5 x (by omega) a (by omega) b (by omega)⟩, fun a ha b hb => ha8 a (by omega) b (by omega)⟩), hle⟩
            | exact ⟨congrArg _ (B_false fun hh => h63 (hh.1.idb y (by omega) x (by omega)).2), hle⟩
            | exact ⟨congrArg _ (B_false fun hh => h48 (hh.1.idb y (by omega) x (by omega)).1), hle⟩
            | exact ⟨congrArg _ (B_false fun hh => h116 (hh.1.thb y (by omega) a (by omega) b (by omega) h88)), hle⟩
            | exact ⟨congrArg _ (B_false fun hh => h175 (hh.1.thh x (by omega) a (by omega) b (by omega) h147)), hle⟩
            | exact ⟨congrArg _ (B_false fun hh => h243 (hh.2 a (by omega) b (by omega))), hle⟩
           ·
            try simp only [sps] at h116
            refine .skip ?_
            refine hK23 _ _ ?_
            refine .region ?_
            refine .m rfl rfl rfl (.move rfl) ?_
            refine .m rfl rfl rfl (.add rfl rfl rfl (by omega) (by omega)) ?_
            refine .m rfl rfl rfl (.assign rfl) ?_
            refine .nil ?_
            refine hKL4 (b + 1) _ _ ?_ ?_ ⟨rfl, rfl, rfl, rfl, rfl, rfl, trivial⟩
            ·
             refine ⟨lst4, ?_⟩
             refine ⟨by omega, fun b' hx => ?_⟩
             by_cases hltq : b' < b
             · exact ha4 b' hltq
             · obtain rfl : b' = b := by omega
               first | exact fun _ => h116 | exact fun hp => absurd hp (by omega)
            ·
             omega
          ·
           try simp only [sps] at h88
           refine .sg rfl rfl rfl rfl rfl rfl ?_
           refine .sg rfl rfl rfl rfl rfl rfl ?_
           refine .sg rfl rfl rfl rfl rfl rfl ?_
           refine .sg rfl rfl rfl rfl rfl rfl ?_
           refine .sg rfl rfl rfl rfl rfl rfl ?_
           refine .sg rfl rfl rfl rfl rfl rfl ?_
           refine .sg rfl rfl rfl rfl rfl rfl ?_
           refine .sg rfl rfl rfl rfl rfl rfl ?_
           refine .sg rfl rfl rfl rfl rfl rfl ?_
           refine .sg rfl rfl rfl rfl rfl rfl ?_
           refine .sg rfl rfl rfl rfl rfl rfl ?_
           refine .sg rfl rfl rfl rfl rfl rfl ?_
           refine .sg rfl rfl rfl rfl rfl rfl ?_
           refine .sg rfl rfl rfl rfl rfl rfl ?_
           refine .sg rfl rfl rfl rfl rfl rfl ?_
           refine .sg rfl rfl rfl rfl rfl rfl ?_
           refine .sg rfl rfl rfl rfl rfl rfl ?_
           refine .sg rfl rfl rfl rfl rfl rfl ?_
           refine .sg rfl rfl rfl rfl rfl rfl ?_
           refine .sg rfl rfl rfl rfl rfl rfl ?_
           refine .sg rfl rfl rfl rfl rfl rfl ?_
           refine .sg rfl rfl rfl rfl rfl rfl ?_
           refine .sg rfl rfl rfl rfl rfl rfl ?_
           refine .sg rfl rfl rfl rfl rfl rfl ?_
           refine .sgc rfl rfl rfl rfl rfl rfl ?_
           refine .sgc rfl rfl rfl rfl rfl rfl ?_
           refine .sg rfl rfl rfl rfl rfl rfl ?_
           refine .m rfl rfl rfl rfl (.refl _) (.pickF rfl rfl) ?_
           refine .done ?_
           refine hK25 _ _ ?_
           refine .condF rfl ?_
           refine .skip ?_
           refine hK23 _ _ ?_
           refine .region ?_
           refine .m rfl rfl rfl (.move rfl) ?_
           refine .m rfl rfl rfl (.add rfl rfl rfl (by omega) (by omega)) ?_
           refine .m rfl rfl rfl (.assign rfl) ?_
           refine .nil ?_
           refine hKL4 (b + 1) _ _ ?_ ?_ ⟨rfl, rfl, rfl, rfl, rfl, rfl, trivial⟩
           ·
            refine ⟨lst4, ?_⟩
            refine ⟨by omega, fun b' hx => ?_⟩
            by_cases hltq : b' < b
            · exact ha4 b' hltq
            · obtain rfl : b' = b := by omega
              first | exact fun _ => h116 | exact fun hp => absurd hp (by omega)
           ·
            omega
         ·
          try simp only [sps] at h75
          refine .exit ?_
          refine hK19 _ _ ?_
          refine .region ?_
          refine .m rfl rfl rfl (.move rfl) ?_
          refine .m rfl rfl rfl (.add rfl rfl rfl (by omega) (by omega)) ?_
          refine .m rfl rfl rfl (.assign rfl) ?_
          refine .nil ?_
          refine hKL3 (a + 1) _ _ ?_ ?_ ⟨rfl, rfl, rfl, rfl, rfl, trivial⟩
          ·
           refine ⟨lst3, ?_⟩
           refine ⟨by omega, fun a' hx => ?_⟩
           by_cases hltq : a' < a
           · exact ha3 a' hltq
           · obtain rfl : a' = a := by omega
             exact fun b hb => ha4 b (by omega)
          ·
           omega
       ·
        try simp only [sps] at h68
        refine .exit ?_
        refine hK7 _ _ ?_
        refine .region ?_
        refine .m rfl rfl rfl (.move rfl) ?_
        refine .m rfl rfl rfl (.add rfl rfl rfl (by omega) (by omega)) ?_
        refine .m rfl rfl rfl (.assign rfl) ?_
        refine .nil ?_
        refine hKL1 (y + 1) _ _ ?_ ?_ ⟨rfl, rfl, rfl, rfl, trivial⟩
        ·
         refine ⟨lst1, ?_⟩
         refine ⟨by omega, fun y' hx => ?_⟩
         by_cases hltq : y' < y
         · exact ha1 y' hltq
         · obtain rfl : y' = y := by omega
           exact ⟨fun x hx => ha2 x (by omega), fun a ha => ha3 a (by omega)⟩
        ·
         omega
   ·
    try simp only [sps] at h25
    refine .exit ?_
    refine hK3 _ _ ?_
    refine .seq (fun K27 hK27 => ?_)
    refine .seq (fun K28 hK28 => ?_)
    refine .region ?_
    refine .m rfl rfl rfl (.assign rfl) ?_
    refine .nil ?_
    refine hK28 _ _ ?_
    refine .block ?_
    refine .loopR (σ := Nat) [(1, some _), (3, some _), (4, some _)] (fun x => [(10, some (.int .i64 (x : Int)))]) (fun x H' => St [] HL1 H' ∧ (x : Int) ≤ m.s.obj ∧ ∀ x', x' < x → ∀ a : Nat, a < m.t.src.length → ∀ b : Nat, b < m.t.src.length → 0 ≤ (m.t.comp.getD a []).getD b 0 → (m.bh.getD ((m.t.comp.getD a []).getD b 0).toNat []).getD x' [] = thenL ((m.bh.getD a []).getD x' []) ((m.bh.getD b []).getD x' [])) (fun x => (m.s.obj - x : Int).toNat) (0) ⟨rfl, rfl, rfl, trivial⟩ ⟨rfl, trivial⟩ ?_ ?_
    ·
     refine ⟨.refl _ _, ?_⟩
     exact ⟨by omega, fun _ _ => by omega⟩
    ·
     rintro x HL5 ⟨lst5, hI⟩ KL5 hKL5
     refine .forget (fr' := [(10, some (.int .i64 (x : Int))), (1, some _), (3, some _), (4, some _)]) ⟨rfl, rfl, rfl, rfl, trivial⟩ ?_
     have nx_HL5 := lst5.nx
     replace hle := hle.st lst5 (fun k hk => trivial)
     replace lst1 := lst1.st lst5 (fun k hk ho => by simp only [out, and_true] at ho ⊢ <;> omega)
     replace at1 := lst5.same _ _ trivial at1
     replace at3 := lst5.same _ _ trivial at3
     replace at4 := lst5.same _ _ trivial at4
     replace hin := base_hin.mono hle
     clear hb1 fs1 ft1 c101 c111 c121 i21 i31 i41 hm1 hi1 hms1 his1 hmt1 hit1
     have hb1 : Prof.At _ g1 0 m p := ⟨Mem.of_get at1, hin⟩
     obtain ⟨fs1, ft1, c101, c111, c121, i21, i31, i41⟩ := hb1.get
     have hm1 : MemN _ _ _ _ _ := ⟨rfl, hb1.1⟩
     have hi1 := hb1.2
     have hms1 : MemN _ _ _ _ _ := ⟨rfl, fs1.1⟩
     have his1 := fs1.2
     have hmt1 : MemN _ _ _ _ _ := ⟨rfl, ft1.1⟩
     have hit1 := ft1.2
     clear hb3 c03 c13 c23 c33 c43 i13 i23 i33 i43 hm3 hi3
     have hb3 : Cat.At _ g3 0 m.s p.s := ⟨Mem.of_get at3, his1⟩
     obtain ⟨c03, c13, c23, c33, c43, i13, i23, i33, i43⟩ := hb3.get
     have hm3 : MemN _ _ _ _ _ := ⟨rfl, hb3.1⟩
     have hi3 := hb3.2
     clear hb4 c04 c14 c24 c34 c44 i14 i24 i34 i44 hm4 hi4
     have hb4 : Cat.At _ g4 0 m.t p.t := ⟨Mem.of_get at4, hit1⟩
     obtain ⟨c04, c14, c24, c34, c44, i14, i24, i34, i44⟩ := hb4.get
     have hm4 : MemN _ _ _ _ _ := ⟨rfl, hb4.1⟩
     have hi4 := hb4.2
     obtain ⟨hk5, ha5⟩ := hI
     refine .seq (fun K29 hK29 => ?_)
     refine .seq (fun K30 hK30 => ?_)
     refine .region ?_
     refine .m rfl rfl rfl (.move rfl) ?_
     refine .m rfl rfl rfl (.fieldAddr fo_31_0_B rfl) ?_
     refine .m rfl rfl rfl (.load on_2_A rfl (by assumption)) ?_
     refine .m rfl rfl rfl (.cmp rfl rfl rfl) ?_
     refine .nil ?_
     refine hK30 _ _ ?_
     refine .cond rfl (fun h120 => ?_) (fun h120 => ?_)
     ·
      simp only [sps] at h120
      refine .skip ?_
      refine hK29 _ _ ?_
      refine .seq (fun K31 hK31 => ?_)
      refine .block ?_
      refine .seq (fun K32 hK32 => ?_)
      refine .region ?_
      refine .m rfl rfl rfl (.assign rfl) ?_
      refine .nil ?_
      refine hK32 _ _ ?_
      refine .block ?_
      refine .loopR (σ := Nat) [(1, some _), (3, some _), (4, some _), (10, some _)] (fun a => [(11, some (.int .i64 (a : Int)))]) (fun a H' => St [] HL5 H' ∧ (a : Int) ≤ m.t.src.length ∧ ∀ a', a' < a → ∀ b : Nat, b < m.t.src.length → 0 ≤ (m.t.comp.getD a' []).getD b 0 → (m.bh.getD ((m.t.comp.getD a' []).getD b 0).toNat []).getD x [] = thenL ((m.bh.getD a' []).getD x []) ((m.bh.getD b []).getD x [])) (fun a => (m.t.src.length - a : Int).toNat) (0) ⟨rfl, rfl, rfl, rfl, trivial⟩ ⟨rfl, trivial⟩ ?_ ?_
      ·
       refine ⟨.refl _ _, ?_⟩
       exact ⟨by omega, fun _ _ => by omega⟩
      ·
       rintro a HL6 ⟨lst6, hI⟩ KL6 hKL6
       refine .forget (fr' := [(11, some (.int .i64 (a : Int))), (1, some _), (3, some _), (4, some _), (10, some _)]) ⟨rfl, rfl, rfl, rfl, rfl, trivial⟩ ?_
       have nx_HL6 := lst6.nx
       replace hle := hle.st lst6 (fun k hk => trivial)
       replace lst1 := lst1.st lst6 (fun k hk ho => by simp only [out, and_true] at ho ⊢ <;> omega)
       replace lst5 := lst5.st lst6 (fun k hk ho => by simp only [out, and_true] at ho ⊢ <;> omega)
       replace at1 := lst6.same _ _ trivial at1
       replace at3 := lst6.same _ _ trivial at3
       replace at4 := lst6.same _ _ trivial at4
       replace hin := base_hin.mono hle
       clear hb1 fs1 ft1 c101 c111 c121 i21 i31 i41 hm1 hi1 hms1 his1 hmt1 hit1
       have hb1 : Prof.At _ g1 0 m p := ⟨Mem.of_get at1, hin⟩
       obtain ⟨fs1, ft1, c101, c111, c121, i21, i31, i41⟩ := hb1.get
       have hm1 : MemN _ _ _ _ _ := ⟨rfl, hb1.1⟩
       have hi1 := hb1.2
       have hms1 : MemN _ _ _ _ _ := ⟨rfl, fs1.1⟩
       have his1 := fs1.2
       have hmt1 : MemN _ _ _ _ _ := ⟨rfl, ft1.1⟩
       have hit1 := ft1.2
       clear hb3 c03 c13 c23 c33 c43 i13 i23 i33 i43 hm3 hi3
       have hb3 : Cat.At _ g3 0 m.s p.s := ⟨Mem.of_get at3, his1⟩
       obtain ⟨c03, c13, c23, c33, c43, i13, i23, i33, i43⟩ := hb3.get
       have hm3 : MemN _ _ _ _ _ := ⟨rfl, hb3.1⟩
       have hi3 := hb3.2
       clear hb4 c04 c14 c24 c34 c44 i14 i24 i34 i44 hm4 hi4
       have hb4 : Cat.At _ g4 0 m.t p.t := ⟨Mem.of_get at4, hit1⟩
       obtain ⟨c04, c14, c24, c34, c44, i14, i24, i34, i44⟩ := hb4.get
       have hm4 : MemN _ _ _ _ _ := ⟨rfl, hb4.1⟩
       have hi4 := hb4.2
       obtain ⟨hk6, ha6⟩ := hI
       refine .seq (fun K33 hK33 => ?_)
       refine .seq (fun K34 hK34 => ?_)
       refine .region ?_
       refine .m rfl rfl rfl (.move rfl) ?_
       refine .m rfl rfl rfl (.fieldAddr fo_31_1_B rfl) ?_
       refine .m rfl rfl rfl (.load on_22_B rfl (by assumption)) ?_
       refine .m rfl rfl rfl (.len sl_22_A rfl) ?_
       refine .m rfl rfl rfl (.cmp rfl rfl rfl) ?_
       refine .nil ?_
       refine hK34 _ _ ?_
       refine .cond rfl (fun h127 => ?_) (fun h127 => ?_)
       ·
        simp only [sps] at h127
        have r1 := hD.row a (by omega)
        have r4 := hS.hx (b := a) (x := x) (by omega) (by omega)
        have r2 := i44.2 a (by omega)
        have r3 := i41.2 a (by omega)
        have r5 := r3.2 x (by omega)
        refine .skip ?_
        refine hK33 _ _ ?_
        refine .seq (fun K35 hK35 => ?_)
        refine .block ?_
        refine .seq (fun K36 hK36 => ?_)
        refine .region ?_
        refine .m rfl rfl rfl (.assign rfl) ?_
        refine .nil ?_
        refine hK36 _ _ ?_
        refine .block ?_
        refine .loopR (σ := Nat) [(1, some _), (3, some _), (4, some _), (10, some _), (11, some _)] (fun b => [(12, some (.int .i64 (b : Int)))]) (fun b H' => St [] HL6 H' ∧ (b : Int) ≤ m.t.src.length ∧ ∀ b', b' < b → 0 ≤ (m.t.comp.getD a []).getD b' 0 → (m.bh.getD ((m.t.comp.getD a []).getD b' 0).toNat []).getD x [] = thenL ((m.bh.getD a []).getD x []) ((m.bh.getD b' []).getD x [])) (fun b => (m.t.src.length - b : Int).toNat) (0) ⟨rfl, rfl, rfl, rfl, rfl, trivial⟩ ⟨rfl, trivial⟩ ?_ ?_
        ·
         refine ⟨.refl _ _, ?_⟩
         exact ⟨by omega, fun _ _ => by omega⟩
        ·
         rintro b HL7 ⟨lst7, hI⟩ KL7 hKL7
         refine .forget (fr' := [(12, some (.int .i64 (b : Int))), (1, some _), (3, some _), (4, some _), (10, some _), (11, some _)]) ⟨rfl, rfl, rfl, rfl, rfl, rfl, trivial⟩ ?_
         have nx_HL7 := lst7.nx
         replace hle := hle.st lst7 (fun k hk => trivial)
         replace lst1 := lst1.st lst7 (fun k hk ho => by simp only [out, and_true] at ho ⊢ <;> omega)
         replace lst5 := lst5.st lst7 (fun k hk ho => by simp only [out, and_true] at ho ⊢ <;> omega)
         replace lst6 := lst6.st lst7 (fun k hk ho => by simp only [out, and_true] at ho ⊢ <;> omega)
         replace at1 := lst7.same _ _ trivial at1
         replace at3 := lst7.same _ _ trivial at3
         replace at4 := lst7.same _ _ trivial at4
         replace hin := base_hin.mono hle
         clear hb1 fs1 ft1 c101 c111 c121 i21 i31 i41 hm1 hi1 hms1 his1 hmt1 hit1
         have hb1 : Prof.At _ g1 0 m p := ⟨Mem.of_get at1, hin⟩
         obtain ⟨fs1, ft1, c101, c111, c121, i21, i31, i41⟩ := hb1.get
         have hm1 : MemN _ _ _ _ _ := ⟨rfl, hb1.1⟩
         have hi1 := hb1.2
         have hms1 : MemN _ _ _ _ _ := ⟨rfl, fs1.1⟩
         have his1 := fs1.2
         have hmt1 : MemN _ _ _ _ _ := ⟨rfl, ft1.1⟩
         have hit1 := ft1.2
         clear hb3 c03 c13 c23 c33 c43 i13 i23 i33 i43 hm3 hi3
         have hb3 : Cat.At _ g3 0 m.s p.s := ⟨Mem.of_get at3, his1⟩
         obtain ⟨c03, c13, c23, c33, c43, i13, i23, i33, i43⟩ := hb3.get
         have hm3 : MemN _ _ _ _ _ := ⟨rfl, hb3.1⟩
         have hi3 := hb3.2
         clear hb4 c04 c14 c24 c34 c44 i14 i24 i34 i44 hm4 hi4
         have hb4 : Cat.At _ g4 0 m.t p.t := ⟨Mem.of_get at4, hit1⟩
         obtain ⟨c04, c14, c24, c34, c44, i14, i24, i34, i44⟩ := hb4.get
         have hm4 : MemN _ _ _ _ _ := ⟨rfl, hb4.1⟩
         have hi4 := hb4.2
         clear r2 r3 r5
         have r2 := i44.2 a (by omega)
         have r3 := i41.2 a (by omega)
         have r5 := r3.2 x (by omega)
         obtain ⟨hk7, ha7⟩ := hI
         refine .seq (fun K37 hK37 => ?_)
         refine .seq (fun K38 hK38 => ?_)
         refine .region ?_
         refine .m rfl rfl rfl (.move rfl) ?_
         refine .m rfl rfl rfl (.fieldAddr fo_31_1_B rfl) ?_
         refine .m rfl rfl rfl (.load on_22_B rfl (by assumption)) ?_
         refine .m rfl rfl rfl (.len sl_22_A rfl) ?_
         refine .m rfl rfl rfl (.cmp rfl rfl rfl) ?_
         refine .nil ?_
         refine hK38 _ _ ?_
         refine .cond rfl (fun h134 => ?_) (fun h134 => ?_)
         ·
          simp only [sps] at h134
          have t4 := hS.hx (b := b) (x := x) (by omega) (by omega)
          have t3 := i41.2 b (by omega)
          have t5 := t3.2 x (by omega)
          refine .skip ?_
          refine hK37 _ _ ?_
          refine .seq (fun K39 hK39 => ?_)
          refine .block ?_
          refine .seq (fun K40 hK40 => ?_)
          refine .region ?_
          refine .m rfl rfl rfl (.fieldAddr fo_31_4_B rfl) ?_
          refine .m rfl rfl rfl (.load on_23_B rfl (by assumption)) ?_
          refine .m rfl rfl rfl (.move rfl) ?_
          refine .m rfl rfl rfl (.idxN sl_23_B (Intss.sl (by assumption)) rfl rfl (by omega)) ?_
          refine .m rfl rfl rfl (.loadR on_22_B (by assumption) rfl (by omega)) ?_
          refine .m rfl rfl rfl (.move rfl) ?_
          refine .m rfl rfl rfl (.idxN sl_22_A (by assumption) rfl rfl (by omega)) ?_
          refine .m rfl rfl rfl (.loadI on_2_A (by assumption) rfl (by omega)) ?_
          refine .m rfl rfl rfl (.assign rfl) ?_
          refine .nil ?_
          refine hK40 _ _ ?_
          refine .seq (fun K41 hK41 => ?_)
          refine .regionD mixed_orders_B (.q 0 (.q 1 (.q 2 (.q 3 (.q 4 (.q 5 (.q 6 (.q 7 (.q 8 (.q 9 (.q 10 (.q 11 (.q 12 (.q 13 (.q 14 (.q 15 (.q 16 (.q 17 (.q 18 (.q 19 (.q 20 (.q 21 (.q 22 (.q 23 (.q 24 (.q 25 (.q 26 (.c 27 1 (.c 28 0 (.q 29 (.q 30 (.done)))))))))))))))))))))))))))))))) (by kernel_rfl) ?_
          refine .m rfl rfl rfl rfl (.refl _) (.move rfl) ?_
          refine .m rfl rfl rfl rfl (.refl _) (.cmp rfl rfl rfl) ?_
          refine .m rfl rfl rfl rfl (.refl _) (.move rfl) ?_
          refine .split (fun h147 => ?_) (fun h147 => ?_)
          ·
           simp only [sps] at h147
           have u1 := hD.comp (a := a) (b := b) (by omega) (by omega) h147
           have u4 := hS.hx (b := ((m.t.comp.getD a []).getD b 0).toNat) (x := x) (by omega) (by omega)
           have u6 : ∀ i, i < ((m.bh.getD a []).getD x []).length → 0 ≤ ((m.bh.getD a []).getD x []).getD i 0 ∧ ((m.bh.getD a []).getD x []).getD i 0 < ((m.bh.getD b []).getD x []).length := fun i hi => by
             have := r4.2.2.2.2.2.1 i hi
             rw [u1.1, ← t4.2.2.2.2.1] at this
             exact this
           have u3 := i41.2 ((m.t.comp.getD a []).getD b 0).toNat (by omega)
           have u5 := u3.2 x (by omega)
           refine .mg rfl rfl rfl rfl rfl rfl (.refl _) (.fieldAddr fo_33_4_VProf rfl) ?_
           refine .mg rfl rfl rfl rfl rfl rfl (.refl _) (.load on_26_VProf rfl (by assumption)) ?_
           refine .mg rfl rfl rfl rfl rfl rfl (.refl _) (.move rfl) ?_
           refine .mg rfl rfl rfl rfl rfl rfl (.refl _) (.idx1 sl_26_VZ (Intsss.sl (by assumption)) rfl rfl (by omega) (by omega)) ?_
           refine .mg rfl rfl rfl rfl rfl rfl (.refl _) (.loadRR on_23_B (by assumption) rfl (by omega)) ?_
           refine .mg rfl rfl rfl rfl rfl rfl (.refl _) (.move rfl) ?_
           refine .mg rfl rfl rfl rfl rfl rfl (.refl _) (.idxN sl_23_B (Intss.sl (by assumption)) rfl rfl (by omega)) ?_
           refine .mg rfl rfl rfl rfl rfl rfl (.refl _) (.loadR on_22_B (by assumption) rfl (by omega)) ?_
           refine .mg rfl rfl rfl rfl rfl rfl (.refl _) (.fieldAddr fo_33_4_VProf rfl) ?_
           refine .mg rfl rfl rfl rfl rfl rfl (.refl _) (.load on_26_VProf rfl (by assumption)) ?_
           refine .mg rfl rfl rfl rfl rfl rfl (.refl _) (.move rfl) ?_
           refine .mg rfl rfl rfl rfl rfl rfl (.refl _) (.idxN sl_26_VZ (Intsss.sl (by assumption)) rfl rfl (by omega)) ?_
           refine .mg rfl rfl rfl rfl rfl rfl (.refl _) (.loadRR on_23_B (by assumption) rfl (by omega)) ?_
           refine .mg rfl rfl rfl rfl rfl rfl (.refl _) (.move rfl) ?_
           refine .mg rfl rfl rfl rfl rfl rfl (.refl _) (.idxN sl_23_B (Intss.sl (by assumption)) rfl rfl (by omega)) ?_
           refine .mg rfl rfl rfl rfl rfl rfl (.refl _) (.loadR on_22_B (by assumption) rfl (by omega)) ?_
           refine .mg rfl rfl rfl rfl rfl rfl (.refl _) (.fieldAddr fo_33_4_VProf rfl) ?_
           refine .mg rfl rfl rfl rfl rfl rfl (.refl _) (.load on_26_VProf rfl (by assumption)) ?_
           refine .mg rfl rfl rfl rfl rfl rfl (.refl _) (.move rfl) ?_
           refine .mg rfl rfl rfl rfl rfl rfl (.refl _) (.idxN sl_26_VZ (Intsss.sl (by assumption)) rfl rfl (by omega)) ?_
           refine .mg rfl rfl rfl rfl rfl rfl (.refl _) (.loadRR on_23_B (by assumption) rfl (by omega)) ?_
           refine .mg rfl rfl rfl rfl rfl rfl (.refl _) (.move rfl) ?_
           refine .mg rfl rfl rfl rfl rfl rfl (.refl _) (.idxN sl_23_B (Intss.sl (by assumption)) rfl rfl (by omega)) ?_
           refine .mg rfl rfl rfl rfl rfl rfl (.refl _) (.loadR on_22_B (by assumption) rfl (by omega)) ?_
           refine .call1g rfl rfl rfl rfl rfl rfl rfl @Try.call51 rfl (l01Then_c) ?_
           rintro _ H172 ⟨le172, g172, rfl, at172, ge172⟩
           have hbl := le172
           refine ⟨hbl, ?_⟩
           have nx_H172 := le172.1
           replace hle := hle.trans le172
           replace lst1 := lst1.le le172
           replace lst5 := lst5.le le172
           replace lst6 := lst6.le le172
           replace lst7 := lst7.le le172
           replace at1 := le172.2 _ _ at1
           replace at3 := le172.2 _ _ at3
           replace at4 := le172.2 _ _ at4
           have lt_at172 := GHeap.lt_of_get at172
           replace hin := base_hin.mono hle
           clear hb1 fs1 ft1 c101 c111 c121 i21 i31 i41 hm1 hi1 hms1 his1 hmt1 hit1
           have hb1 : Prof.At _ g1 0 m p := ⟨Mem.of_get at1, hin⟩
           obtain ⟨fs1, ft1, c101, c111, c121, i21, i31, i41⟩ := hb1.get
           have hm1 : MemN _ _ _ _ _ := ⟨rfl, hb1.1⟩
           have hi1 := hb1.2
           have hms1 : MemN _ _ _ _ _ := ⟨rfl, fs1.1⟩
           have his1 := fs1.2
           have hmt1 : MemN _ _ _ _ _ := ⟨rfl, ft1.1⟩
           have hit1 := ft1.2
           clear hb3 c03 c13 c23 c33 c43 i13 i23 i33 i43 hm3 hi3
           have hb3 : Cat.At _ g3 0 m.s p.s := ⟨Mem.of_get at3, his1⟩
           obtain ⟨c03, c13, c23, c33, c43, i13, i23, i33, i43⟩ := hb3.get
           have hm3 : MemN _ _ _ _ _ := ⟨rfl, hb3.1⟩
           have hi3 := hb3.2
           clear hb4 c04 c14 c24 c34 c44 i14 i24 i34 i44 hm4 hi4
           have hb4 : Cat.At _ g4 0 m.t p.t := ⟨Mem.of_get at4, hit1⟩
           obtain ⟨c04, c14, c24, c34, c44, i14, i24, i34, i44⟩ := hb4.get
           have hm4 : MemN _ _ _ _ _ := ⟨rfl, hb4.1⟩
           have hi4 := hb4.2
           clear r2 r3 r5
           have r2 := i44.2 a (by omega)
           have r3 := i41.2 a (by omega)
           have r5 := r3.2 x (by omega)
           clear t3 t5
           have t3 := i41.2 b (by omega)
           have t5 := t3.2 x (by omega)
           clear u3 u5
           have u3 := i41.2 ((m.t.comp.getD a []).getD b 0).toNat (by omega)
           have u5 := u3.2 x (by omega)
           have i172 := Ints.of_get at172
           refine .callQ0g rfl rfl rfl rfl rfl rfl rfl @Try.call50 rfl (l01Same_c (hy := by rw [length_thenL]; omega)) ?_
           refine .mg rfl rfl rfl rfl rfl rfl (.refl _) (.not rfl) ?_
           refine .m rfl rfl rfl rfl (.refl _) (.pickT rfl rfl) ?_
           refine .done ?_
           refine hK41 _ _ ?_
           refine .cond rfl (fun h175 => ?_) (fun h175 => ?_)
           ·
            try simp only [sps] at h175
            refine .seq (fun K42 hK42 => ?_)
            refine .region ?_
            refine .m rfl rfl rfl (.assign rfl) ?_
            refine .nil ?_
            refine hK42 _ _ ?_
            refine .ret ?_
            -- leaf e4
            refine hret _ _ ?_
            refine ⟨_, rfl, ?_⟩
            first
            | exact ⟨congrArg _ (B_true ⟨⟨fun y hy x hx => (ha1 y (by omega)).1 x (by omega), fun y hy a ha b hb => (ha1 y (by omega)).2 a (by omega) b (by omega), fun x hx a ha b hb => ha5 x (by omega) a (by omega) b (by omega)⟩, fun a ha b hb => ha8 a (by omega) b (by omega)⟩), hle⟩
            | exact ⟨congrArg _ (B_false fun hh => h63 (hh.1.idb y (by omega) x (by omega)).2), hle⟩
            | exact ⟨congrArg _ (B_false fun hh => h48 (hh.1.idb y (by omega) x (by omega)).1), hle⟩
            | exact ⟨congrArg _ (B_false fun hh => h116 (hh.1.thb y (by omega) a (by omega) b (by omega) h88)), hle⟩
            | exact ⟨congrArg _ (B_false fun hh => h175 (hh.1.thh x (by omega) a (by omega) b (by omega) h147)), hle⟩
            | exact ⟨congrArg _ (B_false fun hh => h243 (hh.2 a (by omega) b (by omega))), hle⟩
           ·
            try simp only [sps] at h175
            refine .skip ?_
            refine hK39 _ _ ?_
            refine .region ?_
            refine .m rfl rfl rfl (.move rfl) ?_
            refine .m rfl rfl rfl (.add rfl rfl rfl (by omega) (by omega)) ?_
            refine .m rfl rfl rfl (.assign rfl) ?_
            refine .nil ?_
            refine hKL7 (b + 1) _ _ ?_ ?_ ⟨rfl, rfl, rfl, rfl, rfl, rfl, trivial⟩
            ·
             refine ⟨lst7, ?_⟩
             refine ⟨by omega, fun b' hx => ?_⟩
             by_cases hltq : b' < b
             · exact ha7 b' hltq
             · obtain rfl : b' = b := by omega
               first | exact fun _ => h175 | exact fun hp => absurd hp (by omega)
            ·
             omega
          ·
           try simp only [sps] at h147
           refine .sg rfl rfl rfl rfl rfl rfl ?_
           refine .sg rfl rfl rfl rfl rfl rfl ?_
           refine .sg rfl rfl rfl rfl rfl rfl ?_
           refine .sg rfl rfl rfl rfl rfl rfl ?_
           refine .sg rfl rfl rfl rfl rfl rfl ?_
           refine .sg rfl rfl rfl rfl rfl rfl ?_
           refine .sg rfl rfl rfl rfl rfl rfl ?_
           refine .sg rfl rfl rfl rfl rfl rfl ?_
           refine .sg rfl rfl rfl rfl rfl rfl ?_
           refine .sg rfl rfl rfl rfl rfl rfl ?_
           refine .sg rfl rfl rfl rfl rfl rfl ?_
           refine .sg rfl rfl rfl rfl rfl rfl ?_
           refine .sg rfl rfl rfl rfl rfl rfl ?_
           refine .sg rfl rfl rfl rfl rfl rfl ?_
           refine .sg rfl rfl rfl rfl rfl rfl ?_
           refine .sg rfl rfl rfl rfl rfl rfl ?_
           refine .sg rfl rfl rfl rfl rfl rfl ?_
           refine .sg rfl rfl rfl rfl rfl rfl ?_
           refine .sg rfl rfl rfl rfl rfl rfl ?_
           refine .sg rfl rfl rfl rfl rfl rfl ?_
           refine .sg rfl rfl rfl rfl rfl rfl ?_
           refine .sg rfl rfl rfl rfl rfl rfl ?_
           refine .sg rfl rfl rfl rfl rfl rfl ?_
           refine .sg rfl rfl rfl rfl rfl rfl ?_
           refine .sgc rfl rfl rfl rfl rfl rfl ?_
           refine .sgc rfl rfl rfl rfl rfl rfl ?_
           refine .sg rfl rfl rfl rfl rfl rfl ?_
           refine .m rfl rfl rfl rfl (.refl _) (.pickF rfl rfl) ?_
           refine .done ?_
           refine hK41 _ _ ?_
           refine .condF rfl ?_
           refine .skip ?_
           refine hK39 _ _ ?_
           refine .region ?_
           refine .m rfl rfl rfl (.move rfl) ?_
           refine .m rfl rfl rfl (.add rfl rfl rfl (by omega) (by omega)) ?_
           refine .m rfl rfl rfl (.assign rfl) ?_
           refine .nil ?_
           refine hKL7 (b + 1) _ _ ?_ ?_ ⟨rfl, rfl, rfl, rfl, rfl, rfl, trivial⟩
           ·
            refine ⟨lst7, ?_⟩
            refine ⟨by omega, fun b' hx => ?_⟩
            by_cases hltq : b' < b
            · exact ha7 b' hltq
            · obtain rfl : b' = b := by omega
              first | exact fun _ => h175 | exact fun hp => absurd hp (by omega)
           ·
            omega
         ·
          try simp only [sps] at h134
          refine .exit ?_
          refine hK35 _ _ ?_
          refine .region ?_
          refine .m rfl rfl rfl (.move rfl) ?_
          refine .m rfl rfl rfl (.add rfl rfl rfl (by omega) (by omega)) ?_
          refine .m rfl rfl rfl (.assign rfl) ?_
          refine .nil ?_
          refine hKL6 (a + 1) _ _ ?_ ?_ ⟨rfl, rfl, rfl, rfl, rfl, trivial⟩
          ·
           refine ⟨lst6, ?_⟩
           refine ⟨by omega, fun a' hx => ?_⟩
           by_cases hltq : a' < a
           · exact ha6 a' hltq
           · obtain rfl : a' = a := by omega
             exact fun b hb => ha7 b (by omega)
          ·
           omega
       ·
        try simp only [sps] at h127
        refine .exit ?_
        refine hK31 _ _ ?_
        refine .region ?_
        refine .m rfl rfl rfl (.move rfl) ?_
        refine .m rfl rfl rfl (.add rfl rfl rfl (by omega) (by omega)) ?_
        refine .m rfl rfl rfl (.assign rfl) ?_
        refine .nil ?_
        refine hKL5 (x + 1) _ _ ?_ ?_ ⟨rfl, rfl, rfl, rfl, trivial⟩
        ·
         refine ⟨lst5, ?_⟩
         refine ⟨by omega, fun x' hx => ?_⟩
         by_cases hltq : x' < x
         · exact ha5 x' hltq
         · obtain rfl : x' = x := by omega
           exact fun a ha => ha6 a (by omega)
        ·
         omega
     ·
      try simp only [sps] at h120
      refine .exit ?_
      refine hK27 _ _ ?_
      refine .seq (fun K43 hK43 => ?_)
      refine .seq (fun K44 hK44 => ?_)
      refine .region ?_
      refine .m rfl rfl rfl (.assign rfl) ?_
      refine .nil ?_
      refine hK44 _ _ ?_
      refine .block ?_
      refine .loopR (σ := Nat) [(1, some _), (3, some _), (4, some _)] (fun a => [(14, some (.int .i64 (a : Int)))]) (fun a H' => St [] HL5 H' ∧ (a : Int) ≤ m.s.src.length ∧ ∀ a', a' < a → ∀ b, b < m.t.src.length → m.MixAt a' b) (fun a => (m.s.src.length - a : Int).toNat) (0) ⟨rfl, rfl, rfl, trivial⟩ ⟨rfl, trivial⟩ ?_ ?_
      ·
       refine ⟨.refl _ _, ?_⟩
       exact ⟨by omega, fun _ _ => by omega⟩
      ·
       rintro a HL8 ⟨lst8, hI⟩ KL8 hKL8
       refine .forget (fr' := [(14, some (.int .i64 (a : Int))), (1, some _), (3, some _), (4, some _)]) ⟨rfl, rfl, rfl, rfl, trivial⟩ ?_
       have nx_HL8 := lst8.nx
       replace hle := hle.st lst8 (fun k hk => trivial)
       replace lst1 := lst1.st lst8 (fun k hk ho => by simp only [out, and_true] at ho ⊢ <;> omega)
       replace at1 := lst8.same _ _ trivial at1
       replace at3 := lst8.same _ _ trivial at3
       replace at4 := lst8.same _ _ trivial at4
       replace hin := base_hin.mono hle
       clear hb1 fs1 ft1 c101 c111 c121 i21 i31 i41 hm1 hi1 hms1 his1 hmt1 hit1
       have hb1 : Prof.At _ g1 0 m p := ⟨Mem.of_get at1, hin⟩
       obtain ⟨fs1, ft1, c101, c111, c121, i21, i31, i41⟩ := hb1.get
       have hm1 : MemN _ _ _ _ _ := ⟨rfl, hb1.1⟩
       have hi1 := hb1.2
       have hms1 : MemN _ _ _ _ _ := ⟨rfl, fs1.1⟩
       have his1 := fs1.2
       have hmt1 : MemN _ _ _ _ _ := ⟨rfl, ft1.1⟩
       have hit1 := ft1.2
       clear hb3 c03 c13 c23 c33 c43 i13 i23 i33 i43 hm3 hi3
       have hb3 : Cat.At _ g3 0 m.s p.s := ⟨Mem.of_get at3, his1⟩
       obtain ⟨c03, c13, c23, c33, c43, i13, i23, i33, i43⟩ := hb3.get
       have hm3 : MemN _ _ _ _ _ := ⟨rfl, hb3.1⟩
       have hi3 := hb3.2
       clear hb4 c04 c14 c24 c34 c44 i14 i24 i34 i44 hm4 hi4
       have hb4 : Cat.At _ g4 0 m.t p.t := ⟨Mem.of_get at4, hit1⟩
       obtain ⟨c04, c14, c24, c34, c44, i14, i24, i34, i44⟩ := hb4.get
       have hm4 : MemN _ _ _ _ _ := ⟨rfl, hb4.1⟩
       have hi4 := hb4.2
       obtain ⟨hk8, ha8⟩ := hI
       refine .seq (fun K45 hK45 => ?_)
       refine .seq (fun K46 hK46 => ?_)
       refine .region ?_
       refine .m rfl rfl rfl (.move rfl) ?_
       refine .m rfl rfl rfl (.fieldAddr fo_31_1_B rfl) ?_
       refine .m rfl rfl rfl (.load on_22_B rfl (by assumption)) ?_
       refine .m rfl rfl rfl (.len sl_22_A rfl) ?_
       refine .m rfl rfl rfl (.cmp rfl rfl rfl) ?_
       refine .nil ?_
       refine hK46 _ _ ?_
       refine .cond rfl (fun h180 => ?_) (fun h180 => ?_)
       ·
        simp only [sps] at h180
        have r2 := hS.z.b hS.s (a := a) (by omega)
        have r1 := i31.2 a (by omega)
        refine .skip ?_
        refine hK45 _ _ ?_
        refine .seq (fun K47 hK47 => ?_)
        refine .block ?_
        refine .seq (fun K48 hK48 => ?_)
        refine .region ?_
        refine .m rfl rfl rfl (.assign rfl) ?_
        refine .nil ?_
        refine hK48 _ _ ?_
        refine .block ?_
        refine .loopR (σ := Nat) [(1, some _), (3, some _), (4, some _), (14, some _)] (fun b => [(15, some (.int .i64 (b : Int)))]) (fun b H' => St [] HL8 H' ∧ (b : Int) ≤ m.t.src.length ∧ ∀ b', b' < b → m.MixAt a b') (fun b => (m.t.src.length - b : Int).toNat) (0) ⟨rfl, rfl, rfl, rfl, trivial⟩ ⟨rfl, trivial⟩ ?_ ?_
        ·
         refine ⟨.refl _ _, ?_⟩
         exact ⟨by omega, fun _ _ => by omega⟩
        ·
         rintro b HL9 ⟨lst9, hI⟩ KL9 hKL9
         refine .forget (fr' := [(15, some (.int .i64 (b : Int))), (1, some _), (3, some _), (4, some _), (14, some _)]) ⟨rfl, rfl, rfl, rfl, rfl, trivial⟩ ?_
         have nx_HL9 := lst9.nx
         replace hle := hle.st lst9 (fun k hk => trivial)
         replace lst1 := lst1.st lst9 (fun k hk ho => by simp only [out, and_true] at ho ⊢ <;> omega)
         replace lst8 := lst8.st lst9 (fun k hk ho => by simp only [out, and_true] at ho ⊢ <;> omega)
         replace at1 := lst9.same _ _ trivial at1
         replace at3 := lst9.same _ _ trivial at3
         replace at4 := lst9.same _ _ trivial at4
         replace hin := base_hin.mono hle
         clear hb1 fs1 ft1 c101 c111 c121 i21 i31 i41 hm1 hi1 hms1 his1 hmt1 hit1
         have hb1 : Prof.At _ g1 0 m p := ⟨Mem.of_get at1, hin⟩
         obtain ⟨fs1, ft1, c101, c111, c121, i21, i31, i41⟩ := hb1.get
         have hm1 : MemN _ _ _ _ _ := ⟨rfl, hb1.1⟩
         have hi1 := hb1.2
         have hms1 : MemN _ _ _ _ _ := ⟨rfl, fs1.1⟩
         have his1 := fs1.2
         have hmt1 : MemN _ _ _ _ _ := ⟨rfl, ft1.1⟩
         have hit1 := ft1.2
         clear hb3 c03 c13 c23 c33 c43 i13 i23 i33 i43 hm3 hi3
         have hb3 : Cat.At _ g3 0 m.s p.s := ⟨Mem.of_get at3, his1⟩
         obtain ⟨c03, c13, c23, c33, c43, i13, i23, i33, i43⟩ := hb3.get
         have hm3 : MemN _ _ _ _ _ := ⟨rfl, hb3.1⟩
         have hi3 := hb3.2
         clear hb4 c04 c14 c24 c34 c44 i14 i24 i34 i44 hm4 hi4
         have hb4 : Cat.At _ g4 0 m.t p.t := ⟨Mem.of_get at4, hit1⟩
         obtain ⟨c04, c14, c24, c34, c44, i14, i24, i34, i44⟩ := hb4.get
         have hm4 : MemN _ _ _ _ _ := ⟨rfl, hb4.1⟩
         have hi4 := hb4.2
         clear r1
         have r1 := i31.2 a (by omega)
         obtain ⟨hk9, ha9⟩ := hI
         refine .seq (fun K49 hK49 => ?_)
         refine .seq (fun K50 hK50 => ?_)
         refine .region ?_
         refine .m rfl rfl rfl (.move rfl) ?_
         refine .m rfl rfl rfl (.fieldAddr fo_31_1_B rfl) ?_
         refine .m rfl rfl rfl (.load on_22_B rfl (by assumption)) ?_
         refine .m rfl rfl rfl (.len sl_22_A rfl) ?_
         refine .m rfl rfl rfl (.cmp rfl rfl rfl) ?_
         refine .nil ?_
         refine hK50 _ _ ?_
         refine .cond rfl (fun h187 => ?_) (fun h187 => ?_)
         ·
          simp only [sps] at h187
          have t2 := hS.z.h hS.t (b := b) (by omega)
          have v1 := hS.by (a := a) (y := (m.t.src.getD b 0).toNat) (by omega) (by omega)
          have v2 := hS.by (a := a) (y := (m.t.tgt.getD b 0).toNat) (by omega) (by omega)
          have v3 := hS.hx (b := b) (x := (m.s.src.getD a 0).toNat) (by omega) (by omega)
          have v4 := hS.hx (b := b) (x := (m.s.tgt.getD a 0).toNat) (by omega) (by omega)
          have u1 : ∀ i, i < ((m.be.getD a []).getD (m.t.src.getD b 0).toNat []).length → 0 ≤ ((m.be.getD a []).getD (m.t.src.getD b 0).toNat []).getD i 0 ∧ ((m.be.getD a []).getD (m.t.src.getD b 0).toNat []).getD i 0 < ((m.bh.getD b []).getD (m.s.src.getD a 0).toNat []).length := fun i hi => by
            have := v1.2.2.2.2.1 i hi
            rw [← v3.2.2.2.2.1] at this
            exact this
          have u2 : ∀ i, i < ((m.bh.getD b []).getD (m.s.tgt.getD a 0).toNat []).length → 0 ≤ ((m.bh.getD b []).getD (m.s.tgt.getD a 0).toNat []).getD i 0 ∧ ((m.bh.getD b []).getD (m.s.tgt.getD a 0).toNat []).getD i 0 < ((m.be.getD a []).getD (m.t.tgt.getD b 0).toNat []).length := fun i hi => by
            have := v4.2.2.2.2.2.1 i hi
            rw [← v2.2.2.2.1] at this
            exact this
          have t1 := i41.2 b (by omega)
          have w1 := r1.2 (m.t.src.getD b 0).toNat (by omega)
          have w2 := r1.2 (m.t.tgt.getD b 0).toNat (by omega)
          have w3 := t1.2 (m.s.src.getD a 0).toNat (by omega)
          have w4 := t1.2 (m.s.tgt.getD a 0).toNat (by omega)
          refine .skip ?_
          refine hK49 _ _ ?_
          refine .seq (fun K51 hK51 => ?_)
          refine .block ?_
          refine .seq (fun K52 hK52 => ?_)
          refine .regionD mixed_orders_B (.q 0 (.q 1 (.q 2 (.q 3 (.q 4 (.q 5 (.q 6 (.q 7 (.q 8 (.q 9 (.q 10 (.q 11 (.q 12 (.q 13 (.q 14 (.q 15 (.q 16 (.q 17 (.q 18 (.q 19 (.q 20 (.q 21 (.q 22 (.q 23 (.c 24 0 (.q 25 (.done))))))))))))))))))))))))))) (by kernel_rfl) ?_
          refine .m rfl rfl rfl rfl (.refl _) (.fieldAddr fo_33_3_VProf rfl) ?_
          refine .m rfl rfl rfl rfl (.refl _) (.load on_26_VProf rfl (by assumption)) ?_
          refine .m rfl rfl rfl rfl (.refl _) (.move rfl) ?_
          refine .m rfl rfl rfl rfl (.refl _) (.idxN sl_26_VZ (Intsss.sl (by assumption)) rfl rfl (by omega)) ?_
          refine .m rfl rfl rfl rfl (.refl _) (.loadRR on_23_B (by assumption) rfl (by omega)) ?_
          refine .m rfl rfl rfl rfl (.refl _) (.fieldAddr fo_31_1_B rfl) ?_
          refine .m rfl rfl rfl rfl (.refl _) (.load on_22_B rfl (by assumption)) ?_
          refine .m rfl rfl rfl rfl (.refl _) (.move rfl) ?_
          refine .m rfl rfl rfl rfl (.refl _) (.idxN sl_22_A (by assumption) rfl rfl (by omega)) ?_
          refine .m rfl rfl rfl rfl (.refl _) (.loadI on_2_A (by assumption) rfl (by omega)) ?_
          refine .m rfl rfl rfl rfl (.refl _) (.idx1 sl_23_B (Intss.sl (by assumption)) rfl rfl (by omega) (by omega)) ?_
          refine .m rfl rfl rfl rfl (.refl _) (.loadR on_22_B (by assumption) rfl (by omega)) ?_
          refine .m rfl rfl rfl rfl (.refl _) (.fieldAddr fo_33_4_VProf rfl) ?_
          refine .m rfl rfl rfl rfl (.refl _) (.load on_26_VProf rfl (by assumption)) ?_
          refine .m rfl rfl rfl rfl (.refl _) (.move rfl) ?_
          refine .m rfl rfl rfl rfl (.refl _) (.idxN sl_26_VZ (Intsss.sl (by assumption)) rfl rfl (by omega)) ?_
          refine .m rfl rfl rfl rfl (.refl _) (.loadRR on_23_B (by assumption) rfl (by omega)) ?_
          refine .m rfl rfl rfl rfl (.refl _) (.fieldAddr fo_31_1_B rfl) ?_
          refine .m rfl rfl rfl rfl (.refl _) (.load on_22_B rfl (by assumption)) ?_
          refine .m rfl rfl rfl rfl (.refl _) (.move rfl) ?_
          refine .m rfl rfl rfl rfl (.refl _) (.idxN sl_22_A (by assumption) rfl rfl (by omega)) ?_
          refine .m rfl rfl rfl rfl (.refl _) (.loadI on_2_A (by assumption) rfl (by omega)) ?_
          refine .m rfl rfl rfl rfl (.refl _) (.idx1 sl_23_B (Intss.sl (by assumption)) rfl rfl (by omega) (by omega)) ?_
          refine .m rfl rfl rfl rfl (.refl _) (.loadR on_22_B (by assumption) rfl (by omega)) ?_
          refine .call0 rfl rfl rfl rfl rfl @Try.call51 rfl (l01Then_c) ?_
          rintro _ H214 ⟨le214, g214, rfl, at214, ge214⟩
          have nx_H214 := le214.1
          replace hle := hle.trans le214
          replace lst1 := lst1.le le214
          replace lst8 := lst8.le le214
          replace lst9 := lst9.le le214
          replace at1 := le214.2 _ _ at1
          replace at3 := le214.2 _ _ at3
          replace at4 := le214.2 _ _ at4
          have lt_at214 := GHeap.lt_of_get at214
          replace hin := base_hin.mono hle
          clear hb1 fs1 ft1 c101 c111 c121 i21 i31 i41 hm1 hi1 hms1 his1 hmt1 hit1
          have hb1 : Prof.At _ g1 0 m p := ⟨Mem.of_get at1, hin⟩
          obtain ⟨fs1, ft1, c101, c111, c121, i21, i31, i41⟩ := hb1.get
          have hm1 : MemN _ _ _ _ _ := ⟨rfl, hb1.1⟩
          have hi1 := hb1.2
          have hms1 : MemN _ _ _ _ _ := ⟨rfl, fs1.1⟩
          have his1 := fs1.2
          have hmt1 : MemN _ _ _ _ _ := ⟨rfl, ft1.1⟩
          have hit1 := ft1.2
          clear hb3 c03 c13 c23 c33 c43 i13 i23 i33 i43 hm3 hi3
          have hb3 : Cat.At _ g3 0 m.s p.s := ⟨Mem.of_get at3, his1⟩
          obtain ⟨c03, c13, c23, c33, c43, i13, i23, i33, i43⟩ := hb3.get
          have hm3 : MemN _ _ _ _ _ := ⟨rfl, hb3.1⟩
          have hi3 := hb3.2
          clear hb4 c04 c14 c24 c34 c44 i14 i24 i34 i44 hm4 hi4
          have hb4 : Cat.At _ g4 0 m.t p.t := ⟨Mem.of_get at4, hit1⟩
          obtain ⟨c04, c14, c24, c34, c44, i14, i24, i34, i44⟩ := hb4.get
          have hm4 : MemN _ _ _ _ _ := ⟨rfl, hb4.1⟩
          have hi4 := hb4.2
          clear r1
          have r1 := i31.2 a (by omega)
          clear t1 w1 w2 w3 w4
          have t1 := i41.2 b (by omega)
          have w1 := r1.2 (m.t.src.getD b 0).toNat (by omega)
          have w2 := r1.2 (m.t.tgt.getD b 0).toNat (by omega)
          have w3 := t1.2 (m.s.src.getD a 0).toNat (by omega)
          have w4 := t1.2 (m.s.tgt.getD a 0).toNat (by omega)
          have i214 := Ints.of_get at214
          refine .m rfl rfl rfl rfl (.refl _) (.assign rfl) ?_
          refine .done ?_
          refine hK52 _ _ ?_
          refine .seq (fun K53 hK53 => ?_)
          refine .regionD mixed_orders_B (.q 0 (.q 1 (.q 2 (.q 3 (.q 4 (.q 5 (.q 6 (.q 7 (.q 8 (.q 9 (.q 10 (.q 11 (.q 12 (.q 13 (.q 14 (.q 15 (.q 16 (.q 17 (.q 18 (.q 19 (.q 20 (.q 21 (.q 22 (.q 23 (.c 24 0 (.q 25 (.done))))))))))))))))))))))))))) (by kernel_rfl) ?_
          refine .m rfl rfl rfl rfl (.refl _) (.fieldAddr fo_33_4_VProf rfl) ?_
          refine .m rfl rfl rfl rfl (.refl _) (.load on_26_VProf rfl (by assumption)) ?_
          refine .m rfl rfl rfl rfl (.refl _) (.move rfl) ?_
          refine .m rfl rfl rfl rfl (.refl _) (.idxN sl_26_VZ (Intsss.sl (by assumption)) rfl rfl (by omega)) ?_
          refine .m rfl rfl rfl rfl (.refl _) (.loadRR on_23_B (by assumption) rfl (by omega)) ?_
          refine .m rfl rfl rfl rfl (.refl _) (.fieldAddr fo_31_2_B rfl) ?_
          refine .m rfl rfl rfl rfl (.refl _) (.load on_22_B rfl (by assumption)) ?_
          refine .m rfl rfl rfl rfl (.refl _) (.move rfl) ?_
          refine .m rfl rfl rfl rfl (.refl _) (.idxN sl_22_A (by assumption) rfl rfl (by omega)) ?_
          refine .m rfl rfl rfl rfl (.refl _) (.loadI on_2_A (by assumption) rfl (by omega)) ?_
          refine .m rfl rfl rfl rfl (.refl _) (.idx1 sl_23_B (Intss.sl (by assumption)) rfl rfl (by omega) (by omega)) ?_
          refine .m rfl rfl rfl rfl (.refl _) (.loadR on_22_B (by assumption) rfl (by omega)) ?_
          refine .m rfl rfl rfl rfl (.refl _) (.fieldAddr fo_33_3_VProf rfl) ?_
          refine .m rfl rfl rfl rfl (.refl _) (.load on_26_VProf rfl (by assumption)) ?_
          refine .m rfl rfl rfl rfl (.refl _) (.move rfl) ?_
          refine .m rfl rfl rfl rfl (.refl _) (.idxN sl_26_VZ (Intsss.sl (by assumption)) rfl rfl (by omega)) ?_
          refine .m rfl rfl rfl rfl (.refl _) (.loadRR on_23_B (by assumption) rfl (by omega)) ?_
          refine .m rfl rfl rfl rfl (.refl _) (.fieldAddr fo_31_2_B rfl) ?_
          refine .m rfl rfl rfl rfl (.refl _) (.load on_22_B rfl (by assumption)) ?_
          refine .m rfl rfl rfl rfl (.refl _) (.move rfl) ?_
          refine .m rfl rfl rfl rfl (.refl _) (.idxN sl_22_A (by assumption) rfl rfl (by omega)) ?_
          refine .m rfl rfl rfl rfl (.refl _) (.loadI on_2_A (by assumption) rfl (by omega)) ?_
          refine .m rfl rfl rfl rfl (.refl _) (.idx1 sl_23_B (Intss.sl (by assumption)) rfl rfl (by omega) (by omega)) ?_
          refine .m rfl rfl rfl rfl (.refl _) (.loadR on_22_B (by assumption) rfl (by omega)) ?_
          refine .call0 rfl rfl rfl rfl rfl @Try.call51 rfl (l01Then_c) ?_
          rintro _ H239 ⟨le239, g239, rfl, at239, ge239⟩
          have nx_H239 := le239.1
          replace hle := hle.trans le239
          replace lst1 := lst1.le le239
          replace lst8 := lst8.le le239
          replace lst9 := lst9.le le239
          replace at1 := le239.2 _ _ at1
          replace at3 := le239.2 _ _ at3
          replace at4 := le239.2 _ _ at4
          replace at214 := le239.2 _ _ at214
          have lt_at239 := GHeap.lt_of_get at239
          replace hin := base_hin.mono hle
          clear hb1 fs1 ft1 c101 c111 c121 i21 i31 i41 hm1 hi1 hms1 his1 hmt1 hit1
          have hb1 : Prof.At _ g1 0 m p := ⟨Mem.of_get at1, hin⟩
          obtain ⟨fs1, ft1, c101, c111, c121, i21, i31, i41⟩ := hb1.get
          have hm1 : MemN _ _ _ _ _ := ⟨rfl, hb1.1⟩
          have hi1 := hb1.2
          have hms1 : MemN _ _ _ _ _ := ⟨rfl, fs1.1⟩
          have his1 := fs1.2
          have hmt1 : MemN _ _ _ _ _ := ⟨rfl, ft1.1⟩
          have hit1 := ft1.2
          clear hb3 c03 c13 c23 c33 c43 i13 i23 i33 i43 hm3 hi3
          have hb3 : Cat.At _ g3 0 m.s p.s := ⟨Mem.of_get at3, his1⟩
          obtain ⟨c03, c13, c23, c33, c43, i13, i23, i33, i43⟩ := hb3.get
          have hm3 : MemN _ _ _ _ _ := ⟨rfl, hb3.1⟩
          have hi3 := hb3.2
          clear hb4 c04 c14 c24 c34 c44 i14 i24 i34 i44 hm4 hi4
          have hb4 : Cat.At _ g4 0 m.t p.t := ⟨Mem.of_get at4, hit1⟩
          obtain ⟨c04, c14, c24, c34, c44, i14, i24, i34, i44⟩ := hb4.get
          have hm4 : MemN _ _ _ _ _ := ⟨rfl, hb4.1⟩
          have hi4 := hb4.2
          clear r1
          have r1 := i31.2 a (by omega)
          clear t1 w1 w2 w3 w4
          have t1 := i41.2 b (by omega)
          have w1 := r1.2 (m.t.src.getD b 0).toNat (by omega)
          have w2 := r1.2 (m.t.tgt.getD b 0).toNat (by omega)
          have w3 := t1.2 (m.s.src.getD a 0).toNat (by omega)
          have w4 := t1.2 (m.s.tgt.getD a 0).toNat (by omega)
          clear i214
          have i214 := Ints.of_get at214
          have i239 := Ints.of_get at239
          refine .m rfl rfl rfl rfl (.refl _) (.assign rfl) ?_
          refine .done ?_
          refine hK53 _ _ ?_
          refine .seq (fun K54 hK54 => ?_)
          refine .region ?_
          refine .m rfl rfl rfl (.move rfl) ?_
          refine .m rfl rfl rfl (.move rfl) ?_
          refine .callQ rfl rfl rfl rfl @Try.call50 rfl (l01Same_c (hx := by rw [length_thenL]; omega) (hy := by rw [length_thenL]; omega)) ?_
          refine .m rfl rfl rfl (.not rfl) ?_
          refine .nil ?_
          refine hK54 _ _ ?_
          refine .cond rfl (fun h243 => ?_) (fun h243 => ?_)
          ·
           try simp only [sps] at h243
           refine .seq (fun K55 hK55 => ?_)
           refine .region ?_
           refine .m rfl rfl rfl (.assign rfl) ?_
           refine .nil ?_
           refine hK55 _ _ ?_
           refine .ret ?_
           -- leaf e5
           refine hret _ _ ?_
           refine ⟨_, rfl, ?_⟩
           first
           | exact ⟨congrArg _ (B_true ⟨⟨fun y hy x hx => (ha1 y (by omega)).1 x (by omega), fun y hy a ha b hb => (ha1 y (by omega)).2 a (by omega) b (by omega), fun x hx a ha b hb => ha5 x (by omega) a (by omega) b (by omega)⟩, fun a ha b hb => ha8 a (by omega) b (by omega)⟩), hle⟩
           | exact ⟨congrArg _ (B_false fun hh => h63 (hh.1.idb y (by omega) x (by omega)).2), hle⟩
           | exact ⟨congrArg _ (B_false fun hh => h48 (hh.1.idb y (by omega) x (by omega)).1), hle⟩
           | exact ⟨congrArg _ (B_false fun hh => h116 (hh.1.thb y (by omega) a (by omega) b (by omega) h88)), hle⟩
           | exact ⟨congrArg _ (B_false fun hh => h175 (hh.1.thh x (by omega) a (by omega) b (by omega) h147)), hle⟩
           | exact ⟨congrArg _ (B_false fun hh => h243 (hh.2 a (by omega) b (by omega))), hle⟩
          ·
           try simp only [sps] at h243
           refine .skip ?_
           refine hK51 _ _ ?_
           refine .region ?_
           refine .m rfl rfl rfl (.move rfl) ?_
           refine .m rfl rfl rfl (.add rfl rfl rfl (by omega) (by omega)) ?_
           refine .m rfl rfl rfl (.assign rfl) ?_
           refine .nil ?_
           refine hKL9 (b + 1) _ _ ?_ ?_ ⟨rfl, rfl, rfl, rfl, rfl, trivial⟩
           ·
            refine ⟨lst9, ?_⟩
            refine ⟨by omega, fun b' hx => ?_⟩
            by_cases hltq : b' < b
            · exact ha9 b' hltq
            · obtain rfl : b' = b := by omega
              exact h243
           ·
            omega
         ·
          try simp only [sps] at h187
          refine .exit ?_
          refine hK47 _ _ ?_
          refine .region ?_
          refine .m rfl rfl rfl (.move rfl) ?_
          refine .m rfl rfl rfl (.add rfl rfl rfl (by omega) (by omega)) ?_
          refine .m rfl rfl rfl (.assign rfl) ?_
          refine .nil ?_
          refine hKL8 (a + 1) _ _ ?_ ?_ ⟨rfl, rfl, rfl, rfl, trivial⟩
          ·
           refine ⟨lst8, ?_⟩
           refine ⟨by omega, fun a' hx => ?_⟩
           by_cases hltq : a' < a
           · exact ha8 a' hltq
           · obtain rfl : a' = a := by omega
             exact fun b hb => ha9 b (by omega)
          ·
           omega
       ·
        try simp only [sps] at h180
        refine .exit ?_
        refine hK43 _ _ ?_
        refine .seq (fun K56 hK56 => ?_)
        refine .region ?_
        refine .m rfl rfl rfl (.assign rfl) ?_
        refine .nil ?_
        refine hK56 _ _ ?_
        refine .ret ?_
        -- leaf e6
        refine hret _ _ ?_
        refine ⟨_, rfl, ?_⟩
        first
        | exact ⟨congrArg _ (B_true ⟨⟨fun y hy x hx => (ha1 y (by omega)).1 x (by omega), fun y hy a ha b hb => (ha1 y (by omega)).2 a (by omega) b (by omega), fun x hx a ha b hb => ha5 x (by omega) a (by omega) b (by omega)⟩, fun a ha b hb => ha8 a (by omega) b (by omega)⟩), hle⟩
        | exact ⟨congrArg _ (B_false fun hh => h63 (hh.1.idb y (by omega) x (by omega)).2), hle⟩
        | exact ⟨congrArg _ (B_false fun hh => h48 (hh.1.idb y (by omega) x (by omega)).1), hle⟩
        | exact ⟨congrArg _ (B_false fun hh => h116 (hh.1.thb y (by omega) a (by omega) b (by omega) h88)), hle⟩
        | exact ⟨congrArg _ (B_false fun hh => h175 (hh.1.thh x (by omega) a (by omega) b (by omega) h147)), hle⟩
        | exact ⟨congrArg _ (B_false fun hh => h243 (hh.2 a (by omega) b (by omega))), hle⟩
theorem l22Is_c {m : Prof} {p : ProfP} {H : GHeap} (hin : m.In H p := by assumption) (hs : m.Small := by assumption) :
    GCalls Try.prog 20 [.agg (m.cells p).toArray] H (Ret (.bool (B m.Is)) H) := by
  refine GCalls.ret rfl ?_
  have hs1 := hs
  obtain ⟨w1, w2, _⟩ := hs1
  refine GCalls.body (N := 23) (rs := [.tmp 2]) Try.func20 rfl rfl rfl rfl (fun Qx hret hend => ?_)
  refine .forget (fr' := [(0, some _)]) ⟨rfl, trivial⟩ ?_
  have hle := GHeap.Le.refl H
  have base_hin := hin
  refine .seq (fun K1 hK1 => ?_)
  refine .region ?_
  refine .r rfl rfl rfl (.boxR rfl sz_33_VProf rfl) ?_
  rintro _ H1 ⟨g1, rfl, le1, ge1, at1⟩
  have nx_H1 := le1.1
  replace hle := hle.trans le1
  have lt_at1 := GHeap.lt_of_get at1
  replace hin := base_hin.mono hle
  have hb1 : Prof.At _ g1 0 m p := ⟨Mem.of_get at1, hin⟩
  obtain ⟨fs1, ft1, c101, c111, c121, i21, i31, i41⟩ := hb1.get
  have hm1 : MemN _ _ _ _ _ := ⟨rfl, hb1.1⟩
  have hi1 := hb1.2
  have hms1 : MemN _ _ _ _ _ := ⟨rfl, fs1.1⟩
  have his1 := fs1.2
  have hmt1 : MemN _ _ _ _ _ := ⟨rfl, ft1.1⟩
  have hit1 := ft1.2
  refine .m rfl rfl rfl (.assign rfl) ?_
  refine .nil ?_
  refine hK1 _ _ ?_
  refine .seq (fun K2 hK2 => ?_)
  refine .region ?_
  refine .m rfl rfl rfl (.fieldAddr fo_33_0_VProf rfl) ?_
  refine .m rfl rfl rfl (.loadM ag_31_D rfl (by assumption)) ?_
  refine .callQ rfl rfl rfl rfl @Try.call37 rfl (l02Is_c) ?_
  refine .m rfl rfl rfl (.move rfl) ?_
  refine .split (fun h6 => ?_) (fun h6 => ?_)
  ·
   try simp only [sps] at h6
   refine .mg rfl rfl rfl rfl rfl (.fieldAddr fo_33_1_VProf rfl) ?_
   refine .mg rfl rfl rfl rfl rfl (.loadM ag_31_D rfl (by assumption)) ?_
   refine .callQg rfl rfl rfl rfl rfl rfl @Try.call37 rfl (l02Is_c) ?_
   refine .m rfl rfl rfl (.pickT rfl rfl) ?_
   refine .m rfl rfl rfl (.move rfl) ?_
   refine .split (fun h11 => ?_) (fun h11 => ?_)
   ·
    try simp only [sps] at h11
    refine .mg rfl rfl rfl rfl rfl (.loadM ag_33_VProf rfl ⟨rfl, Mem.of_get at1⟩) ?_
    refine .callQg rfl rfl rfl rfl rfl rfl @Try.call38 rfl (l22Sized_c) ?_
    refine .m rfl rfl rfl (.pickT rfl rfl) ?_
    refine .m rfl rfl rfl (.move rfl) ?_
    refine .split (fun h15 => ?_) (fun h15 => ?_)
    ·
     try simp only [sps] at h15
     refine .mg rfl rfl rfl rfl rfl (.loadM ag_33_VProf rfl ⟨rfl, Mem.of_get at1⟩) ?_
     refine .callQg rfl rfl rfl rfl rfl rfl @Try.call39 rfl (l22Maps_c) ?_
     refine .m rfl rfl rfl (.pickT rfl rfl) ?_
     refine .m rfl rfl rfl (.move rfl) ?_
     refine .split (fun h19 => ?_) (fun h19 => ?_)
     ·
      simp only [sps] at h19
      have hS : m.Shape := ⟨h6, h11, h15, h19⟩
      refine .mg rfl rfl rfl rfl rfl (.loadM ag_33_VProf rfl ⟨rfl, Mem.of_get at1⟩) ?_
      refine .callQg rfl rfl rfl rfl rfl rfl @Try.call40 rfl (l22Laws_c) ?_
      refine .m rfl rfl rfl (.pickT rfl rfl) ?_
      refine .m rfl rfl rfl (.assign rfl) ?_
      refine .nil ?_
      refine hK2 _ _ ?_
      refine .ret ?_
      -- leaf e1
      refine hret _ _ ?_
      refine ⟨_, rfl, ?_⟩
      first
      | exact ⟨congrArg _ (B_congr ⟨fun hh => ⟨hh.2.1, hh.2.2⟩, fun hh => ⟨hS, hh.1, hh.2⟩⟩), hle⟩
      | exact ⟨congrArg _ (B_false fun hh => absurd hh.1.s (by assumption)), hle⟩
      | exact ⟨congrArg _ (B_false fun hh => absurd hh.1.t (by assumption)), hle⟩
      | exact ⟨congrArg _ (B_false fun hh => absurd hh.1.z (by assumption)), hle⟩
      | exact ⟨congrArg _ (B_false fun hh => absurd hh.1.ok (by assumption)), hle⟩
     ·
      try simp only [sps] at h19
      refine .sg rfl rfl rfl rfl rfl ?_
      refine .sg rfl rfl rfl rfl rfl ?_
      refine .m rfl rfl rfl (.pickF rfl rfl) ?_
      refine .m rfl rfl rfl (.assign rfl) ?_
      refine .nil ?_
      refine hK2 _ _ ?_
      refine .ret ?_
      -- leaf e2
      refine hret _ _ ?_
      refine ⟨_, rfl, ?_⟩
      first
      | exact ⟨congrArg _ (B_congr ⟨fun hh => ⟨hh.2.1, hh.2.2⟩, fun hh => ⟨hS, hh.1, hh.2⟩⟩), hle⟩
      | exact ⟨congrArg _ (B_false fun hh => absurd hh.1.s (by assumption)), hle⟩
      | exact ⟨congrArg _ (B_false fun hh => absurd hh.1.t (by assumption)), hle⟩
      | exact ⟨congrArg _ (B_false fun hh => absurd hh.1.z (by assumption)), hle⟩
      | exact ⟨congrArg _ (B_false fun hh => absurd hh.1.ok (by assumption)), hle⟩
    ·
     try simp only [sps] at h15
     refine .sg rfl rfl rfl rfl rfl ?_
     refine .sg rfl rfl rfl rfl rfl ?_
     refine .m rfl rfl rfl (.pickF rfl rfl) ?_
     refine .m rfl rfl rfl (.move rfl) ?_
     refine .sg rfl rfl rfl rfl rfl ?_
     refine .sg rfl rfl rfl rfl rfl ?_
     refine .m rfl rfl rfl (.pickF rfl rfl) ?_
     refine .m rfl rfl rfl (.assign rfl) ?_
     refine .nil ?_
     refine hK2 _ _ ?_
     refine .ret ?_
     -- leaf e3
     refine hret _ _ ?_
     refine ⟨_, rfl, ?_⟩
     first
     | exact ⟨congrArg _ (B_congr ⟨fun hh => ⟨hh.2.1, hh.2.2⟩, fun hh => ⟨hS, hh.1, hh.2⟩⟩), hle⟩
     | exact ⟨congrArg _ (B_false fun hh => absurd hh.1.s (by assumption)), hle⟩
     | exact ⟨congrArg _ (B_false fun hh => absurd hh.1.t (by assumption)), hle⟩
     | exact ⟨congrArg _ (B_false fun hh => absurd hh.1.z (by assumption)), hle⟩
     | exact ⟨congrArg _ (B_false fun hh => absurd hh.1.ok (by assumption)), hle⟩
   ·
    try simp only [sps] at h11
    refine .sg rfl rfl rfl rfl rfl ?_
    refine .sg rfl rfl rfl rfl rfl ?_
    refine .m rfl rfl rfl (.pickF rfl rfl) ?_
    refine .m rfl rfl rfl (.move rfl) ?_
    refine .sg rfl rfl rfl rfl rfl ?_
    refine .sg rfl rfl rfl rfl rfl ?_
    refine .m rfl rfl rfl (.pickF rfl rfl) ?_
    refine .m rfl rfl rfl (.move rfl) ?_
    refine .sg rfl rfl rfl rfl rfl ?_
    refine .sg rfl rfl rfl rfl rfl ?_
    refine .m rfl rfl rfl (.pickF rfl rfl) ?_
    refine .m rfl rfl rfl (.assign rfl) ?_
    refine .nil ?_
    refine hK2 _ _ ?_
    refine .ret ?_
    -- leaf e4
    refine hret _ _ ?_
    refine ⟨_, rfl, ?_⟩
    first
    | exact ⟨congrArg _ (B_congr ⟨fun hh => ⟨hh.2.1, hh.2.2⟩, fun hh => ⟨hS, hh.1, hh.2⟩⟩), hle⟩
    | exact ⟨congrArg _ (B_false fun hh => absurd hh.1.s (by assumption)), hle⟩
    | exact ⟨congrArg _ (B_false fun hh => absurd hh.1.t (by assumption)), hle⟩
    | exact ⟨congrArg _ (B_false fun hh => absurd hh.1.z (by assumption)), hle⟩
    | exact ⟨congrArg _ (B_false fun hh => absurd hh.1.ok (by assumption)), hle⟩
  ·
   try simp only [sps] at h6
   refine .sg rfl rfl rfl rfl rfl ?_
   refine .sg rfl rfl rfl rfl rfl ?_
   refine .sg rfl rfl rfl rfl rfl ?_
   refine .m rfl rfl rfl (.pickF rfl rfl) ?_
   refine .m rfl rfl rfl (.move rfl) ?_
   refine .sg rfl rfl rfl rfl rfl ?_
   refine .sg rfl rfl rfl rfl rfl ?_
   refine .m rfl rfl rfl (.pickF rfl rfl) ?_
   refine .m rfl rfl rfl (.move rfl) ?_
   refine .sg rfl rfl rfl rfl rfl ?_
   refine .sg rfl rfl rfl rfl rfl ?_
   refine .m rfl rfl rfl (.pickF rfl rfl) ?_
   refine .m rfl rfl rfl (.move rfl) ?_
   refine .sg rfl rfl rfl rfl rfl ?_
   refine .sg rfl rfl rfl rfl rfl ?_
   refine .m rfl rfl rfl (.pickF rfl rfl) ?_
   refine .m rfl rfl rfl (.assign rfl) ?_
   refine .nil ?_
   refine hK2 _ _ ?_
   refine .ret ?_
   -- leaf e5
   refine hret _ _ ?_
   refine ⟨_, rfl, ?_⟩
   first
   | exact ⟨congrArg _ (B_congr ⟨fun hh => ⟨hh.2.1, hh.2.2⟩, fun hh => ⟨hS, hh.1, hh.2⟩⟩), hle⟩
   | exact ⟨congrArg _ (B_false fun hh => absurd hh.1.s (by assumption)), hle⟩
   | exact ⟨congrArg _ (B_false fun hh => absurd hh.1.t (by assumption)), hle⟩
   | exact ⟨congrArg _ (B_false fun hh => absurd hh.1.z (by assumption)), hle⟩
   | exact ⟨congrArg _ (B_false fun hh => absurd hh.1.ok (by assumption)), hle⟩
end Go.Proofs.Ytihkbggaaopebaa
