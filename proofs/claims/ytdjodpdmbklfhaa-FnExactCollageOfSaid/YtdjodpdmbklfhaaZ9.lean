/- Profunctors, in the reference. No condition but those of each statement. -/
import Derived.Test.YtdjodpdmbklfhaaZ8
namespace Go.Proofs.Ytdjodpdmbklfhaa
open Go Go.GL Go.RowKit Go.Proofs
theorem l22Calm_c {a : Option Addr} {xs : List Int} {H : GHeap} (h : Ints H a xs := by assumption) (hl : xs.length ≤ 1048576 := by omega) :
    GCalls Try.prog 131 [.slice a xs.length xs.length] H (Ret (.bool (B (NoMove xs))) H) := by
  refine GCalls.body (N := 16) (rs := [.tmp 2]) Try.func131 rfl rfl rfl rfl (fun Qx hret hend => ?_)
  refine .forget (fr' := [(0, some _)]) ⟨rfl, trivial⟩ ?_
  refine .seq (fun K1 hK1 => .region (.mv rfl (.nil (hK1 _ _ (.seq (fun K2 hK2 => .seq (fun K3 hK3 => .region (.mv rfl (.nil (hK3 _ _ ?_))))))))))
  refine .block ?_
  refine .loopR (σ := Nat) [(0, some _)] (fun k => [(3, some (.int .i64 (k : Int)))]) (fun k H' => H = H' ∧ (k : Int) ≤ xs.length ∧ ∀ i, i < k → xs.getD i 0 = (i : Int)) (fun k => (xs.length - k : Int).toNat) (0) ⟨rfl, trivial⟩ ⟨rfl, trivial⟩ ?_ ?_
  ·
   refine ⟨rfl, ?_⟩
   exact ⟨by omega, fun _ _ => by omega⟩
  rintro k _ ⟨rfl, hI⟩ KL1 hKL1
  refine .forget (fr' := [(3, some (.int .i64 (k : Int))), (0, some _)]) ⟨rfl, rfl, trivial⟩ ?_
  obtain ⟨hk1, ha1⟩ := hI
  refine .seq (fun K4 hK4 => .seq (fun K5 hK5 => .region (.mv rfl (.mv rfl (.m rfl rfl rfl (.len sl_22_A rfl) (.m rfl rfl rfl (.cmp rfl rfl rfl) (.nil (hK5 _ _ ?_))))))))
  refine .cond rfl (fun h7 => ?_) (fun h7 => ?_)
  ·
   try simp only [sps] at h7
   refine .skip ?_
   refine hK4 _ _ (.seq (fun K6 hK6 => ?_))
   refine .block ?_
   refine .seq (fun K7 hK7 => .region (.mv rfl (.mv rfl ?_)))
   refine .m rfl rfl rfl (.idxN sl_22_A (by assumption) rfl rfl (by omega)) ?_
   refine .m rfl rfl rfl (.loadI on_2_A (by assumption) rfl (by omega)) ?_
   refine .mv rfl (.m rfl rfl rfl (.cmp rfl rfl rfl) (.nil (hK7 _ _ ?_)))
   refine .cond rfl (fun h15 => ?_) (fun h15 => ?_)
   ·
    try simp only [sps] at h15
    refine .seq (fun K8 hK8 => .region (.mv rfl (.nil (hK8 _ _ ?_))))
    refine .ret ?_
    refine hret _ _ ?_
    refine ⟨_, rfl, ?_⟩
    exact .of (congrArg _ (B_false fun hh => h15 (hh k (by omega))))
   try simp only [sps] at h15
   refine .skip ?_
   refine hK6 _ _ (.region (.mv rfl ?_))
   refine .m rfl rfl rfl (.add rfl rfl rfl (by omega) (by omega)) ?_
   refine .mv rfl (.nil ?_)
   refine hKL1 (k + 1) _ _ ?_ ?_ ⟨rfl, rfl, trivial⟩
   ·
    refine ⟨rfl, ?_⟩
    refine ⟨by omega, fun i hx => ?_⟩
    by_cases hltq : i < k
    · exact ha1 i hltq
    · obtain rfl : i = k := by omega
      exact h15
   omega
  try simp only [sps] at h7
  refine .exit ?_
  refine hK2 _ _ (.seq (fun K9 hK9 => .region (.mv rfl (.nil (hK9 _ _ ?_)))))
  refine .ret ?_
  refine hret _ _ ?_
  refine ⟨_, rfl, ?_⟩
  exact .of (congrArg _ (B_true fun i hi => ha1 i (by omega)))
theorem l22Sized_c {m : Prof} {p : ProfP} {H : GHeap} (hin : m.In H p := by assumption) (hs : m.Small := by assumption) (hC : m.s.Is := by assumption) (hD : m.t.Is := by assumption) :
    GCalls Try.prog 90 [.agg (m.cells p).toArray] H (Ret (.bool (B m.Sized)) H) := by
  refine GCalls.ret rfl ?_
  refine GCalls.body (N := 69) (rs := [.tmp 2]) Try.func90 rfl rfl rfl rfl (fun Qx hret hend => ?_)
  refine .forget (fr' := [(0, some _)]) ⟨rfl, trivial⟩ ?_
  have hle := GHeap.Le.refl H
  have base_hin := hin
  obtain ⟨s1, s2, ⟨s3, s4⟩, ⟨s5, s6⟩, s7, s8⟩ := hs
  have q1 := hC.1.n40
  have q2 := hD.1.n40
  refine .seq (fun K1 hK1 => .region ?_)
  refine .r rfl rfl rfl (.boxR rfl sz_34_VProf rfl) ?_
  rintro _ H1 ⟨g1, rfl, le1, ge1, at1⟩
  replace hle := hle.trans le1
  have lt_at1 := GHeap.ltg at1
  replace hin := base_hin.mono hle
  have hb1 : Prof.At _ g1 0 m p := ⟨Mem.of_get at1, hin⟩
  obtain ⟨fs1, ft1, c101, c111, c121, i21, i31, i41⟩ := hb1.get
  refine .mv rfl (.nil (hK1 _ _ (.seq (fun K2 hK2 => .seq (fun K3 hK3 => .region ?_)))))
  obtain ⟨c0, c1, c2, c3, c4, d1, d2, d3, d4⟩ := fs1.get
  obtain ⟨x0, x1, x2, x3, x4, y1, y2, y3, y4⟩ := ft1.get
  refine .m rfl rfl rfl (.fieldAddr fo_34_2_VProf rfl) ?_
  refine .m rfl rfl rfl (.load on_23_B rfl (by first | assumption | exact Mem.of_get at1 10 _ rfl)) ?_
  refine .m rfl rfl rfl (.len sl_23_B rfl) (.m rfl rfl rfl (.fieldAddr fo_34_0_VProf rfl) (.m rfl rfl rfl (.fieldAddr fo_30_0_B rfl) ?_))
  refine .m rfl rfl rfl (.load on_2_A rfl (by first | assumption | exact Mem.of_get at1 0 _ rfl)) ?_
  refine .m rfl rfl rfl (.cmp rfl rfl rfl) (.mv rfl ?_)
  refine .split (fun h12 => ?_) (fun h12 => ?_)
  ·
   try simp only [sps] at h12
   refine .sg rfl rfl rfl rfl rfl (.sg rfl rfl rfl rfl rfl (.sg rfl rfl rfl rfl rfl (.sg rfl rfl rfl rfl rfl (.sg rfl rfl rfl rfl rfl (.sg rfl rfl rfl rfl rfl (.sg rfl rfl rfl rfl rfl (.sg rfl rfl rfl rfl rfl (.m rfl rfl rfl (.pickT rfl rfl) (.mv rfl (.sg rfl rfl rfl rfl rfl (.sg rfl rfl rfl rfl rfl (.sg rfl rfl rfl rfl rfl (.sg rfl rfl rfl rfl rfl (.sg rfl rfl rfl rfl rfl (.sg rfl rfl rfl rfl rfl ?_)))))))))))))))
   refine .sg rfl rfl rfl rfl rfl (.sg rfl rfl rfl rfl rfl (.m rfl rfl rfl (.pickT rfl rfl) (.nil (hK3 _ _ ?_))))
   refine .condT rfl ?_
   refine .seq (fun K4 hK4 => .region (.mv rfl (.nil (hK4 _ _ ?_))))
   refine .ret ?_
   refine hret _ _ ?_
   refine ⟨_, rfl, ?_⟩
   exact ⟨congrArg _ (B_false fun hh => by have := hh.sl; omega), hle⟩
  try simp only [sps] at h12
  refine .mg rfl rfl rfl rfl rfl (.fieldAddr fo_34_3_VProf rfl) ?_
  refine .mg rfl rfl rfl rfl rfl (.load on_26_VProf rfl (by first | assumption | exact Mem.of_get at1 11 _ rfl)) ?_
  refine .mg rfl rfl rfl rfl rfl (.len sl_26_VZ rfl) (.mg rfl rfl rfl rfl rfl (.fieldAddr fo_34_0_VProf rfl) (.mg rfl rfl rfl rfl rfl (.fieldAddr fo_30_1_B rfl) ?_))
  refine .mg rfl rfl rfl rfl rfl (.load on_22_B rfl (by first | assumption | exact Mem.of_get at1 1 _ rfl)) ?_
  refine .mg rfl rfl rfl rfl rfl (.len sl_22_A rfl) (.mg rfl rfl rfl rfl rfl (.cmp rfl rfl rfl) (.m rfl rfl rfl (.pickF rfl rfl) (.mv rfl ?_)))
  refine .split (fun h22 => ?_) (fun h22 => ?_)
  ·
   try simp only [sps] at h22
   refine .sg rfl rfl rfl rfl rfl (.sg rfl rfl rfl rfl rfl (.sg rfl rfl rfl rfl rfl (.sg rfl rfl rfl rfl rfl (.sg rfl rfl rfl rfl rfl (.sg rfl rfl rfl rfl rfl (.sg rfl rfl rfl rfl rfl (.sg rfl rfl rfl rfl rfl (.m rfl rfl rfl (.pickT rfl rfl) (.nil (hK3 _ _ ?_))))))))))
   refine .condT rfl ?_
   refine .seq (fun K5 hK5 => .region (.mv rfl (.nil (hK5 _ _ ?_))))
   refine .ret ?_
   refine hret _ _ ?_
   refine ⟨_, rfl, ?_⟩
   exact ⟨congrArg _ (B_false fun hh => by have := hh.bl; omega), hle⟩
  try simp only [sps] at h22
  refine .mg rfl rfl rfl rfl rfl (.fieldAddr fo_34_4_VProf rfl) ?_
  refine .mg rfl rfl rfl rfl rfl (.load on_26_VProf rfl (by first | assumption | exact Mem.of_get at1 12 _ rfl)) ?_
  refine .mg rfl rfl rfl rfl rfl (.len sl_26_VZ rfl) (.mg rfl rfl rfl rfl rfl (.fieldAddr fo_34_1_VProf rfl) (.mg rfl rfl rfl rfl rfl (.fieldAddr fo_30_1_B rfl) ?_))
  refine .mg rfl rfl rfl rfl rfl (.load on_22_B rfl (by first | assumption | exact Mem.of_get at1 6 _ rfl)) ?_
  refine .mg rfl rfl rfl rfl rfl (.len sl_22_A rfl) (.mg rfl rfl rfl rfl rfl (.cmp rfl rfl rfl) (.m rfl rfl rfl (.pickF rfl rfl) (.nil (hK3 _ _ ?_))))
  refine .cond rfl (fun h31 => ?_) (fun h31 => ?_)
  ·
   try simp only [sps] at h31
   refine .seq (fun K6 hK6 => .region (.mv rfl (.nil (hK6 _ _ ?_))))
   refine .ret ?_
   refine hret _ _ ?_
   refine ⟨_, rfl, ?_⟩
   exact ⟨congrArg _ (B_false fun hh => by have := hh.hl; omega), hle⟩
  try simp only [sps] at h31
  refine .skip ?_
  refine hK2 _ _ (.seq (fun K7 hK7 => .seq (fun K8 hK8 => .region (.mv rfl (.nil (hK8 _ _ ?_))))))
  refine .block ?_
  refine .loopR (σ := Nat) [(1, some _)] (fun k => [(3, some (.int .i64 (k : Int)))]) (fun k H' => H1 = H' ∧ (k : Int) ≤ m.sz.length ∧ ∀ x, x < k → ((m.sz.getD x []).length : Int) = m.t.obj ∧ ∀ y : Nat, y < (m.sz.getD x []).length → 0 ≤ (m.sz.getD x []).getD y 0 ∧ (m.sz.getD x []).getD y 0 ≤ 64) (fun k => (m.sz.length - k : Int).toNat) (0) ⟨rfl, trivial⟩ ⟨rfl, trivial⟩ ?_ ?_
  ·
   refine ⟨rfl, ?_⟩
   exact ⟨by omega, fun _ _ => by omega⟩
  rintro k _ ⟨rfl, hI⟩ KL1 hKL1
  refine .forget (fr' := [(3, some (.int .i64 (k : Int))), (1, some _)]) ⟨rfl, rfl, trivial⟩ ?_
  obtain ⟨hk1, ha1⟩ := hI
  refine .seq (fun K9 hK9 => .seq (fun K10 hK10 => .region (.mv rfl (.m rfl rfl rfl (.fieldAddr fo_34_2_VProf rfl) ?_))))
  refine .m rfl rfl rfl (.load on_23_B rfl (by first | assumption | exact Mem.of_get at1 10 _ rfl)) ?_
  refine .m rfl rfl rfl (.len sl_23_B rfl) (.m rfl rfl rfl (.cmp rfl rfl rfl) (.nil (hK10 _ _ ?_)))
  refine .cond rfl (fun h36 => ?_) (fun h36 => ?_)
  ·
   simp only [sps] at h36
   have r1 := i21.2 k (by omega)
   have r2 := s4 k
   refine .skip ?_
   refine hK9 _ _ (.seq (fun K11 hK11 => ?_))
   refine .block ?_
   refine .seq (fun K12 hK12 => .seq (fun K13 hK13 => ?_))
   refine .regionD mo_B (.q 0 (.q 1 (.q 2 (.q 3 (.q 4 (.q 5 (.q 6 (.q 7 (.q 8 (.q 9 (.done))))))))))) (by kernel_rfl) ?_
   refine .m rfl rfl rfl rfl (.refl _) (.fieldAddr fo_34_2_VProf rfl) ?_
   refine .m rfl rfl rfl rfl (.refl _) (.load on_23_B rfl (by first | assumption | exact Mem.of_get at1 10 _ rfl)) ?_
   refine .mv rfl rfl ?_
   refine .m rfl rfl rfl rfl (.refl _) (.idxN sl_23_B (Intss.sl (by assumption)) rfl rfl (by omega)) ?_
   refine .m rfl rfl rfl rfl (.refl _) (.loadR on_22_B (by assumption) rfl (by omega)) ?_
   refine .m rfl rfl rfl rfl (.refl _) (.len sl_22_A rfl) (.m rfl rfl rfl rfl (.refl _) (.fieldAddr fo_34_1_VProf rfl) (.m rfl rfl rfl rfl (.refl _) (.fieldAddr fo_30_0_B rfl) ?_))
   refine .m rfl rfl rfl rfl (.refl _) (.load on_2_A rfl (by first | assumption | exact Mem.of_get at1 5 _ rfl)) ?_
   refine .m rfl rfl rfl rfl (.refl _) (.cmp rfl rfl rfl) ?_
   refine .done ?_
   refine hK13 _ _ ?_
   refine .cond rfl (fun h48 => ?_) (fun h48 => ?_)
   ·
    try simp only [sps] at h48
    refine .seq (fun K14 hK14 => .region (.mv rfl (.nil (hK14 _ _ ?_))))
    refine .ret ?_
    refine hret _ _ ?_
    refine ⟨_, rfl, ?_⟩
    exact ⟨congrArg _ (B_false fun hh => by have := hh.row k (by omega); omega), hle⟩
   try simp only [sps] at h48
   refine .skip ?_
   refine hK12 _ _ (.seq (fun K15 hK15 => .region (.mv rfl (.nil (hK15 _ _ ?_)))))
   refine .block ?_
   refine .loopR (σ := Nat) [(1, some _), (3, some _)] (fun j => [(4, some (.int .i64 (j : Int)))]) (fun j H' => H1 = H' ∧ (j : Int) ≤ (m.sz.getD k []).length ∧ ∀ y, y < j → 0 ≤ (m.sz.getD k []).getD y 0 ∧ (m.sz.getD k []).getD y 0 ≤ 64) (fun j => ((m.sz.getD k []).length - j : Int).toNat) (0) ⟨rfl, rfl, trivial⟩ ⟨rfl, trivial⟩ ?_ ?_
   ·
    refine ⟨rfl, ?_⟩
    exact ⟨by omega, fun _ _ => by omega⟩
   rintro j _ ⟨rfl, hI⟩ KL2 hKL2
   refine .forget (fr' := [(4, some (.int .i64 (j : Int))), (1, some _), (3, some _)]) ⟨rfl, rfl, rfl, trivial⟩ ?_
   obtain ⟨hk2, ha2⟩ := hI
   refine .seq (fun K16 hK16 => .seq (fun K17 hK17 => .region (.mv rfl (.m rfl rfl rfl (.fieldAddr fo_34_2_VProf rfl) ?_))))
   refine .m rfl rfl rfl (.load on_23_B rfl (by first | assumption | exact Mem.of_get at1 10 _ rfl)) ?_
   refine .mv rfl ?_
   refine .m rfl rfl rfl (.idxN sl_23_B (Intss.sl (by assumption)) rfl rfl (by omega)) ?_
   refine .m rfl rfl rfl (.loadR on_22_B (by assumption) rfl (by omega)) ?_
   refine .m rfl rfl rfl (.len sl_22_A rfl) (.m rfl rfl rfl (.cmp rfl rfl rfl) (.nil (hK17 _ _ ?_)))
   refine .cond rfl (fun h56 => ?_) (fun h56 => ?_)
   ·
    try simp only [sps] at h56
    refine .skip ?_
    refine hK16 _ _ (.seq (fun K18 hK18 => ?_))
    refine .block ?_
    refine .seq (fun K19 hK19 => .region (.m rfl rfl rfl (.fieldAddr fo_34_2_VProf rfl) ?_))
    refine .m rfl rfl rfl (.load on_23_B rfl (by first | assumption | exact Mem.of_get at1 10 _ rfl)) ?_
    refine .mv rfl ?_
    refine .m rfl rfl rfl (.idxN sl_23_B (Intss.sl (by assumption)) rfl rfl (by omega)) ?_
    refine .m rfl rfl rfl (.loadR on_22_B (by assumption) rfl (by omega)) ?_
    refine .mv rfl ?_
    refine .m rfl rfl rfl (.idxN sl_22_A (by assumption) rfl rfl (by omega)) ?_
    refine .m rfl rfl rfl (.loadI on_2_A (by assumption) rfl (by omega)) ?_
    refine .callQ rfl rfl rfl rfl @Try.call130 rfl (l01In_c) ?_
    refine .m rfl rfl rfl (.not rfl) (.nil (hK19 _ _ ?_))
    refine .cond rfl (fun h68 => ?_) (fun h68 => ?_)
    ·
     try simp only [sps] at h68
     refine .seq (fun K20 hK20 => .region (.mv rfl (.nil (hK20 _ _ ?_))))
     refine .ret ?_
     refine hret _ _ ?_
     refine ⟨_, rfl, ?_⟩
     exact ⟨congrArg _ (B_false fun hh => by have := hh.rng k (by omega) j (by omega); omega), hle⟩
    try simp only [sps] at h68
    refine .skip ?_
    refine hK18 _ _ (.region (.mv rfl ?_))
    refine .m rfl rfl rfl (.add rfl rfl rfl (by omega) (by omega)) ?_
    refine .mv rfl (.nil ?_)
    refine hKL2 (j + 1) _ _ ?_ ?_ ⟨rfl, rfl, rfl, trivial⟩
    ·
     refine ⟨rfl, ?_⟩
     refine ⟨by omega, fun y hx => ?_⟩
     by_cases hltq : y < j
     · exact ha2 y hltq
     · obtain rfl : y = j := by omega
       exact h68
    omega
   try simp only [sps] at h56
   refine .exit ?_
   refine hK11 _ _ (.region (.mv rfl ?_))
   refine .m rfl rfl rfl (.add rfl rfl rfl (by omega) (by omega)) ?_
   refine .mv rfl (.nil ?_)
   refine hKL1 (k + 1) _ _ ?_ ?_ ⟨rfl, rfl, trivial⟩
   ·
    refine ⟨rfl, ?_⟩
    refine ⟨by omega, fun x hx => ?_⟩
    by_cases hltq : x < k
    · exact ha1 x hltq
    · obtain rfl : x = k := by omega
      exact ⟨h48, fun y hy => ha2 y (by omega)⟩
   omega
  try simp only [sps] at h36
  refine .exit ?_
  refine hK7 _ _ (.seq (fun K21 hK21 => .region (.mv rfl (.nil (hK21 _ _ ?_)))))
  refine .ret ?_
  refine hret _ _ ?_
  refine ⟨_, rfl, ?_⟩
  exact ⟨congrArg _ (B_true ⟨by omega, by omega, by omega, fun x hx => (ha1 x (by omega)).1, fun x hx y hy => (ha1 x (by omega)).2 y hy⟩), hle⟩
set_option maxHeartbeats 4000000 in
theorem l22Maps_c {m : Prof} {p : ProfP} {H : GHeap} (hin : m.In H p := by assumption) (hs : m.Small := by assumption) (hC : m.s.Is := by assumption) (hD : m.t.Is := by assumption) (hz : m.Sized := by assumption) :
    GCalls Try.prog 91 [.agg (m.cells p).toArray] H (Ret (.bool (B m.Maps)) H) := by
  refine GCalls.ret rfl ?_
  refine GCalls.body (N := 147) (rs := [.tmp 2]) Try.func91 rfl rfl rfl rfl (fun Qx hret hend => ?_)
  refine .forget (fr' := [(0, some _)]) ⟨rfl, trivial⟩ ?_
  have hle := GHeap.Le.refl H
  have base_hin := hin
  obtain ⟨s1, s2, ⟨s3, s4⟩, ⟨s5, s6⟩, s7, s8⟩ := hs
  have q1 := hC.1.n40
  have q2 := hD.1.n40
  have q3 := hz.sl
  refine .seq (fun K1 hK1 => .region ?_)
  refine .r rfl rfl rfl (.boxR rfl sz_34_VProf rfl) ?_
  rintro _ H1 ⟨g1, rfl, le1, ge1, at1⟩
  replace hle := hle.trans le1
  have lt_at1 := GHeap.ltg at1
  replace hin := base_hin.mono hle
  have hb1 : Prof.At _ g1 0 m p := ⟨Mem.of_get at1, hin⟩
  obtain ⟨fs1, ft1, c101, c111, c121, i21, i31, i41⟩ := hb1.get
  have hm1 : MemN _ _ _ _ _ := ⟨rfl, hb1.1⟩
  have hi1 := hb1.2
  have hms1 : MemN _ _ _ _ _ := ⟨rfl, fs1.1⟩
  have his1 := fs1.2
  have hmt1 : MemN _ _ _ _ _ := ⟨rfl, ft1.1⟩
  have hit1 := ft1.2
  refine .mv rfl (.nil (hK1 _ _ (.seq (fun K2 hK2 => ?_))))
  refine .regionD mo_B (.q 0 (.q 1 (.q 2 (.q 3 (.or (.c 4 1 (.c 5 1 (.c 6 1 (.c 7 0 .done)))) (.c 5 1 (.c 4 1 (.c 6 1 (.c 7 0 .done))))))))) (by kernel_rfl) ?_
  refine .m rfl rfl rfl rfl (.refl _) (.fieldAddr fo_34_0_VProf rfl) ?_
  refine .m rfl rfl rfl rfl (.refl _) (.loadM ag_30_D rfl (by assumption)) ?_
  refine .m rfl rfl rfl rfl (.refl _) (.fieldAddr fo_34_1_VProf rfl) ?_
  refine .m rfl rfl rfl rfl (.refl _) (.loadM ag_30_D rfl (by assumption)) ?_
  refine .two [(1, some _)] rfl rfl rfl rfl rfl rfl rfl rfl rfl rfl rfl rfl rfl rfl rfl rfl rfl rfl ze_30_E rfl sz_30_D rfl rfl rfl rfl rfl (by rfl) (by rfl) rfl rfl rfl rfl rfl ⟨rfl, trivial⟩ rfl rfl (.refl _) ?_
  intro g3 g4 H4 fr4 le4 ge3 ge4 at3 at4 hsub4
  replace hle := hle.trans le4
  replace at1 := le4.2 _ _ at1
  have lt_at3 := GHeap.ltg at3
  have lt_at4 := GHeap.ltg at4
  replace hin := base_hin.mono hle
  clear hb1 fs1 ft1 c101 c111 c121 i21 i31 i41 hm1 hi1 hms1 his1 hmt1 hit1
  have hb1 : Prof.At _ g1 0 m p := ⟨Mem.of_get at1, hin⟩
  obtain ⟨fs1, ft1, c101, c111, c121, i21, i31, i41⟩ := hb1.get
  have hm1 : MemN _ _ _ _ _ := ⟨rfl, hb1.1⟩
  have hi1 := hb1.2
  have hms1 : MemN _ _ _ _ _ := ⟨rfl, fs1.1⟩
  have his1 := fs1.2
  have hmt1 : MemN _ _ _ _ _ := ⟨rfl, ft1.1⟩
  have hit1 := ft1.2
  have hb3 : Cat.At _ g3 0 m.s p.s := ⟨Mem.of_get at3, his1⟩
  obtain ⟨c03, c13, c23, c33, c43, i13, i23, i33, i43⟩ := hb3.get
  have hm3 : MemN _ _ _ _ _ := ⟨rfl, hb3.1⟩
  have hi3 := hb3.2
  have hb4 : Cat.At _ g4 0 m.t p.t := ⟨Mem.of_get at4, hit1⟩
  obtain ⟨c04, c14, c24, c34, c44, i14, i24, i34, i44⟩ := hb4.get
  have hm4 : MemN _ _ _ _ _ := ⟨rfl, hb4.1⟩
  have hi4 := hb4.2
  refine hK2 _ _ ?_
  refine .forget hsub4 ?_
  refine .seq (fun K3 hK3 => .seq (fun K4 hK4 => .region (.mv rfl (.nil (hK4 _ _ ?_)))))
  refine .block ?_
  refine .loopR (σ := Nat) [(1, some _), (3, some _), (4, some _)] (fun a => [(5, some (.int .i64 (a : Int)))]) (fun a H' => H4 = H' ∧ (a : Int) ≤ m.be.length ∧ ∀ a', a' < a → ((m.be.getD a' []).length : Int) = m.t.obj ∧ ∀ y, y < (m.be.getD a' []).length → m.BeOk a' y) (fun a => (m.be.length - a : Int).toNat) (0) ⟨rfl, rfl, rfl, trivial⟩ ⟨rfl, trivial⟩ ?_ ?_
  ·
   refine ⟨rfl, ?_⟩
   exact ⟨by omega, fun _ _ => by omega⟩
  rintro a _ ⟨rfl, hI⟩ KL1 hKL1
  refine .forget (fr' := [(5, some (.int .i64 (a : Int))), (1, some _), (3, some _), (4, some _)]) ⟨rfl, rfl, rfl, rfl, trivial⟩ ?_
  obtain ⟨hk1, ha1⟩ := hI
  refine .seq (fun K5 hK5 => .seq (fun K6 hK6 => .region (.mv rfl (.m rfl rfl rfl (.fieldAddr fo_34_3_VProf rfl) ?_))))
  refine .m rfl rfl rfl (.load on_26_VProf rfl (by first | assumption | exact Mem.of_get at1 11 _ rfl)) ?_
  refine .m rfl rfl rfl (.len sl_26_VZ rfl) (.m rfl rfl rfl (.cmp rfl rfl rfl) (.nil (hK6 _ _ ?_)))
  refine .cond rfl (fun h19 => ?_) (fun h19 => ?_)
  ·
   simp only [sps] at h19
   have r1 := i31.2 a (by omega)
   have r2 := s6 a
   have r3 := hz.b hC (a := a) (by omega)
   refine .skip ?_
   refine hK5 _ _ (.seq (fun K7 hK7 => ?_))
   refine .block ?_
   refine .seq (fun K8 hK8 => .seq (fun K9 hK9 => ?_))
   refine .regionD mo_B (.q 0 (.q 1 (.q 2 (.q 3 (.q 4 (.q 5 (.q 6 (.q 7 (.q 8 (.done)))))))))) (by kernel_rfl) ?_
   refine .m rfl rfl rfl rfl (.refl _) (.fieldAddr fo_34_3_VProf rfl) ?_
   refine .m rfl rfl rfl rfl (.refl _) (.load on_26_VProf rfl (by first | assumption | exact Mem.of_get at1 11 _ rfl)) ?_
   refine .mv rfl rfl ?_
   refine .m rfl rfl rfl rfl (.refl _) (.idxN sl_26_VZ (Intsss.sl (by assumption)) rfl rfl (by omega)) ?_
   refine .m rfl rfl rfl rfl (.refl _) (.loadRR on_23_B (by assumption) rfl (by omega)) ?_
   refine .m rfl rfl rfl rfl (.refl _) (.len sl_23_B rfl) (.m rfl rfl rfl rfl (.refl _) (.fieldAddr fo_30_0_B rfl) ?_)
   refine .m rfl rfl rfl rfl (.refl _) (.load on_2_A rfl (by first | assumption | exact Mem.of_get at4 0 _ rfl)) ?_
   refine .m rfl rfl rfl rfl (.refl _) (.cmp rfl rfl rfl) ?_
   refine .done ?_
   refine hK9 _ _ ?_
   refine .cond rfl (fun h30 => ?_) (fun h30 => ?_)
   ·
    try simp only [sps] at h30
    refine .seq (fun K10 hK10 => .region (.mv rfl (.nil (hK10 _ _ ?_))))
    refine .ret ?_
    refine hret _ _ ?_
    refine ⟨_, rfl, ?_⟩
    exact ⟨congrArg _ (B_false fun hh => by have := (hh.be a (by omega)).1; omega), hle⟩
   try simp only [sps] at h30
   refine .skip ?_
   refine hK8 _ _ (.seq (fun K11 hK11 => .region (.mv rfl (.nil (hK11 _ _ ?_)))))
   refine .block ?_
   refine .loopR (σ := Nat) [(1, some _), (3, some _), (4, some _), (5, some _)] (fun y => [(6, some (.int .i64 (y : Int)))]) (fun y H' => H4 = H' ∧ (y : Int) ≤ (m.be.getD a []).length ∧ ∀ y', y' < y → m.BeOk a y') (fun y => ((m.be.getD a []).length - y : Int).toNat) (0) ⟨rfl, rfl, rfl, rfl, trivial⟩ ⟨rfl, trivial⟩ ?_ ?_
   ·
    refine ⟨rfl, ?_⟩
    exact ⟨by omega, fun _ _ => by omega⟩
   rintro y _ ⟨rfl, hI⟩ KL2 hKL2
   refine .forget (fr' := [(6, some (.int .i64 (y : Int))), (1, some _), (3, some _), (4, some _), (5, some _)]) ⟨rfl, rfl, rfl, rfl, rfl, trivial⟩ ?_
   obtain ⟨hk2, ha2⟩ := hI
   refine .seq (fun K12 hK12 => .seq (fun K13 hK13 => .region (.mv rfl (.m rfl rfl rfl (.fieldAddr fo_34_3_VProf rfl) ?_))))
   refine .m rfl rfl rfl (.load on_26_VProf rfl (by first | assumption | exact Mem.of_get at1 11 _ rfl)) ?_
   refine .mv rfl ?_
   refine .m rfl rfl rfl (.idxN sl_26_VZ (Intsss.sl (by assumption)) rfl rfl (by omega)) ?_
   refine .m rfl rfl rfl (.loadRR on_23_B (by assumption) rfl (by omega)) ?_
   refine .m rfl rfl rfl (.len sl_23_B rfl) (.m rfl rfl rfl (.cmp rfl rfl rfl) (.nil (hK13 _ _ ?_)))
   refine .cond rfl (fun h38 => ?_) (fun h38 => ?_)
   ·
    simp only [sps] at h38
    have t1 := r1.2 y (by omega)
    have t2 := r2.2 y
    have t3 := i21.2 (m.s.src.getD a 0).toNat (by omega)
    have t4 := i21.2 (m.s.tgt.getD a 0).toNat (by omega)
    refine .skip ?_
    refine hK12 _ _ (.seq (fun K14 hK14 => ?_))
    refine .block ?_
    refine .seq (fun K15 hK15 => .region (.m rfl rfl rfl (.fieldAddr fo_34_3_VProf rfl) ?_))
    refine .m rfl rfl rfl (.load on_26_VProf rfl (by first | assumption | exact Mem.of_get at1 11 _ rfl)) ?_
    refine .mv rfl ?_
    refine .m rfl rfl rfl (.idxN sl_26_VZ (Intsss.sl (by assumption)) rfl rfl (by omega)) ?_
    refine .m rfl rfl rfl (.loadRR on_23_B (by assumption) rfl (by omega)) ?_
    refine .mv rfl ?_
    refine .m rfl rfl rfl (.idxN sl_23_B (Intss.sl (by assumption)) rfl rfl (by omega)) ?_
    refine .m rfl rfl rfl (.loadR on_22_B (by assumption) rfl (by omega)) ?_
    refine .mv rfl (.nil (hK15 _ _ (.seq (fun K16 hK16 => ?_))))
    refine .regionD mo_B (.q 0 (.q 1 (.q 2 (.q 3 (.q 4 (.q 5 (.q 6 (.q 7 (.q 8 (.q 9 (.q 10 (.q 11 (.q 12 (.q 13 (.q 14 (.q 15 (.q 16 (.q 17 (.q 18 (.q 19 (.q 20 (.q 21 (.q 22 (.q 23 (.q 24 (.q 25 (.q 26 (.q 27 (.q 28 (.c 29 0 (.q 30 (.q 31 (.done))))))))))))))))))))))))))))))))) (by kernel_rfl) ?_
    refine .mv rfl rfl (.m rfl rfl rfl rfl (.refl _) (.len sl_22_A rfl) (.m rfl rfl rfl rfl (.refl _) (.fieldAddr fo_34_2_VProf rfl) ?_))
    refine .m rfl rfl rfl rfl (.refl _) (.load on_23_B rfl (by first | assumption | exact Mem.of_get at1 10 _ rfl)) ?_
    refine .m rfl rfl rfl rfl (.refl _) (.fieldAddr fo_30_2_B rfl) ?_
    refine .m rfl rfl rfl rfl (.refl _) (.load on_22_B rfl (by first | assumption | exact Mem.of_get at3 2 _ rfl)) ?_
    refine .mv rfl rfl ?_
    refine .m rfl rfl rfl rfl (.refl _) (.idxN sl_22_A (by assumption) rfl rfl (by omega)) ?_
    refine .m rfl rfl rfl rfl (.refl _) (.loadI on_2_A (by assumption) rfl (by omega)) ?_
    refine .m rfl rfl rfl rfl (.refl _) (.idx1 sl_23_B (Intss.sl (by assumption)) rfl rfl (by omega) (by omega)) ?_
    refine .m rfl rfl rfl rfl (.refl _) (.loadR on_22_B (by assumption) rfl (by omega)) ?_
    refine .mv rfl rfl ?_
    refine .m rfl rfl rfl rfl (.refl _) (.idxN sl_22_A (by assumption) rfl rfl (by omega)) ?_
    refine .m rfl rfl rfl rfl (.refl _) (.loadI on_2_A (by assumption) rfl (by omega)) ?_
    refine .m rfl rfl rfl rfl (.refl _) (.cmp rfl rfl rfl) (.mv rfl rfl ?_)
    refine .split (fun h64 => ?_) (fun h64 => ?_)
    ·
     try simp only [sps] at h64
     refine .sg rfl rfl rfl rfl rfl rfl (.sg rfl rfl rfl rfl rfl rfl (.sg rfl rfl rfl rfl rfl rfl (.sg rfl rfl rfl rfl rfl rfl (.sg rfl rfl rfl rfl rfl rfl (.sg rfl rfl rfl rfl rfl rfl (.sg rfl rfl rfl rfl rfl rfl (.sg rfl rfl rfl rfl rfl rfl (.sg rfl rfl rfl rfl rfl rfl (.sg rfl rfl rfl rfl rfl rfl (.sg rfl rfl rfl rfl rfl rfl (.sg rfl rfl rfl rfl rfl rfl (.sg rfl rfl rfl rfl rfl rfl (.sgc rfl rfl rfl rfl rfl rfl (.sg rfl rfl rfl rfl rfl rfl (.m rfl rfl rfl rfl (.refl _) (.pickT rfl rfl) ?_)))))))))))))))
     refine .done ?_
     refine hK16 _ _ ?_
     refine .condT rfl ?_
     refine .seq (fun K17 hK17 => .region (.mv rfl (.nil (hK17 _ _ ?_))))
     refine .ret ?_
     refine hret _ _ ?_
     refine ⟨_, rfl, ?_⟩
     exact ⟨congrArg _ (B_false fun hh => h64 ((hh.be a (by omega)).2 y (by omega)).1), hle⟩
    try simp only [sps] at h64
    refine .mg rfl rfl rfl rfl rfl rfl (.refl _) (.fieldAddr fo_34_2_VProf rfl) ?_
    refine .mg rfl rfl rfl rfl rfl rfl (.refl _) (.load on_23_B rfl (by first | assumption | exact Mem.of_get at1 10 _ rfl)) ?_
    refine .mg rfl rfl rfl rfl rfl rfl (.refl _) (.fieldAddr fo_30_1_B rfl) ?_
    refine .mg rfl rfl rfl rfl rfl rfl (.refl _) (.load on_22_B rfl (by first | assumption | exact Mem.of_get at3 1 _ rfl)) ?_
    refine .mg rfl rfl rfl rfl rfl rfl (.refl _) (.move rfl) ?_
    refine .mg rfl rfl rfl rfl rfl rfl (.refl _) (.idxN sl_22_A (by assumption) rfl rfl (by omega)) ?_
    refine .mg rfl rfl rfl rfl rfl rfl (.refl _) (.loadI on_2_A (by assumption) rfl (by omega)) ?_
    refine .mg rfl rfl rfl rfl rfl rfl (.refl _) (.idx1 sl_23_B (Intss.sl (by assumption)) rfl rfl (by omega) (by omega)) ?_
    refine .mg rfl rfl rfl rfl rfl rfl (.refl _) (.loadR on_22_B (by assumption) rfl (by omega)) ?_
    refine .mg rfl rfl rfl rfl rfl rfl (.refl _) (.move rfl) ?_
    refine .mg rfl rfl rfl rfl rfl rfl (.refl _) (.idxN sl_22_A (by assumption) rfl rfl (by omega)) ?_
    refine .mg rfl rfl rfl rfl rfl rfl (.refl _) (.loadI on_2_A (by assumption) rfl (by omega)) ?_
    refine .mg rfl rfl rfl rfl rfl rfl (.refl _) (.move rfl) ?_
    refine .callQ0g rfl rfl rfl rfl rfl rfl rfl @Try.call102 rfl (l01Map_c) ?_
    refine .mg rfl rfl rfl rfl rfl rfl (.refl _) (.not rfl) (.m rfl rfl rfl rfl (.refl _) (.pickF rfl rfl) ?_)
    refine .done ?_
    refine hK16 _ _ ?_
    refine .cond rfl (fun h80 => ?_) (fun h80 => ?_)
    ·
     simp only [B_iff, B_not, Bool.not_eq_true', Bool.not_eq_false'] at h80
     refine .seq (fun K18 hK18 => .region (.mv rfl (.nil (hK18 _ _ ?_))))
     refine .ret ?_
     refine hret _ _ ?_
     refine ⟨_, rfl, ?_⟩
     exact ⟨congrArg _ (B_false fun hh => by rw [((hh.be a (by omega)).2 y (by omega)).2] at h80; cases h80), hle⟩
    simp only [B_iff, B_not, Bool.not_eq_true', Bool.not_eq_false'] at h80
    refine .skip ?_
    refine hK14 _ _ (.region (.mv rfl ?_))
    refine .m rfl rfl rfl (.add rfl rfl rfl (by omega) (by omega)) ?_
    refine .mv rfl (.nil ?_)
    refine hKL2 (y + 1) _ _ ?_ ?_ ⟨rfl, rfl, rfl, rfl, rfl, trivial⟩
    ·
     refine ⟨rfl, ?_⟩
     refine ⟨by omega, fun y' hx => ?_⟩
     by_cases hltq : y' < y
     · exact ha2 y' hltq
     · obtain rfl : y' = y := by omega
       exact ⟨by omega, h80⟩
    omega
   try simp only [sps] at h38
   refine .exit ?_
   refine hK7 _ _ (.region (.mv rfl ?_))
   refine .m rfl rfl rfl (.add rfl rfl rfl (by omega) (by omega)) ?_
   refine .mv rfl (.nil ?_)
   refine hKL1 (a + 1) _ _ ?_ ?_ ⟨rfl, rfl, rfl, rfl, trivial⟩
   ·
    refine ⟨rfl, ?_⟩
    refine ⟨by omega, fun a' hx => ?_⟩
    by_cases hltq : a' < a
    · exact ha1 a' hltq
    · obtain rfl : a' = a := by omega
      exact ⟨h30, fun y hy => ha2 y (by omega)⟩
   omega
  try simp only [sps] at h19
  refine .exit ?_
  refine hK3 _ _ (.seq (fun K19 hK19 => .seq (fun K20 hK20 => .region (.mv rfl (.nil (hK20 _ _ ?_))))))
  refine .block ?_
  refine .loopR (σ := Nat) [(1, some _), (3, some _), (4, some _)] (fun b => [(8, some (.int .i64 (b : Int)))]) (fun b H' => H4 = H' ∧ (b : Int) ≤ m.bh.length ∧ ∀ b', b' < b → ((m.bh.getD b' []).length : Int) = m.s.obj ∧ ∀ x, x < (m.bh.getD b' []).length → m.BhOk b' x) (fun b => (m.bh.length - b : Int).toNat) (0) ⟨rfl, rfl, rfl, trivial⟩ ⟨rfl, trivial⟩ ?_ ?_
  ·
   refine ⟨rfl, ?_⟩
   exact ⟨by omega, fun _ _ => by omega⟩
  rintro b _ ⟨rfl, hI⟩ KL3 hKL3
  refine .forget (fr' := [(8, some (.int .i64 (b : Int))), (1, some _), (3, some _), (4, some _)]) ⟨rfl, rfl, rfl, rfl, trivial⟩ ?_
  obtain ⟨hk3, ha3⟩ := hI
  refine .seq (fun K21 hK21 => .seq (fun K22 hK22 => .region (.mv rfl (.m rfl rfl rfl (.fieldAddr fo_34_4_VProf rfl) ?_))))
  refine .m rfl rfl rfl (.load on_26_VProf rfl (by first | assumption | exact Mem.of_get at1 12 _ rfl)) ?_
  refine .m rfl rfl rfl (.len sl_26_VZ rfl) (.m rfl rfl rfl (.cmp rfl rfl rfl) (.nil (hK22 _ _ ?_)))
  refine .cond rfl (fun h85 => ?_) (fun h85 => ?_)
  ·
   simp only [sps] at h85
   have r1 := i41.2 b (by omega)
   have r2 := s8 b
   have r3 := hz.h hD (b := b) (by omega)
   refine .skip ?_
   refine hK21 _ _ (.seq (fun K23 hK23 => ?_))
   refine .block ?_
   refine .seq (fun K24 hK24 => .seq (fun K25 hK25 => ?_))
   refine .regionD mo_B (.q 0 (.q 1 (.q 2 (.q 3 (.q 4 (.q 5 (.q 6 (.q 7 (.q 8 (.done)))))))))) (by kernel_rfl) ?_
   refine .m rfl rfl rfl rfl (.refl _) (.fieldAddr fo_34_4_VProf rfl) ?_
   refine .m rfl rfl rfl rfl (.refl _) (.load on_26_VProf rfl (by first | assumption | exact Mem.of_get at1 12 _ rfl)) ?_
   refine .mv rfl rfl ?_
   refine .m rfl rfl rfl rfl (.refl _) (.idxN sl_26_VZ (Intsss.sl (by assumption)) rfl rfl (by omega)) ?_
   refine .m rfl rfl rfl rfl (.refl _) (.loadRR on_23_B (by assumption) rfl (by omega)) ?_
   refine .m rfl rfl rfl rfl (.refl _) (.len sl_23_B rfl) (.m rfl rfl rfl rfl (.refl _) (.fieldAddr fo_30_0_B rfl) ?_)
   refine .m rfl rfl rfl rfl (.refl _) (.load on_2_A rfl (by first | assumption | exact Mem.of_get at3 0 _ rfl)) ?_
   refine .m rfl rfl rfl rfl (.refl _) (.cmp rfl rfl rfl) ?_
   refine .done ?_
   refine hK25 _ _ ?_
   refine .cond rfl (fun h96 => ?_) (fun h96 => ?_)
   ·
    try simp only [sps] at h96
    refine .seq (fun K26 hK26 => .region (.mv rfl (.nil (hK26 _ _ ?_))))
    refine .ret ?_
    refine hret _ _ ?_
    refine ⟨_, rfl, ?_⟩
    exact ⟨congrArg _ (B_false fun hh => by have := (hh.bh b (by omega)).1; omega), hle⟩
   try simp only [sps] at h96
   refine .skip ?_
   refine hK24 _ _ (.seq (fun K27 hK27 => .region (.mv rfl (.nil (hK27 _ _ ?_)))))
   refine .block ?_
   refine .loopR (σ := Nat) [(1, some _), (3, some _), (4, some _), (8, some _)] (fun x => [(9, some (.int .i64 (x : Int)))]) (fun x H' => H4 = H' ∧ (x : Int) ≤ (m.bh.getD b []).length ∧ ∀ x', x' < x → m.BhOk b x') (fun x => ((m.bh.getD b []).length - x : Int).toNat) (0) ⟨rfl, rfl, rfl, rfl, trivial⟩ ⟨rfl, trivial⟩ ?_ ?_
   ·
    refine ⟨rfl, ?_⟩
    exact ⟨by omega, fun _ _ => by omega⟩
   rintro x _ ⟨rfl, hI⟩ KL4 hKL4
   refine .forget (fr' := [(9, some (.int .i64 (x : Int))), (1, some _), (3, some _), (4, some _), (8, some _)]) ⟨rfl, rfl, rfl, rfl, rfl, trivial⟩ ?_
   obtain ⟨hk4, ha4⟩ := hI
   refine .seq (fun K28 hK28 => .seq (fun K29 hK29 => .region (.mv rfl (.m rfl rfl rfl (.fieldAddr fo_34_4_VProf rfl) ?_))))
   refine .m rfl rfl rfl (.load on_26_VProf rfl (by first | assumption | exact Mem.of_get at1 12 _ rfl)) ?_
   refine .mv rfl ?_
   refine .m rfl rfl rfl (.idxN sl_26_VZ (Intsss.sl (by assumption)) rfl rfl (by omega)) ?_
   refine .m rfl rfl rfl (.loadRR on_23_B (by assumption) rfl (by omega)) ?_
   refine .m rfl rfl rfl (.len sl_23_B rfl) (.m rfl rfl rfl (.cmp rfl rfl rfl) (.nil (hK29 _ _ ?_)))
   refine .cond rfl (fun h104 => ?_) (fun h104 => ?_)
   ·
    simp only [sps] at h104
    have t1 := r1.2 x (by omega)
    have t2 := r2.2 x
    have t3 := i21.2 x (by omega)
    have t4 := hz.row x (by omega)
    refine .skip ?_
    refine hK28 _ _ (.seq (fun K30 hK30 => ?_))
    refine .block ?_
    refine .seq (fun K31 hK31 => .region (.m rfl rfl rfl (.fieldAddr fo_34_4_VProf rfl) ?_))
    refine .m rfl rfl rfl (.load on_26_VProf rfl (by first | assumption | exact Mem.of_get at1 12 _ rfl)) ?_
    refine .mv rfl ?_
    refine .m rfl rfl rfl (.idxN sl_26_VZ (Intsss.sl (by assumption)) rfl rfl (by omega)) ?_
    refine .m rfl rfl rfl (.loadRR on_23_B (by assumption) rfl (by omega)) ?_
    refine .mv rfl ?_
    refine .m rfl rfl rfl (.idxN sl_23_B (Intss.sl (by assumption)) rfl rfl (by omega)) ?_
    refine .m rfl rfl rfl (.loadR on_22_B (by assumption) rfl (by omega)) ?_
    refine .mv rfl (.nil (hK31 _ _ (.seq (fun K32 hK32 => ?_))))
    refine .regionD mo_B (.q 0 (.q 1 (.q 2 (.q 3 (.q 4 (.q 5 (.q 6 (.q 7 (.q 8 (.q 9 (.q 10 (.q 11 (.q 12 (.q 13 (.q 14 (.q 15 (.q 16 (.q 17 (.q 18 (.q 19 (.q 20 (.q 21 (.q 22 (.q 23 (.q 24 (.q 25 (.q 26 (.q 27 (.q 28 (.c 29 0 (.q 30 (.q 31 (.done))))))))))))))))))))))))))))))))) (by kernel_rfl) ?_
    refine .mv rfl rfl (.m rfl rfl rfl rfl (.refl _) (.len sl_22_A rfl) (.m rfl rfl rfl rfl (.refl _) (.fieldAddr fo_34_2_VProf rfl) ?_))
    refine .m rfl rfl rfl rfl (.refl _) (.load on_23_B rfl (by first | assumption | exact Mem.of_get at1 10 _ rfl)) ?_
    refine .mv rfl rfl ?_
    refine .m rfl rfl rfl rfl (.refl _) (.idxN sl_23_B (Intss.sl (by assumption)) rfl rfl (by omega)) ?_
    refine .m rfl rfl rfl rfl (.refl _) (.loadR on_22_B (by assumption) rfl (by omega)) ?_
    refine .m rfl rfl rfl rfl (.refl _) (.fieldAddr fo_30_1_B rfl) ?_
    refine .m rfl rfl rfl rfl (.refl _) (.load on_22_B rfl (by first | assumption | exact Mem.of_get at4 1 _ rfl)) ?_
    refine .mv rfl rfl ?_
    refine .m rfl rfl rfl rfl (.refl _) (.idxN sl_22_A (by assumption) rfl rfl (by omega)) ?_
    refine .m rfl rfl rfl rfl (.refl _) (.loadI on_2_A (by assumption) rfl (by omega)) ?_
    refine .m rfl rfl rfl rfl (.refl _) (.idx1 sl_22_A (by assumption) rfl rfl (by omega) (by omega)) ?_
    refine .m rfl rfl rfl rfl (.refl _) (.loadI on_2_A (by assumption) rfl (by omega)) ?_
    refine .m rfl rfl rfl rfl (.refl _) (.cmp rfl rfl rfl) (.mv rfl rfl ?_)
    refine .split (fun h130 => ?_) (fun h130 => ?_)
    ·
     try simp only [sps] at h130
     refine .sg rfl rfl rfl rfl rfl rfl (.sg rfl rfl rfl rfl rfl rfl (.sg rfl rfl rfl rfl rfl rfl (.sg rfl rfl rfl rfl rfl rfl (.sg rfl rfl rfl rfl rfl rfl (.sg rfl rfl rfl rfl rfl rfl (.sg rfl rfl rfl rfl rfl rfl (.sg rfl rfl rfl rfl rfl rfl (.sg rfl rfl rfl rfl rfl rfl (.sg rfl rfl rfl rfl rfl rfl (.sg rfl rfl rfl rfl rfl rfl (.sg rfl rfl rfl rfl rfl rfl (.sg rfl rfl rfl rfl rfl rfl (.sgc rfl rfl rfl rfl rfl rfl (.sg rfl rfl rfl rfl rfl rfl (.m rfl rfl rfl rfl (.refl _) (.pickT rfl rfl) ?_)))))))))))))))
     refine .done ?_
     refine hK32 _ _ ?_
     refine .condT rfl ?_
     refine .seq (fun K33 hK33 => .region (.mv rfl (.nil (hK33 _ _ ?_))))
     refine .ret ?_
     refine hret _ _ ?_
     refine ⟨_, rfl, ?_⟩
     exact ⟨congrArg _ (B_false fun hh => h130 ((hh.bh b (by omega)).2 x (by omega)).1), hle⟩
    try simp only [sps] at h130
    refine .mg rfl rfl rfl rfl rfl rfl (.refl _) (.fieldAddr fo_34_2_VProf rfl) ?_
    refine .mg rfl rfl rfl rfl rfl rfl (.refl _) (.load on_23_B rfl (by first | assumption | exact Mem.of_get at1 10 _ rfl)) ?_
    refine .mg rfl rfl rfl rfl rfl rfl (.refl _) (.move rfl) ?_
    refine .mg rfl rfl rfl rfl rfl rfl (.refl _) (.idxN sl_23_B (Intss.sl (by assumption)) rfl rfl (by omega)) ?_
    refine .mg rfl rfl rfl rfl rfl rfl (.refl _) (.loadR on_22_B (by assumption) rfl (by omega)) ?_
    refine .mg rfl rfl rfl rfl rfl rfl (.refl _) (.fieldAddr fo_30_2_B rfl) ?_
    refine .mg rfl rfl rfl rfl rfl rfl (.refl _) (.load on_22_B rfl (by first | assumption | exact Mem.of_get at4 2 _ rfl)) ?_
    refine .mg rfl rfl rfl rfl rfl rfl (.refl _) (.move rfl) ?_
    refine .mg rfl rfl rfl rfl rfl rfl (.refl _) (.idxN sl_22_A (by assumption) rfl rfl (by omega)) ?_
    refine .mg rfl rfl rfl rfl rfl rfl (.refl _) (.loadI on_2_A (by assumption) rfl (by omega)) ?_
    refine .mg rfl rfl rfl rfl rfl rfl (.refl _) (.idx1 sl_22_A (by assumption) rfl rfl (by omega) (by omega)) ?_
    refine .mg rfl rfl rfl rfl rfl rfl (.refl _) (.loadI on_2_A (by assumption) rfl (by omega)) ?_
    refine .mg rfl rfl rfl rfl rfl rfl (.refl _) (.move rfl) ?_
    refine .callQ0g rfl rfl rfl rfl rfl rfl rfl @Try.call102 rfl (l01Map_c) ?_
    refine .mg rfl rfl rfl rfl rfl rfl (.refl _) (.not rfl) (.m rfl rfl rfl rfl (.refl _) (.pickF rfl rfl) ?_)
    refine .done ?_
    refine hK32 _ _ ?_
    refine .cond rfl (fun h146 => ?_) (fun h146 => ?_)
    ·
     simp only [B_iff, B_not, Bool.not_eq_true', Bool.not_eq_false'] at h146
     refine .seq (fun K34 hK34 => .region (.mv rfl (.nil (hK34 _ _ ?_))))
     refine .ret ?_
     refine hret _ _ ?_
     refine ⟨_, rfl, ?_⟩
     exact ⟨congrArg _ (B_false fun hh => by rw [((hh.bh b (by omega)).2 x (by omega)).2] at h146; cases h146), hle⟩
    simp only [B_iff, B_not, Bool.not_eq_true', Bool.not_eq_false'] at h146
    refine .skip ?_
    refine hK30 _ _ (.region (.mv rfl ?_))
    refine .m rfl rfl rfl (.add rfl rfl rfl (by omega) (by omega)) ?_
    refine .mv rfl (.nil ?_)
    refine hKL4 (x + 1) _ _ ?_ ?_ ⟨rfl, rfl, rfl, rfl, rfl, trivial⟩
    ·
     refine ⟨rfl, ?_⟩
     refine ⟨by omega, fun x' hx => ?_⟩
     by_cases hltq : x' < x
     · exact ha4 x' hltq
     · obtain rfl : x' = x := by omega
       exact ⟨by omega, h146⟩
    omega
   try simp only [sps] at h104
   refine .exit ?_
   refine hK23 _ _ (.region (.mv rfl ?_))
   refine .m rfl rfl rfl (.add rfl rfl rfl (by omega) (by omega)) ?_
   refine .mv rfl (.nil ?_)
   refine hKL3 (b + 1) _ _ ?_ ?_ ⟨rfl, rfl, rfl, rfl, trivial⟩
   ·
    refine ⟨rfl, ?_⟩
    refine ⟨by omega, fun b' hx => ?_⟩
    by_cases hltq : b' < b
    · exact ha3 b' hltq
    · obtain rfl : b' = b := by omega
      exact ⟨h96, fun x hx => ha4 x (by omega)⟩
   omega
  try simp only [sps] at h85
  refine .exit ?_
  refine hK19 _ _ (.seq (fun K35 hK35 => .region (.mv rfl (.nil (hK35 _ _ ?_)))))
  refine .ret ?_
  refine hret _ _ ?_
  refine ⟨_, rfl, ?_⟩
  exact ⟨congrArg _ (B_true ⟨fun a ha => ha1 a (by omega), fun b hb => ha3 b (by omega)⟩), hle⟩
set_option maxHeartbeats 8000000 in
theorem l22Laws_c {m : Prof} {p : ProfP} {H : GHeap} (hin : m.In H p := by assumption) (hS : m.Shape := by assumption) :
    GCalls Try.prog 92 [.agg (m.cells p).toArray] H (Ret (.bool (B (m.Acts ∧ m.Mix))) H) := by
  refine GCalls.ret rfl ?_
  refine GCalls.body (N := 244) (rs := [.tmp 2]) Try.func92 rfl rfl rfl rfl (fun Qx hret hend => ?_)
  refine .forget (fr' := [(0, some _)]) ⟨rfl, trivial⟩ ?_
  have hle := GHeap.Le.refl H
  have base_hin := hin
  have hC := hS.s.1
  have hD := hS.t.1
  have q1 := hC.il
  have q2 := hD.il
  have q3 := hC.cl
  have q4 := hD.cl
  have q5 := hS.z.sl
  have q6 := hS.z.bl
  have q7 := hS.z.hl
  have q8 := hC.obj
  have q9 := hD.obj
  have q10 := hC.n40
  have q11 := hD.n40
  have q12 := hC.tl
  have q13 := hD.tl
  refine .seq (fun K1 hK1 => .region ?_)
  refine .r rfl rfl rfl (.boxR rfl sz_34_VProf rfl) ?_
  rintro _ H1 ⟨g1, rfl, le1, ge1, at1⟩
  replace hle := hle.trans le1
  have lt_at1 := GHeap.ltg at1
  replace hin := base_hin.mono hle
  have hb1 : Prof.At _ g1 0 m p := ⟨Mem.of_get at1, hin⟩
  obtain ⟨fs1, ft1, c101, c111, c121, i21, i31, i41⟩ := hb1.get
  have hm1 : MemN _ _ _ _ _ := ⟨rfl, hb1.1⟩
  have hi1 := hb1.2
  have hms1 : MemN _ _ _ _ _ := ⟨rfl, fs1.1⟩
  have his1 := fs1.2
  have hmt1 : MemN _ _ _ _ _ := ⟨rfl, ft1.1⟩
  have hit1 := ft1.2
  refine .mv rfl (.nil (hK1 _ _ (.seq (fun K2 hK2 => ?_))))
  refine .regionD mo_B (.q 0 (.q 1 (.q 2 (.q 3 (.or (.c 4 1 (.c 5 1 (.c 6 1 (.c 7 0 .done)))) (.c 5 1 (.c 4 1 (.c 6 1 (.c 7 0 .done))))))))) (by kernel_rfl) ?_
  refine .m rfl rfl rfl rfl (.refl _) (.fieldAddr fo_34_0_VProf rfl) ?_
  refine .m rfl rfl rfl rfl (.refl _) (.loadM ag_30_D rfl (by assumption)) ?_
  refine .m rfl rfl rfl rfl (.refl _) (.fieldAddr fo_34_1_VProf rfl) ?_
  refine .m rfl rfl rfl rfl (.refl _) (.loadM ag_30_D rfl (by assumption)) ?_
  refine .two [(1, some _)] rfl rfl rfl rfl rfl rfl rfl rfl rfl rfl rfl rfl rfl rfl rfl rfl rfl rfl ze_30_E rfl sz_30_D rfl rfl rfl rfl rfl (by rfl) (by rfl) rfl rfl rfl rfl rfl ⟨rfl, trivial⟩ rfl rfl (.refl _) ?_
  intro g3 g4 H4 fr4 le4 ge3 ge4 at3 at4 hsub4
  replace hle := hle.trans le4
  replace at1 := le4.2 _ _ at1
  have lt_at3 := GHeap.ltg at3
  have lt_at4 := GHeap.ltg at4
  replace hin := base_hin.mono hle
  clear hb1 fs1 ft1 c101 c111 c121 i21 i31 i41 hm1 hi1 hms1 his1 hmt1 hit1
  have hb1 : Prof.At _ g1 0 m p := ⟨Mem.of_get at1, hin⟩
  obtain ⟨fs1, ft1, c101, c111, c121, i21, i31, i41⟩ := hb1.get
  have hm1 : MemN _ _ _ _ _ := ⟨rfl, hb1.1⟩
  have hi1 := hb1.2
  have hms1 : MemN _ _ _ _ _ := ⟨rfl, fs1.1⟩
  have his1 := fs1.2
  have hmt1 : MemN _ _ _ _ _ := ⟨rfl, ft1.1⟩
  have hit1 := ft1.2
  have hb3 : Cat.At _ g3 0 m.s p.s := ⟨Mem.of_get at3, his1⟩
  obtain ⟨c03, c13, c23, c33, c43, i13, i23, i33, i43⟩ := hb3.get
  have hm3 : MemN _ _ _ _ _ := ⟨rfl, hb3.1⟩
  have hi3 := hb3.2
  have hb4 : Cat.At _ g4 0 m.t p.t := ⟨Mem.of_get at4, hit1⟩
  obtain ⟨c04, c14, c24, c34, c44, i14, i24, i34, i44⟩ := hb4.get
  have hm4 : MemN _ _ _ _ _ := ⟨rfl, hb4.1⟩
  have hi4 := hb4.2
  refine hK2 _ _ ?_
  refine .forget hsub4 ?_
  refine .seq (fun K3 hK3 => .seq (fun K4 hK4 => .region (.mv rfl (.nil (hK4 _ _ ?_)))))
  refine .block ?_
  refine .loopR (σ := Nat) [(1, some _), (3, some _), (4, some _)] (fun y => [(5, some (.int .i64 (y : Int)))]) (fun y H' => St [] H4 H' ∧ (y : Int) ≤ m.t.obj ∧ ∀ y', y' < y → (∀ x : Nat, (x : Int) < m.s.obj → NoMove ((m.be.getD (m.s.idn.getD x 0).toNat []).getD y' []) ∧ NoMove ((m.bh.getD (m.t.idn.getD y' 0).toNat []).getD x [])) ∧ ∀ a : Nat, a < m.s.src.length → ∀ b : Nat, b < m.s.src.length → 0 ≤ (m.s.comp.getD a []).getD b 0 → (m.be.getD ((m.s.comp.getD a []).getD b 0).toNat []).getD y' [] = thenL ((m.be.getD b []).getD y' []) ((m.be.getD a []).getD y' [])) (fun y => (m.t.obj - y : Int).toNat) (0) ⟨rfl, rfl, rfl, trivial⟩ ⟨rfl, trivial⟩ ?_ ?_
  ·
   refine ⟨.refl _ _, ?_⟩
   exact ⟨by omega, fun _ _ => by omega⟩
  rintro y HL1 ⟨lst1, hI⟩ KL1 hKL1
  refine .forget (fr' := [(5, some (.int .i64 (y : Int))), (1, some _), (3, some _), (4, some _)]) ⟨rfl, rfl, rfl, rfl, trivial⟩ ?_
  replace hle := hle.st lst1 (fun k hk => trivial)
  replace at1 := lst1.same _ _ trivial at1
  replace at3 := lst1.same _ _ trivial at3
  replace at4 := lst1.same _ _ trivial at4
  replace hin := base_hin.mono hle
  clear hb1 fs1 ft1 c101 c111 c121 i21 i31 i41 hm1 hi1 hms1 his1 hmt1 hit1
  have hb1 : Prof.At _ g1 0 m p := ⟨Mem.of_get at1, hin⟩
  obtain ⟨fs1, ft1, c101, c111, c121, i21, i31, i41⟩ := hb1.get
  have hm1 : MemN _ _ _ _ _ := ⟨rfl, hb1.1⟩
  have hi1 := hb1.2
  have hms1 : MemN _ _ _ _ _ := ⟨rfl, fs1.1⟩
  have his1 := fs1.2
  have hmt1 : MemN _ _ _ _ _ := ⟨rfl, ft1.1⟩
  have hit1 := ft1.2
  clear hb3 c03 c13 c23 c33 c43 i13 i23 i33 i43 hm3 hi3
  have hb3 : Cat.At _ g3 0 m.s p.s := ⟨Mem.of_get at3, his1⟩
  obtain ⟨c03, c13, c23, c33, c43, i13, i23, i33, i43⟩ := hb3.get
  have hm3 : MemN _ _ _ _ _ := ⟨rfl, hb3.1⟩
  have hi3 := hb3.2
  clear hb4 c04 c14 c24 c34 c44 i14 i24 i34 i44 hm4 hi4
  have hb4 : Cat.At _ g4 0 m.t p.t := ⟨Mem.of_get at4, hit1⟩
  obtain ⟨c04, c14, c24, c34, c44, i14, i24, i34, i44⟩ := hb4.get
  have hm4 : MemN _ _ _ _ _ := ⟨rfl, hb4.1⟩
  have hi4 := hb4.2
  obtain ⟨hk1, ha1⟩ := hI
  refine .seq (fun K5 hK5 => .seq (fun K6 hK6 => .region (.mv rfl (.m rfl rfl rfl (.fieldAddr fo_30_0_B rfl) ?_))))
  refine .m rfl rfl rfl (.load on_2_A rfl (by first | assumption | exact Mem.of_get at4 0 _ rfl)) ?_
  refine .m rfl rfl rfl (.cmp rfl rfl rfl) (.nil (hK6 _ _ ?_))
  refine .cond rfl (fun h25 => ?_) (fun h25 => ?_)
  ·
   simp only [sps] at h25
   have b1 := hD.idn y (by omega)
   refine .skip ?_
   refine hK5 _ _ (.seq (fun K7 hK7 => ?_))
   refine .block ?_
   refine .seq (fun K8 hK8 => .seq (fun K9 hK9 => .region (.mv rfl (.nil (hK9 _ _ ?_)))))
   refine .block ?_
   refine .loopR (σ := Nat) [(1, some _), (3, some _), (4, some _), (5, some _)] (fun x => [(6, some (.int .i64 (x : Int)))]) (fun x H' => HL1 = H' ∧ (x : Int) ≤ m.s.obj ∧ ∀ x', x' < x → NoMove ((m.be.getD (m.s.idn.getD x' 0).toNat []).getD y []) ∧ NoMove ((m.bh.getD (m.t.idn.getD y 0).toNat []).getD x' [])) (fun x => (m.s.obj - x : Int).toNat) (0) ⟨rfl, rfl, rfl, rfl, trivial⟩ ⟨rfl, trivial⟩ ?_ ?_
   ·
    refine ⟨rfl, ?_⟩
    exact ⟨by omega, fun _ _ => by omega⟩
   rintro x _ ⟨rfl, hI⟩ KL2 hKL2
   refine .forget (fr' := [(6, some (.int .i64 (x : Int))), (1, some _), (3, some _), (4, some _), (5, some _)]) ⟨rfl, rfl, rfl, rfl, rfl, trivial⟩ ?_
   obtain ⟨hk2, ha2⟩ := hI
   refine .seq (fun K10 hK10 => .seq (fun K11 hK11 => .region (.mv rfl (.m rfl rfl rfl (.fieldAddr fo_30_0_B rfl) ?_))))
   refine .m rfl rfl rfl (.load on_2_A rfl (by first | assumption | exact Mem.of_get at3 0 _ rfl)) ?_
   refine .m rfl rfl rfl (.cmp rfl rfl rfl) (.nil (hK11 _ _ ?_))
   refine .cond rfl (fun h31 => ?_) (fun h31 => ?_)
   ·
    simp only [sps] at h31
    have r1 := hC.idn x (by omega)
    have r3 := hS.by (a := (m.s.idn.getD x 0).toNat) (y := y) (by omega) (by omega)
    rw [(hC.ids x (by omega)).1, (hC.ids x (by omega)).2, Int.toNat_natCast] at r3
    have s3 := hS.hx (b := (m.t.idn.getD y 0).toNat) (x := x) (by omega) (by omega)
    rw [(hD.ids y (by omega)).1, (hD.ids y (by omega)).2, Int.toNat_natCast] at s3
    have r2 := i31.2 (m.s.idn.getD x 0).toNat (by omega)
    have r4 := r2.2 y (by omega)
    have s2 := i41.2 (m.t.idn.getD y 0).toNat (by omega)
    have s4 := s2.2 x (by omega)
    refine .skip ?_
    refine hK10 _ _ (.seq (fun K12 hK12 => ?_))
    refine .block ?_
    refine .seq (fun K13 hK13 => ?_)
    refine .regionD mo_B (.q 0 (.q 1 (.q 2 (.q 3 (.q 4 (.q 5 (.q 6 (.q 7 (.q 8 (.q 9 (.q 10 (.q 11 (.c 12 0 (.q 13 (.q 14 (.q 15 (.q 16 (.q 17 (.q 18 (.q 19 (.q 20 (.q 21 (.q 22 (.q 23 (.q 24 (.q 25 (.q 26 (.c 27 0 (.q 28 (.q 29 (.done))))))))))))))))))))))))))))))) (by kernel_rfl) ?_
    refine .m rfl rfl rfl rfl (.refl _) (.fieldAddr fo_34_3_VProf rfl) ?_
    refine .m rfl rfl rfl rfl (.refl _) (.load on_26_VProf rfl (by first | assumption | exact Mem.of_get at1 11 _ rfl)) ?_
    refine .m rfl rfl rfl rfl (.refl _) (.fieldAddr fo_30_3_B rfl) ?_
    refine .m rfl rfl rfl rfl (.refl _) (.load on_22_B rfl (by first | assumption | exact Mem.of_get at3 3 _ rfl)) ?_
    refine .mv rfl rfl ?_
    refine .m rfl rfl rfl rfl (.refl _) (.idxN sl_22_A (by assumption) rfl rfl (by omega)) ?_
    refine .m rfl rfl rfl rfl (.refl _) (.loadI on_2_A (by assumption) rfl (by omega)) ?_
    refine .m rfl rfl rfl rfl (.refl _) (.idx1 sl_26_VZ (Intsss.sl (by assumption)) rfl rfl (by omega) (by omega)) ?_
    refine .m rfl rfl rfl rfl (.refl _) (.loadRR on_23_B (by assumption) rfl (by omega)) ?_
    refine .mv rfl rfl ?_
    refine .m rfl rfl rfl rfl (.refl _) (.idxN sl_23_B (Intss.sl (by assumption)) rfl rfl (by omega)) ?_
    refine .m rfl rfl rfl rfl (.refl _) (.loadR on_22_B (by assumption) rfl (by omega)) ?_
    refine .callQ0 rfl rfl rfl rfl rfl @Try.call131 rfl (l22Calm_c) ?_
    refine .m rfl rfl rfl rfl (.refl _) (.not rfl) (.mv rfl rfl ?_)
    refine .split (fun h48 => ?_) (fun h48 => ?_)
    ·
     try simp only [sps] at h48
     refine .sg rfl rfl rfl rfl rfl rfl (.sg rfl rfl rfl rfl rfl rfl (.sg rfl rfl rfl rfl rfl rfl (.sg rfl rfl rfl rfl rfl rfl (.sg rfl rfl rfl rfl rfl rfl (.sg rfl rfl rfl rfl rfl rfl (.sg rfl rfl rfl rfl rfl rfl (.sg rfl rfl rfl rfl rfl rfl (.sg rfl rfl rfl rfl rfl rfl (.sg rfl rfl rfl rfl rfl rfl (.sg rfl rfl rfl rfl rfl rfl (.sg rfl rfl rfl rfl rfl rfl (.sgc rfl rfl rfl rfl rfl rfl (.sg rfl rfl rfl rfl rfl rfl (.m rfl rfl rfl rfl (.refl _) (.pickT rfl rfl) ?_))))))))))))))
     refine .done ?_
     refine hK13 _ _ ?_
     refine .condT rfl ?_
     refine .seq (fun K14 hK14 => .region (.mv rfl (.nil (hK14 _ _ ?_))))
     refine .ret ?_
     refine hret _ _ ?_
     refine ⟨_, rfl, ?_⟩
     exact ⟨congrArg _ (B_false fun hh => h48 (hh.1.idb y (by omega) x (by omega)).1), hle⟩
    try simp only [sps] at h48
    refine .mg rfl rfl rfl rfl rfl rfl (.refl _) (.fieldAddr fo_34_4_VProf rfl) ?_
    refine .mg rfl rfl rfl rfl rfl rfl (.refl _) (.load on_26_VProf rfl (by first | assumption | exact Mem.of_get at1 12 _ rfl)) ?_
    refine .mg rfl rfl rfl rfl rfl rfl (.refl _) (.fieldAddr fo_30_3_B rfl) ?_
    refine .mg rfl rfl rfl rfl rfl rfl (.refl _) (.load on_22_B rfl (by first | assumption | exact Mem.of_get at4 3 _ rfl)) ?_
    refine .mg rfl rfl rfl rfl rfl rfl (.refl _) (.move rfl) ?_
    refine .mg rfl rfl rfl rfl rfl rfl (.refl _) (.idxN sl_22_A (by assumption) rfl rfl (by omega)) ?_
    refine .mg rfl rfl rfl rfl rfl rfl (.refl _) (.loadI on_2_A (by assumption) rfl (by omega)) ?_
    refine .mg rfl rfl rfl rfl rfl rfl (.refl _) (.idx1 sl_26_VZ (Intsss.sl (by assumption)) rfl rfl (by omega) (by omega)) ?_
    refine .mg rfl rfl rfl rfl rfl rfl (.refl _) (.loadRR on_23_B (by assumption) rfl (by omega)) ?_
    refine .mg rfl rfl rfl rfl rfl rfl (.refl _) (.move rfl) ?_
    refine .mg rfl rfl rfl rfl rfl rfl (.refl _) (.idxN sl_23_B (Intss.sl (by assumption)) rfl rfl (by omega)) ?_
    refine .mg rfl rfl rfl rfl rfl rfl (.refl _) (.loadR on_22_B (by assumption) rfl (by omega)) ?_
    refine .callQ0g rfl rfl rfl rfl rfl rfl rfl @Try.call131 rfl (l22Calm_c) ?_
    refine .mg rfl rfl rfl rfl rfl rfl (.refl _) (.not rfl) (.m rfl rfl rfl rfl (.refl _) (.pickF rfl rfl) ?_)
    refine .done ?_
    refine hK13 _ _ ?_
    refine .cond rfl (fun h63 => ?_) (fun h63 => ?_)
    ·
     try simp only [sps] at h63
     refine .seq (fun K15 hK15 => .region (.mv rfl (.nil (hK15 _ _ ?_))))
     refine .ret ?_
     refine hret _ _ ?_
     refine ⟨_, rfl, ?_⟩
     exact ⟨congrArg _ (B_false fun hh => h63 (hh.1.idb y (by omega) x (by omega)).2), hle⟩
    try simp only [sps] at h63
    refine .skip ?_
    refine hK12 _ _ (.region (.mv rfl ?_))
    refine .m rfl rfl rfl (.add rfl rfl rfl (by omega) (by omega)) ?_
    refine .mv rfl (.nil ?_)
    refine hKL2 (x + 1) _ _ ?_ ?_ ⟨rfl, rfl, rfl, rfl, rfl, trivial⟩
    ·
     refine ⟨rfl, ?_⟩
     refine ⟨by omega, fun x' hx => ?_⟩
     by_cases hltq : x' < x
     · exact ha2 x' hltq
     · obtain rfl : x' = x := by omega
       exact ⟨h48, h63⟩
    omega
   try simp only [sps] at h31
   refine .exit ?_
   refine hK8 _ _ (.seq (fun K16 hK16 => .region (.mv rfl (.nil (hK16 _ _ ?_)))))
   refine .block ?_
   refine .loopR (σ := Nat) [(1, some _), (3, some _), (4, some _), (5, some _)] (fun a => [(7, some (.int .i64 (a : Int)))]) (fun a H' => St [] HL1 H' ∧ (a : Int) ≤ m.s.src.length ∧ ∀ a', a' < a → ∀ b : Nat, b < m.s.src.length → 0 ≤ (m.s.comp.getD a' []).getD b 0 → (m.be.getD ((m.s.comp.getD a' []).getD b 0).toNat []).getD y [] = thenL ((m.be.getD b []).getD y []) ((m.be.getD a' []).getD y [])) (fun a => (m.s.src.length - a : Int).toNat) (0) ⟨rfl, rfl, rfl, rfl, trivial⟩ ⟨rfl, trivial⟩ ?_ ?_
   ·
    refine ⟨.refl _ _, ?_⟩
    exact ⟨by omega, fun _ _ => by omega⟩
   rintro a HL3 ⟨lst3, hI⟩ KL3 hKL3
   refine .forget (fr' := [(7, some (.int .i64 (a : Int))), (1, some _), (3, some _), (4, some _), (5, some _)]) ⟨rfl, rfl, rfl, rfl, rfl, trivial⟩ ?_
   replace hle := hle.st lst3 (fun k hk => trivial)
   replace lst1 := lst1.st lst3 (fun k hk ho => by simp only [out, and_true] at ho ⊢ <;> first | exact ho | exact ho.1 | exact ho.2 | exact ho.2.1 | exact ho.2.2 | exact ho.2.2.1 | exact ho.2.2.2 | omega)
   replace at1 := lst3.same _ _ trivial at1
   replace at3 := lst3.same _ _ trivial at3
   replace at4 := lst3.same _ _ trivial at4
   replace hin := base_hin.mono hle
   clear hb1 fs1 ft1 c101 c111 c121 i21 i31 i41 hm1 hi1 hms1 his1 hmt1 hit1
   have hb1 : Prof.At _ g1 0 m p := ⟨Mem.of_get at1, hin⟩
   obtain ⟨fs1, ft1, c101, c111, c121, i21, i31, i41⟩ := hb1.get
   have hm1 : MemN _ _ _ _ _ := ⟨rfl, hb1.1⟩
   have hi1 := hb1.2
   have hms1 : MemN _ _ _ _ _ := ⟨rfl, fs1.1⟩
   have his1 := fs1.2
   have hmt1 : MemN _ _ _ _ _ := ⟨rfl, ft1.1⟩
   have hit1 := ft1.2
   clear hb3 c03 c13 c23 c33 c43 i13 i23 i33 i43 hm3 hi3
   have hb3 : Cat.At _ g3 0 m.s p.s := ⟨Mem.of_get at3, his1⟩
   obtain ⟨c03, c13, c23, c33, c43, i13, i23, i33, i43⟩ := hb3.get
   have hm3 : MemN _ _ _ _ _ := ⟨rfl, hb3.1⟩
   have hi3 := hb3.2
   clear hb4 c04 c14 c24 c34 c44 i14 i24 i34 i44 hm4 hi4
   have hb4 : Cat.At _ g4 0 m.t p.t := ⟨Mem.of_get at4, hit1⟩
   obtain ⟨c04, c14, c24, c34, c44, i14, i24, i34, i44⟩ := hb4.get
   have hm4 : MemN _ _ _ _ _ := ⟨rfl, hb4.1⟩
   have hi4 := hb4.2
   obtain ⟨hk3, ha3⟩ := hI
   refine .seq (fun K17 hK17 => .seq (fun K18 hK18 => .region (.mv rfl (.m rfl rfl rfl (.fieldAddr fo_30_1_B rfl) ?_))))
   refine .m rfl rfl rfl (.load on_22_B rfl (by first | assumption | exact Mem.of_get at3 1 _ rfl)) ?_
   refine .m rfl rfl rfl (.len sl_22_A rfl) (.m rfl rfl rfl (.cmp rfl rfl rfl) (.nil (hK18 _ _ ?_)))
   refine .cond rfl (fun h68 => ?_) (fun h68 => ?_)
   ·
    simp only [sps] at h68
    have r1 := hC.row a (by omega)
    have r4 := hS.by (a := a) (y := y) (by omega) (by omega)
    have r2 := i43.2 a (by omega)
    have r3 := i31.2 a (by omega)
    have r5 := r3.2 y (by omega)
    refine .skip ?_
    refine hK17 _ _ (.seq (fun K19 hK19 => ?_))
    refine .block ?_
    refine .seq (fun K20 hK20 => .region (.mv rfl (.nil (hK20 _ _ ?_))))
    refine .block ?_
    refine .loopR (σ := Nat) [(1, some _), (3, some _), (4, some _), (5, some _), (7, some _)] (fun b => [(8, some (.int .i64 (b : Int)))]) (fun b H' => St [] HL3 H' ∧ (b : Int) ≤ m.s.src.length ∧ ∀ b', b' < b → 0 ≤ (m.s.comp.getD a []).getD b' 0 → (m.be.getD ((m.s.comp.getD a []).getD b' 0).toNat []).getD y [] = thenL ((m.be.getD b' []).getD y []) ((m.be.getD a []).getD y [])) (fun b => (m.s.src.length - b : Int).toNat) (0) ⟨rfl, rfl, rfl, rfl, rfl, trivial⟩ ⟨rfl, trivial⟩ ?_ ?_
    ·
     refine ⟨.refl _ _, ?_⟩
     exact ⟨by omega, fun _ _ => by omega⟩
    rintro b HL4 ⟨lst4, hI⟩ KL4 hKL4
    refine .forget (fr' := [(8, some (.int .i64 (b : Int))), (1, some _), (3, some _), (4, some _), (5, some _), (7, some _)]) ⟨rfl, rfl, rfl, rfl, rfl, rfl, trivial⟩ ?_
    replace hle := hle.st lst4 (fun k hk => trivial)
    replace lst1 := lst1.st lst4 (fun k hk ho => by simp only [out, and_true] at ho ⊢ <;> first | exact ho | exact ho.1 | exact ho.2 | exact ho.2.1 | exact ho.2.2 | exact ho.2.2.1 | exact ho.2.2.2 | omega)
    replace lst3 := lst3.st lst4 (fun k hk ho => by simp only [out, and_true] at ho ⊢ <;> first | exact ho | exact ho.1 | exact ho.2 | exact ho.2.1 | exact ho.2.2 | exact ho.2.2.1 | exact ho.2.2.2 | omega)
    replace at1 := lst4.same _ _ trivial at1
    replace at3 := lst4.same _ _ trivial at3
    replace at4 := lst4.same _ _ trivial at4
    replace hin := base_hin.mono hle
    clear hb1 fs1 ft1 c101 c111 c121 i21 i31 i41 hm1 hi1 hms1 his1 hmt1 hit1
    have hb1 : Prof.At _ g1 0 m p := ⟨Mem.of_get at1, hin⟩
    obtain ⟨fs1, ft1, c101, c111, c121, i21, i31, i41⟩ := hb1.get
    have hm1 : MemN _ _ _ _ _ := ⟨rfl, hb1.1⟩
    have hi1 := hb1.2
    have hms1 : MemN _ _ _ _ _ := ⟨rfl, fs1.1⟩
    have his1 := fs1.2
    have hmt1 : MemN _ _ _ _ _ := ⟨rfl, ft1.1⟩
    have hit1 := ft1.2
    clear hb3 c03 c13 c23 c33 c43 i13 i23 i33 i43 hm3 hi3
    have hb3 : Cat.At _ g3 0 m.s p.s := ⟨Mem.of_get at3, his1⟩
    obtain ⟨c03, c13, c23, c33, c43, i13, i23, i33, i43⟩ := hb3.get
    have hm3 : MemN _ _ _ _ _ := ⟨rfl, hb3.1⟩
    have hi3 := hb3.2
    clear hb4 c04 c14 c24 c34 c44 i14 i24 i34 i44 hm4 hi4
    have hb4 : Cat.At _ g4 0 m.t p.t := ⟨Mem.of_get at4, hit1⟩
    obtain ⟨c04, c14, c24, c34, c44, i14, i24, i34, i44⟩ := hb4.get
    have hm4 : MemN _ _ _ _ _ := ⟨rfl, hb4.1⟩
    have hi4 := hb4.2
    clear r2 r3 r5
    have r2 := i43.2 a (by omega)
    have r3 := i31.2 a (by omega)
    have r5 := r3.2 y (by omega)
    obtain ⟨hk4, ha4⟩ := hI
    refine .seq (fun K21 hK21 => .seq (fun K22 hK22 => .region (.mv rfl (.m rfl rfl rfl (.fieldAddr fo_30_1_B rfl) ?_))))
    refine .m rfl rfl rfl (.load on_22_B rfl (by first | assumption | exact Mem.of_get at3 1 _ rfl)) ?_
    refine .m rfl rfl rfl (.len sl_22_A rfl) (.m rfl rfl rfl (.cmp rfl rfl rfl) (.nil (hK22 _ _ ?_)))
    refine .cond rfl (fun h75 => ?_) (fun h75 => ?_)
    ·
     simp only [sps] at h75
     have t4 := hS.by (a := b) (y := y) (by omega) (by omega)
     have t3 := i31.2 b (by omega)
     have t5 := t3.2 y (by omega)
     refine .skip ?_
     refine hK21 _ _ (.seq (fun K23 hK23 => ?_))
     refine .block ?_
     refine .seq (fun K24 hK24 => .region (.m rfl rfl rfl (.fieldAddr fo_30_4_B rfl) ?_))
     refine .m rfl rfl rfl (.load on_23_B rfl (by first | assumption | exact Mem.of_get at3 4 _ rfl)) ?_
     refine .mv rfl ?_
     refine .m rfl rfl rfl (.idxN sl_23_B (Intss.sl (by assumption)) rfl rfl (by omega)) ?_
     refine .m rfl rfl rfl (.loadR on_22_B (by assumption) rfl (by omega)) ?_
     refine .mv rfl ?_
     refine .m rfl rfl rfl (.idxN sl_22_A (by assumption) rfl rfl (by omega)) ?_
     refine .m rfl rfl rfl (.loadI on_2_A (by assumption) rfl (by omega)) ?_
     refine .mv rfl (.nil (hK24 _ _ (.seq (fun K25 hK25 => ?_))))
     refine .regionD mo_B (.q 0 (.q 1 (.q 2 (.q 3 (.q 4 (.q 5 (.q 6 (.q 7 (.q 8 (.q 9 (.q 10 (.q 11 (.q 12 (.q 13 (.q 14 (.q 15 (.q 16 (.q 17 (.q 18 (.q 19 (.q 20 (.q 21 (.q 22 (.q 23 (.q 24 (.q 25 (.q 26 (.c 27 1 (.c 28 0 (.q 29 (.q 30 (.done)))))))))))))))))))))))))))))))) (by kernel_rfl) ?_
     refine .mv rfl rfl (.m rfl rfl rfl rfl (.refl _) (.cmp rfl rfl rfl) (.mv rfl rfl ?_))
     refine .split (fun h88 => ?_) (fun h88 => ?_)
     ·
      simp only [sps] at h88
      have u1 := hC.comp (a := a) (b := b) (by omega) (by omega) h88
      have u4 := hS.by (a := ((m.s.comp.getD a []).getD b 0).toNat) (y := y) (by omega) (by omega)
      have u6 : ∀ i, i < ((m.be.getD b []).getD y []).length → 0 ≤ ((m.be.getD b []).getD y []).getD i 0 ∧ ((m.be.getD b []).getD y []).getD i 0 < ((m.be.getD a []).getD y []).length := fun i hi => by
        have := t4.2.2.2.2.1 i hi
        rw [← u1.1, ← r4.2.2.2.1] at this
        exact this
      have u3 := i31.2 ((m.s.comp.getD a []).getD b 0).toNat (by omega)
      have u5 := u3.2 y (by omega)
      refine .mg rfl rfl rfl rfl rfl rfl (.refl _) (.fieldAddr fo_34_3_VProf rfl) ?_
      refine .mg rfl rfl rfl rfl rfl rfl (.refl _) (.load on_26_VProf rfl (by first | assumption | exact Mem.of_get at1 11 _ rfl)) ?_
      refine .mg rfl rfl rfl rfl rfl rfl (.refl _) (.move rfl) ?_
      refine .mg rfl rfl rfl rfl rfl rfl (.refl _) (.idx1 sl_26_VZ (Intsss.sl (by assumption)) rfl rfl (by omega) (by omega)) ?_
      refine .mg rfl rfl rfl rfl rfl rfl (.refl _) (.loadRR on_23_B (by assumption) rfl (by omega)) ?_
      refine .mg rfl rfl rfl rfl rfl rfl (.refl _) (.move rfl) ?_
      refine .mg rfl rfl rfl rfl rfl rfl (.refl _) (.idxN sl_23_B (Intss.sl (by assumption)) rfl rfl (by omega)) ?_
      refine .mg rfl rfl rfl rfl rfl rfl (.refl _) (.loadR on_22_B (by assumption) rfl (by omega)) ?_
      refine .mg rfl rfl rfl rfl rfl rfl (.refl _) (.fieldAddr fo_34_3_VProf rfl) ?_
      refine .mg rfl rfl rfl rfl rfl rfl (.refl _) (.load on_26_VProf rfl (by first | assumption | exact Mem.of_get at1 11 _ rfl)) ?_
      refine .mg rfl rfl rfl rfl rfl rfl (.refl _) (.move rfl) ?_
      refine .mg rfl rfl rfl rfl rfl rfl (.refl _) (.idxN sl_26_VZ (Intsss.sl (by assumption)) rfl rfl (by omega)) ?_
      refine .mg rfl rfl rfl rfl rfl rfl (.refl _) (.loadRR on_23_B (by assumption) rfl (by omega)) ?_
      refine .mg rfl rfl rfl rfl rfl rfl (.refl _) (.move rfl) ?_
      refine .mg rfl rfl rfl rfl rfl rfl (.refl _) (.idxN sl_23_B (Intss.sl (by assumption)) rfl rfl (by omega)) ?_
      refine .mg rfl rfl rfl rfl rfl rfl (.refl _) (.loadR on_22_B (by assumption) rfl (by omega)) ?_
      refine .mg rfl rfl rfl rfl rfl rfl (.refl _) (.fieldAddr fo_34_3_VProf rfl) ?_
      refine .mg rfl rfl rfl rfl rfl rfl (.refl _) (.load on_26_VProf rfl (by first | assumption | exact Mem.of_get at1 11 _ rfl)) ?_
      refine .mg rfl rfl rfl rfl rfl rfl (.refl _) (.move rfl) ?_
      refine .mg rfl rfl rfl rfl rfl rfl (.refl _) (.idxN sl_26_VZ (Intsss.sl (by assumption)) rfl rfl (by omega)) ?_
      refine .mg rfl rfl rfl rfl rfl rfl (.refl _) (.loadRR on_23_B (by assumption) rfl (by omega)) ?_
      refine .mg rfl rfl rfl rfl rfl rfl (.refl _) (.move rfl) ?_
      refine .mg rfl rfl rfl rfl rfl rfl (.refl _) (.idxN sl_23_B (Intss.sl (by assumption)) rfl rfl (by omega)) ?_
      refine .mg rfl rfl rfl rfl rfl rfl (.refl _) (.loadR on_22_B (by assumption) rfl (by omega)) ?_
      refine .call1g rfl rfl rfl rfl rfl rfl rfl @Try.call132 rfl (l01Then_c) ?_
      rintro _ H113 ⟨le113, g113, rfl, at113, ge113⟩
      have hbl := le113
      refine ⟨hbl, ?_⟩
      replace hle := hle.trans le113
      replace lst1 := lst1.le le113
      replace lst3 := lst3.le le113
      replace lst4 := lst4.le le113
      replace at1 := le113.2 _ _ at1
      replace at3 := le113.2 _ _ at3
      replace at4 := le113.2 _ _ at4
      have lt_at113 := GHeap.ltg at113
      replace hin := base_hin.mono hle
      clear hb1 fs1 ft1 c101 c111 c121 i21 i31 i41 hm1 hi1 hms1 his1 hmt1 hit1
      have hb1 : Prof.At _ g1 0 m p := ⟨Mem.of_get at1, hin⟩
      obtain ⟨fs1, ft1, c101, c111, c121, i21, i31, i41⟩ := hb1.get
      have hm1 : MemN _ _ _ _ _ := ⟨rfl, hb1.1⟩
      have hi1 := hb1.2
      have hms1 : MemN _ _ _ _ _ := ⟨rfl, fs1.1⟩
      have his1 := fs1.2
      have hmt1 : MemN _ _ _ _ _ := ⟨rfl, ft1.1⟩
      have hit1 := ft1.2
      clear hb3 c03 c13 c23 c33 c43 i13 i23 i33 i43 hm3 hi3
      have hb3 : Cat.At _ g3 0 m.s p.s := ⟨Mem.of_get at3, his1⟩
      obtain ⟨c03, c13, c23, c33, c43, i13, i23, i33, i43⟩ := hb3.get
      have hm3 : MemN _ _ _ _ _ := ⟨rfl, hb3.1⟩
      have hi3 := hb3.2
      clear hb4 c04 c14 c24 c34 c44 i14 i24 i34 i44 hm4 hi4
      have hb4 : Cat.At _ g4 0 m.t p.t := ⟨Mem.of_get at4, hit1⟩
      obtain ⟨c04, c14, c24, c34, c44, i14, i24, i34, i44⟩ := hb4.get
      have hm4 : MemN _ _ _ _ _ := ⟨rfl, hb4.1⟩
      have hi4 := hb4.2
      clear r2 r3 r5
      have r2 := i43.2 a (by omega)
      have r3 := i31.2 a (by omega)
      have r5 := r3.2 y (by omega)
      clear t3 t5
      have t3 := i31.2 b (by omega)
      have t5 := t3.2 y (by omega)
      clear u3 u5
      have u3 := i31.2 ((m.s.comp.getD a []).getD b 0).toNat (by omega)
      have u5 := u3.2 y (by omega)
      have i113 := Ints.of_get at113
      refine .callQ0g rfl rfl rfl rfl rfl rfl rfl @Try.call105 rfl (l01Same_c (hy := by rw [length_thenL]; omega)) ?_
      refine .mg rfl rfl rfl rfl rfl rfl (.refl _) (.not rfl) (.m rfl rfl rfl rfl (.refl _) (.pickT rfl rfl) ?_)
      refine .done ?_
      refine hK25 _ _ ?_
      refine .cond rfl (fun h116 => ?_) (fun h116 => ?_)
      ·
       try simp only [sps] at h116
       refine .seq (fun K26 hK26 => .region (.mv rfl (.nil (hK26 _ _ ?_))))
       refine .ret ?_
       refine hret _ _ ?_
       refine ⟨_, rfl, ?_⟩
       exact ⟨congrArg _ (B_false fun hh => h116 (hh.1.thb y (by omega) a (by omega) b (by omega) h88)), hle⟩
      try simp only [sps] at h116
      refine .skip ?_
      refine hK23 _ _ (.region (.mv rfl ?_))
      refine .m rfl rfl rfl (.add rfl rfl rfl (by omega) (by omega)) ?_
      refine .mv rfl (.nil ?_)
      refine hKL4 (b + 1) _ _ ?_ ?_ ⟨rfl, rfl, rfl, rfl, rfl, rfl, trivial⟩
      ·
       refine ⟨lst4, ?_⟩
       refine ⟨by omega, fun b' hx => ?_⟩
       by_cases hltq : b' < b
       · exact ha4 b' hltq
       · obtain rfl : b' = b := by omega
         first | exact fun _ => h116 | exact fun hp => absurd hp (by omega)
      omega
     try simp only [sps] at h88
     refine .sg rfl rfl rfl rfl rfl rfl (.sg rfl rfl rfl rfl rfl rfl (.sg rfl rfl rfl rfl rfl rfl (.sg rfl rfl rfl rfl rfl rfl (.sg rfl rfl rfl rfl rfl rfl (.sg rfl rfl rfl rfl rfl rfl (.sg rfl rfl rfl rfl rfl rfl (.sg rfl rfl rfl rfl rfl rfl (.sg rfl rfl rfl rfl rfl rfl (.sg rfl rfl rfl rfl rfl rfl (.sg rfl rfl rfl rfl rfl rfl (.sg rfl rfl rfl rfl rfl rfl (.sg rfl rfl rfl rfl rfl rfl (.sg rfl rfl rfl rfl rfl rfl (.sg rfl rfl rfl rfl rfl rfl (.sg rfl rfl rfl rfl rfl rfl ?_)))))))))))))))
     refine .sg rfl rfl rfl rfl rfl rfl (.sg rfl rfl rfl rfl rfl rfl (.sg rfl rfl rfl rfl rfl rfl (.sg rfl rfl rfl rfl rfl rfl (.sg rfl rfl rfl rfl rfl rfl (.sg rfl rfl rfl rfl rfl rfl (.sg rfl rfl rfl rfl rfl rfl (.sg rfl rfl rfl rfl rfl rfl (.sgc rfl rfl rfl rfl rfl rfl (.sgc rfl rfl rfl rfl rfl rfl (.sg rfl rfl rfl rfl rfl rfl (.m rfl rfl rfl rfl (.refl _) (.pickF rfl rfl) ?_)))))))))))
     refine .done ?_
     refine hK25 _ _ ?_
     refine .condF rfl ?_
     refine .skip ?_
     refine hK23 _ _ (.region (.mv rfl ?_))
     refine .m rfl rfl rfl (.add rfl rfl rfl (by omega) (by omega)) ?_
     refine .mv rfl (.nil ?_)
     refine hKL4 (b + 1) _ _ ?_ ?_ ⟨rfl, rfl, rfl, rfl, rfl, rfl, trivial⟩
     ·
      refine ⟨lst4, ?_⟩
      refine ⟨by omega, fun b' hx => ?_⟩
      by_cases hltq : b' < b
      · exact ha4 b' hltq
      · obtain rfl : b' = b := by omega
        first | exact fun _ => h116 | exact fun hp => absurd hp (by omega)
     omega
    try simp only [sps] at h75
    refine .exit ?_
    refine hK19 _ _ (.region (.mv rfl ?_))
    refine .m rfl rfl rfl (.add rfl rfl rfl (by omega) (by omega)) ?_
    refine .mv rfl (.nil ?_)
    refine hKL3 (a + 1) _ _ ?_ ?_ ⟨rfl, rfl, rfl, rfl, rfl, trivial⟩
    ·
     refine ⟨lst3, ?_⟩
     refine ⟨by omega, fun a' hx => ?_⟩
     by_cases hltq : a' < a
     · exact ha3 a' hltq
     · obtain rfl : a' = a := by omega
       exact fun b hb => ha4 b (by omega)
    omega
   try simp only [sps] at h68
   refine .exit ?_
   refine hK7 _ _ (.region (.mv rfl ?_))
   refine .m rfl rfl rfl (.add rfl rfl rfl (by omega) (by omega)) ?_
   refine .mv rfl (.nil ?_)
   refine hKL1 (y + 1) _ _ ?_ ?_ ⟨rfl, rfl, rfl, rfl, trivial⟩
   ·
    refine ⟨lst1, ?_⟩
    refine ⟨by omega, fun y' hx => ?_⟩
    by_cases hltq : y' < y
    · exact ha1 y' hltq
    · obtain rfl : y' = y := by omega
      exact ⟨fun x hx => ha2 x (by omega), fun a ha => ha3 a (by omega)⟩
   omega
  try simp only [sps] at h25
  refine .exit ?_
  refine hK3 _ _ (.seq (fun K27 hK27 => .seq (fun K28 hK28 => .region (.mv rfl (.nil (hK28 _ _ ?_))))))
  refine .block ?_
  refine .loopR (σ := Nat) [(1, some _), (3, some _), (4, some _)] (fun x => [(10, some (.int .i64 (x : Int)))]) (fun x H' => St [] HL1 H' ∧ (x : Int) ≤ m.s.obj ∧ ∀ x', x' < x → ∀ a : Nat, a < m.t.src.length → ∀ b : Nat, b < m.t.src.length → 0 ≤ (m.t.comp.getD a []).getD b 0 → (m.bh.getD ((m.t.comp.getD a []).getD b 0).toNat []).getD x' [] = thenL ((m.bh.getD a []).getD x' []) ((m.bh.getD b []).getD x' [])) (fun x => (m.s.obj - x : Int).toNat) (0) ⟨rfl, rfl, rfl, trivial⟩ ⟨rfl, trivial⟩ ?_ ?_
  ·
   refine ⟨.refl _ _, ?_⟩
   exact ⟨by omega, fun _ _ => by omega⟩
  rintro x HL5 ⟨lst5, hI⟩ KL5 hKL5
  refine .forget (fr' := [(10, some (.int .i64 (x : Int))), (1, some _), (3, some _), (4, some _)]) ⟨rfl, rfl, rfl, rfl, trivial⟩ ?_
  replace hle := hle.st lst5 (fun k hk => trivial)
  replace lst1 := lst1.st lst5 (fun k hk ho => by simp only [out, and_true] at ho ⊢ <;> first | exact ho | exact ho.1 | exact ho.2 | exact ho.2.1 | exact ho.2.2 | exact ho.2.2.1 | exact ho.2.2.2 | omega)
  replace at1 := lst5.same _ _ trivial at1
  replace at3 := lst5.same _ _ trivial at3
  replace at4 := lst5.same _ _ trivial at4
  replace hin := base_hin.mono hle
  clear hb1 fs1 ft1 c101 c111 c121 i21 i31 i41 hm1 hi1 hms1 his1 hmt1 hit1
  have hb1 : Prof.At _ g1 0 m p := ⟨Mem.of_get at1, hin⟩
  obtain ⟨fs1, ft1, c101, c111, c121, i21, i31, i41⟩ := hb1.get
  have hm1 : MemN _ _ _ _ _ := ⟨rfl, hb1.1⟩
  have hi1 := hb1.2
  have hms1 : MemN _ _ _ _ _ := ⟨rfl, fs1.1⟩
  have his1 := fs1.2
  have hmt1 : MemN _ _ _ _ _ := ⟨rfl, ft1.1⟩
  have hit1 := ft1.2
  clear hb3 c03 c13 c23 c33 c43 i13 i23 i33 i43 hm3 hi3
  have hb3 : Cat.At _ g3 0 m.s p.s := ⟨Mem.of_get at3, his1⟩
  obtain ⟨c03, c13, c23, c33, c43, i13, i23, i33, i43⟩ := hb3.get
  have hm3 : MemN _ _ _ _ _ := ⟨rfl, hb3.1⟩
  have hi3 := hb3.2
  clear hb4 c04 c14 c24 c34 c44 i14 i24 i34 i44 hm4 hi4
  have hb4 : Cat.At _ g4 0 m.t p.t := ⟨Mem.of_get at4, hit1⟩
  obtain ⟨c04, c14, c24, c34, c44, i14, i24, i34, i44⟩ := hb4.get
  have hm4 : MemN _ _ _ _ _ := ⟨rfl, hb4.1⟩
  have hi4 := hb4.2
  obtain ⟨hk5, ha5⟩ := hI
  refine .seq (fun K29 hK29 => .seq (fun K30 hK30 => .region (.mv rfl (.m rfl rfl rfl (.fieldAddr fo_30_0_B rfl) ?_))))
  refine .m rfl rfl rfl (.load on_2_A rfl (by first | assumption | exact Mem.of_get at3 0 _ rfl)) ?_
  refine .m rfl rfl rfl (.cmp rfl rfl rfl) (.nil (hK30 _ _ ?_))
  refine .cond rfl (fun h120 => ?_) (fun h120 => ?_)
  ·
   simp only [sps] at h120
   refine .skip ?_
   refine hK29 _ _ (.seq (fun K31 hK31 => ?_))
   refine .block ?_
   refine .seq (fun K32 hK32 => .region (.mv rfl (.nil (hK32 _ _ ?_))))
   refine .block ?_
   refine .loopR (σ := Nat) [(1, some _), (3, some _), (4, some _), (10, some _)] (fun a => [(11, some (.int .i64 (a : Int)))]) (fun a H' => St [] HL5 H' ∧ (a : Int) ≤ m.t.src.length ∧ ∀ a', a' < a → ∀ b : Nat, b < m.t.src.length → 0 ≤ (m.t.comp.getD a' []).getD b 0 → (m.bh.getD ((m.t.comp.getD a' []).getD b 0).toNat []).getD x [] = thenL ((m.bh.getD a' []).getD x []) ((m.bh.getD b []).getD x [])) (fun a => (m.t.src.length - a : Int).toNat) (0) ⟨rfl, rfl, rfl, rfl, trivial⟩ ⟨rfl, trivial⟩ ?_ ?_
   ·
    refine ⟨.refl _ _, ?_⟩
    exact ⟨by omega, fun _ _ => by omega⟩
   rintro a HL6 ⟨lst6, hI⟩ KL6 hKL6
   refine .forget (fr' := [(11, some (.int .i64 (a : Int))), (1, some _), (3, some _), (4, some _), (10, some _)]) ⟨rfl, rfl, rfl, rfl, rfl, trivial⟩ ?_
   replace hle := hle.st lst6 (fun k hk => trivial)
   replace lst1 := lst1.st lst6 (fun k hk ho => by simp only [out, and_true] at ho ⊢ <;> first | exact ho | exact ho.1 | exact ho.2 | exact ho.2.1 | exact ho.2.2 | exact ho.2.2.1 | exact ho.2.2.2 | omega)
   replace lst5 := lst5.st lst6 (fun k hk ho => by simp only [out, and_true] at ho ⊢ <;> first | exact ho | exact ho.1 | exact ho.2 | exact ho.2.1 | exact ho.2.2 | exact ho.2.2.1 | exact ho.2.2.2 | omega)
   replace at1 := lst6.same _ _ trivial at1
   replace at3 := lst6.same _ _ trivial at3
   replace at4 := lst6.same _ _ trivial at4
   replace hin := base_hin.mono hle
   clear hb1 fs1 ft1 c101 c111 c121 i21 i31 i41 hm1 hi1 hms1 his1 hmt1 hit1
   have hb1 : Prof.At _ g1 0 m p := ⟨Mem.of_get at1, hin⟩
   obtain ⟨fs1, ft1, c101, c111, c121, i21, i31, i41⟩ := hb1.get
   have hm1 : MemN _ _ _ _ _ := ⟨rfl, hb1.1⟩
   have hi1 := hb1.2
   have hms1 : MemN _ _ _ _ _ := ⟨rfl, fs1.1⟩
   have his1 := fs1.2
   have hmt1 : MemN _ _ _ _ _ := ⟨rfl, ft1.1⟩
   have hit1 := ft1.2
   clear hb3 c03 c13 c23 c33 c43 i13 i23 i33 i43 hm3 hi3
   have hb3 : Cat.At _ g3 0 m.s p.s := ⟨Mem.of_get at3, his1⟩
   obtain ⟨c03, c13, c23, c33, c43, i13, i23, i33, i43⟩ := hb3.get
   have hm3 : MemN _ _ _ _ _ := ⟨rfl, hb3.1⟩
   have hi3 := hb3.2
   clear hb4 c04 c14 c24 c34 c44 i14 i24 i34 i44 hm4 hi4
   have hb4 : Cat.At _ g4 0 m.t p.t := ⟨Mem.of_get at4, hit1⟩
   obtain ⟨c04, c14, c24, c34, c44, i14, i24, i34, i44⟩ := hb4.get
   have hm4 : MemN _ _ _ _ _ := ⟨rfl, hb4.1⟩
   have hi4 := hb4.2
   obtain ⟨hk6, ha6⟩ := hI
   refine .seq (fun K33 hK33 => .seq (fun K34 hK34 => .region (.mv rfl (.m rfl rfl rfl (.fieldAddr fo_30_1_B rfl) ?_))))
   refine .m rfl rfl rfl (.load on_22_B rfl (by first | assumption | exact Mem.of_get at4 1 _ rfl)) ?_
   refine .m rfl rfl rfl (.len sl_22_A rfl) (.m rfl rfl rfl (.cmp rfl rfl rfl) (.nil (hK34 _ _ ?_)))
   refine .cond rfl (fun h127 => ?_) (fun h127 => ?_)
   ·
    simp only [sps] at h127
    have r1 := hD.row a (by omega)
    have r4 := hS.hx (b := a) (x := x) (by omega) (by omega)
    have r2 := i44.2 a (by omega)
    have r3 := i41.2 a (by omega)
    have r5 := r3.2 x (by omega)
    refine .skip ?_
    refine hK33 _ _ (.seq (fun K35 hK35 => ?_))
    refine .block ?_
    refine .seq (fun K36 hK36 => .region (.mv rfl (.nil (hK36 _ _ ?_))))
    refine .block ?_
    refine .loopR (σ := Nat) [(1, some _), (3, some _), (4, some _), (10, some _), (11, some _)] (fun b => [(12, some (.int .i64 (b : Int)))]) (fun b H' => St [] HL6 H' ∧ (b : Int) ≤ m.t.src.length ∧ ∀ b', b' < b → 0 ≤ (m.t.comp.getD a []).getD b' 0 → (m.bh.getD ((m.t.comp.getD a []).getD b' 0).toNat []).getD x [] = thenL ((m.bh.getD a []).getD x []) ((m.bh.getD b' []).getD x [])) (fun b => (m.t.src.length - b : Int).toNat) (0) ⟨rfl, rfl, rfl, rfl, rfl, trivial⟩ ⟨rfl, trivial⟩ ?_ ?_
    ·
     refine ⟨.refl _ _, ?_⟩
     exact ⟨by omega, fun _ _ => by omega⟩
    rintro b HL7 ⟨lst7, hI⟩ KL7 hKL7
    refine .forget (fr' := [(12, some (.int .i64 (b : Int))), (1, some _), (3, some _), (4, some _), (10, some _), (11, some _)]) ⟨rfl, rfl, rfl, rfl, rfl, rfl, trivial⟩ ?_
    replace hle := hle.st lst7 (fun k hk => trivial)
    replace lst1 := lst1.st lst7 (fun k hk ho => by simp only [out, and_true] at ho ⊢ <;> first | exact ho | exact ho.1 | exact ho.2 | exact ho.2.1 | exact ho.2.2 | exact ho.2.2.1 | exact ho.2.2.2 | omega)
    replace lst5 := lst5.st lst7 (fun k hk ho => by simp only [out, and_true] at ho ⊢ <;> first | exact ho | exact ho.1 | exact ho.2 | exact ho.2.1 | exact ho.2.2 | exact ho.2.2.1 | exact ho.2.2.2 | omega)
    replace lst6 := lst6.st lst7 (fun k hk ho => by simp only [out, and_true] at ho ⊢ <;> first | exact ho | exact ho.1 | exact ho.2 | exact ho.2.1 | exact ho.2.2 | exact ho.2.2.1 | exact ho.2.2.2 | omega)
    replace at1 := lst7.same _ _ trivial at1
    replace at3 := lst7.same _ _ trivial at3
    replace at4 := lst7.same _ _ trivial at4
    replace hin := base_hin.mono hle
    clear hb1 fs1 ft1 c101 c111 c121 i21 i31 i41 hm1 hi1 hms1 his1 hmt1 hit1
    have hb1 : Prof.At _ g1 0 m p := ⟨Mem.of_get at1, hin⟩
    obtain ⟨fs1, ft1, c101, c111, c121, i21, i31, i41⟩ := hb1.get
    have hm1 : MemN _ _ _ _ _ := ⟨rfl, hb1.1⟩
    have hi1 := hb1.2
    have hms1 : MemN _ _ _ _ _ := ⟨rfl, fs1.1⟩
    have his1 := fs1.2
    have hmt1 : MemN _ _ _ _ _ := ⟨rfl, ft1.1⟩
    have hit1 := ft1.2
    clear hb3 c03 c13 c23 c33 c43 i13 i23 i33 i43 hm3 hi3
    have hb3 : Cat.At _ g3 0 m.s p.s := ⟨Mem.of_get at3, his1⟩
    obtain ⟨c03, c13, c23, c33, c43, i13, i23, i33, i43⟩ := hb3.get
    have hm3 : MemN _ _ _ _ _ := ⟨rfl, hb3.1⟩
    have hi3 := hb3.2
    clear hb4 c04 c14 c24 c34 c44 i14 i24 i34 i44 hm4 hi4
    have hb4 : Cat.At _ g4 0 m.t p.t := ⟨Mem.of_get at4, hit1⟩
    obtain ⟨c04, c14, c24, c34, c44, i14, i24, i34, i44⟩ := hb4.get
    have hm4 : MemN _ _ _ _ _ := ⟨rfl, hb4.1⟩
    have hi4 := hb4.2
    clear r2 r3 r5
    have r2 := i44.2 a (by omega)
    have r3 := i41.2 a (by omega)
    have r5 := r3.2 x (by omega)
    obtain ⟨hk7, ha7⟩ := hI
    refine .seq (fun K37 hK37 => .seq (fun K38 hK38 => .region (.mv rfl (.m rfl rfl rfl (.fieldAddr fo_30_1_B rfl) ?_))))
    refine .m rfl rfl rfl (.load on_22_B rfl (by first | assumption | exact Mem.of_get at4 1 _ rfl)) ?_
    refine .m rfl rfl rfl (.len sl_22_A rfl) (.m rfl rfl rfl (.cmp rfl rfl rfl) (.nil (hK38 _ _ ?_)))
    refine .cond rfl (fun h134 => ?_) (fun h134 => ?_)
    ·
     simp only [sps] at h134
     have t4 := hS.hx (b := b) (x := x) (by omega) (by omega)
     have t3 := i41.2 b (by omega)
     have t5 := t3.2 x (by omega)
     refine .skip ?_
     refine hK37 _ _ (.seq (fun K39 hK39 => ?_))
     refine .block ?_
     refine .seq (fun K40 hK40 => .region (.m rfl rfl rfl (.fieldAddr fo_30_4_B rfl) ?_))
     refine .m rfl rfl rfl (.load on_23_B rfl (by first | assumption | exact Mem.of_get at4 4 _ rfl)) ?_
     refine .mv rfl ?_
     refine .m rfl rfl rfl (.idxN sl_23_B (Intss.sl (by assumption)) rfl rfl (by omega)) ?_
     refine .m rfl rfl rfl (.loadR on_22_B (by assumption) rfl (by omega)) ?_
     refine .mv rfl ?_
     refine .m rfl rfl rfl (.idxN sl_22_A (by assumption) rfl rfl (by omega)) ?_
     refine .m rfl rfl rfl (.loadI on_2_A (by assumption) rfl (by omega)) ?_
     refine .mv rfl (.nil (hK40 _ _ (.seq (fun K41 hK41 => ?_))))
     refine .regionD mo_B (.q 0 (.q 1 (.q 2 (.q 3 (.q 4 (.q 5 (.q 6 (.q 7 (.q 8 (.q 9 (.q 10 (.q 11 (.q 12 (.q 13 (.q 14 (.q 15 (.q 16 (.q 17 (.q 18 (.q 19 (.q 20 (.q 21 (.q 22 (.q 23 (.q 24 (.q 25 (.q 26 (.c 27 1 (.c 28 0 (.q 29 (.q 30 (.done)))))))))))))))))))))))))))))))) (by kernel_rfl) ?_
     refine .mv rfl rfl (.m rfl rfl rfl rfl (.refl _) (.cmp rfl rfl rfl) (.mv rfl rfl ?_))
     refine .split (fun h147 => ?_) (fun h147 => ?_)
     ·
      simp only [sps] at h147
      have u1 := hD.comp (a := a) (b := b) (by omega) (by omega) h147
      have u4 := hS.hx (b := ((m.t.comp.getD a []).getD b 0).toNat) (x := x) (by omega) (by omega)
      have u6 : ∀ i, i < ((m.bh.getD a []).getD x []).length → 0 ≤ ((m.bh.getD a []).getD x []).getD i 0 ∧ ((m.bh.getD a []).getD x []).getD i 0 < ((m.bh.getD b []).getD x []).length := fun i hi => by
        have := r4.2.2.2.2.2.1 i hi
        rw [u1.1, ← t4.2.2.2.2.1] at this
        exact this
      have u3 := i41.2 ((m.t.comp.getD a []).getD b 0).toNat (by omega)
      have u5 := u3.2 x (by omega)
      refine .mg rfl rfl rfl rfl rfl rfl (.refl _) (.fieldAddr fo_34_4_VProf rfl) ?_
      refine .mg rfl rfl rfl rfl rfl rfl (.refl _) (.load on_26_VProf rfl (by first | assumption | exact Mem.of_get at1 12 _ rfl)) ?_
      refine .mg rfl rfl rfl rfl rfl rfl (.refl _) (.move rfl) ?_
      refine .mg rfl rfl rfl rfl rfl rfl (.refl _) (.idx1 sl_26_VZ (Intsss.sl (by assumption)) rfl rfl (by omega) (by omega)) ?_
      refine .mg rfl rfl rfl rfl rfl rfl (.refl _) (.loadRR on_23_B (by assumption) rfl (by omega)) ?_
      refine .mg rfl rfl rfl rfl rfl rfl (.refl _) (.move rfl) ?_
      refine .mg rfl rfl rfl rfl rfl rfl (.refl _) (.idxN sl_23_B (Intss.sl (by assumption)) rfl rfl (by omega)) ?_
      refine .mg rfl rfl rfl rfl rfl rfl (.refl _) (.loadR on_22_B (by assumption) rfl (by omega)) ?_
      refine .mg rfl rfl rfl rfl rfl rfl (.refl _) (.fieldAddr fo_34_4_VProf rfl) ?_
      refine .mg rfl rfl rfl rfl rfl rfl (.refl _) (.load on_26_VProf rfl (by first | assumption | exact Mem.of_get at1 12 _ rfl)) ?_
      refine .mg rfl rfl rfl rfl rfl rfl (.refl _) (.move rfl) ?_
      refine .mg rfl rfl rfl rfl rfl rfl (.refl _) (.idxN sl_26_VZ (Intsss.sl (by assumption)) rfl rfl (by omega)) ?_
      refine .mg rfl rfl rfl rfl rfl rfl (.refl _) (.loadRR on_23_B (by assumption) rfl (by omega)) ?_
      refine .mg rfl rfl rfl rfl rfl rfl (.refl _) (.move rfl) ?_
      refine .mg rfl rfl rfl rfl rfl rfl (.refl _) (.idxN sl_23_B (Intss.sl (by assumption)) rfl rfl (by omega)) ?_
      refine .mg rfl rfl rfl rfl rfl rfl (.refl _) (.loadR on_22_B (by assumption) rfl (by omega)) ?_
      refine .mg rfl rfl rfl rfl rfl rfl (.refl _) (.fieldAddr fo_34_4_VProf rfl) ?_
      refine .mg rfl rfl rfl rfl rfl rfl (.refl _) (.load on_26_VProf rfl (by first | assumption | exact Mem.of_get at1 12 _ rfl)) ?_
      refine .mg rfl rfl rfl rfl rfl rfl (.refl _) (.move rfl) ?_
      refine .mg rfl rfl rfl rfl rfl rfl (.refl _) (.idxN sl_26_VZ (Intsss.sl (by assumption)) rfl rfl (by omega)) ?_
      refine .mg rfl rfl rfl rfl rfl rfl (.refl _) (.loadRR on_23_B (by assumption) rfl (by omega)) ?_
      refine .mg rfl rfl rfl rfl rfl rfl (.refl _) (.move rfl) ?_
      refine .mg rfl rfl rfl rfl rfl rfl (.refl _) (.idxN sl_23_B (Intss.sl (by assumption)) rfl rfl (by omega)) ?_
      refine .mg rfl rfl rfl rfl rfl rfl (.refl _) (.loadR on_22_B (by assumption) rfl (by omega)) ?_
      refine .call1g rfl rfl rfl rfl rfl rfl rfl @Try.call132 rfl (l01Then_c) ?_
      rintro _ H172 ⟨le172, g172, rfl, at172, ge172⟩
      have hbl := le172
      refine ⟨hbl, ?_⟩
      replace hle := hle.trans le172
      replace lst1 := lst1.le le172
      replace lst5 := lst5.le le172
      replace lst6 := lst6.le le172
      replace lst7 := lst7.le le172
      replace at1 := le172.2 _ _ at1
      replace at3 := le172.2 _ _ at3
      replace at4 := le172.2 _ _ at4
      have lt_at172 := GHeap.ltg at172
      replace hin := base_hin.mono hle
      clear hb1 fs1 ft1 c101 c111 c121 i21 i31 i41 hm1 hi1 hms1 his1 hmt1 hit1
      have hb1 : Prof.At _ g1 0 m p := ⟨Mem.of_get at1, hin⟩
      obtain ⟨fs1, ft1, c101, c111, c121, i21, i31, i41⟩ := hb1.get
      have hm1 : MemN _ _ _ _ _ := ⟨rfl, hb1.1⟩
      have hi1 := hb1.2
      have hms1 : MemN _ _ _ _ _ := ⟨rfl, fs1.1⟩
      have his1 := fs1.2
      have hmt1 : MemN _ _ _ _ _ := ⟨rfl, ft1.1⟩
      have hit1 := ft1.2
      clear hb3 c03 c13 c23 c33 c43 i13 i23 i33 i43 hm3 hi3
      have hb3 : Cat.At _ g3 0 m.s p.s := ⟨Mem.of_get at3, his1⟩
      obtain ⟨c03, c13, c23, c33, c43, i13, i23, i33, i43⟩ := hb3.get
      have hm3 : MemN _ _ _ _ _ := ⟨rfl, hb3.1⟩
      have hi3 := hb3.2
      clear hb4 c04 c14 c24 c34 c44 i14 i24 i34 i44 hm4 hi4
      have hb4 : Cat.At _ g4 0 m.t p.t := ⟨Mem.of_get at4, hit1⟩
      obtain ⟨c04, c14, c24, c34, c44, i14, i24, i34, i44⟩ := hb4.get
      have hm4 : MemN _ _ _ _ _ := ⟨rfl, hb4.1⟩
      have hi4 := hb4.2
      clear r2 r3 r5
      have r2 := i44.2 a (by omega)
      have r3 := i41.2 a (by omega)
      have r5 := r3.2 x (by omega)
      clear t3 t5
      have t3 := i41.2 b (by omega)
      have t5 := t3.2 x (by omega)
      clear u3 u5
      have u3 := i41.2 ((m.t.comp.getD a []).getD b 0).toNat (by omega)
      have u5 := u3.2 x (by omega)
      have i172 := Ints.of_get at172
      refine .callQ0g rfl rfl rfl rfl rfl rfl rfl @Try.call105 rfl (l01Same_c (hy := by rw [length_thenL]; omega)) ?_
      refine .mg rfl rfl rfl rfl rfl rfl (.refl _) (.not rfl) (.m rfl rfl rfl rfl (.refl _) (.pickT rfl rfl) ?_)
      refine .done ?_
      refine hK41 _ _ ?_
      refine .cond rfl (fun h175 => ?_) (fun h175 => ?_)
      ·
       try simp only [sps] at h175
       refine .seq (fun K42 hK42 => .region (.mv rfl (.nil (hK42 _ _ ?_))))
       refine .ret ?_
       refine hret _ _ ?_
       refine ⟨_, rfl, ?_⟩
       exact ⟨congrArg _ (B_false fun hh => h175 (hh.1.thh x (by omega) a (by omega) b (by omega) h147)), hle⟩
      try simp only [sps] at h175
      refine .skip ?_
      refine hK39 _ _ (.region (.mv rfl ?_))
      refine .m rfl rfl rfl (.add rfl rfl rfl (by omega) (by omega)) ?_
      refine .mv rfl (.nil ?_)
      refine hKL7 (b + 1) _ _ ?_ ?_ ⟨rfl, rfl, rfl, rfl, rfl, rfl, trivial⟩
      ·
       refine ⟨lst7, ?_⟩
       refine ⟨by omega, fun b' hx => ?_⟩
       by_cases hltq : b' < b
       · exact ha7 b' hltq
       · obtain rfl : b' = b := by omega
         first | exact fun _ => h175 | exact fun hp => absurd hp (by omega)
      omega
     try simp only [sps] at h147
     refine .sg rfl rfl rfl rfl rfl rfl (.sg rfl rfl rfl rfl rfl rfl (.sg rfl rfl rfl rfl rfl rfl (.sg rfl rfl rfl rfl rfl rfl (.sg rfl rfl rfl rfl rfl rfl (.sg rfl rfl rfl rfl rfl rfl (.sg rfl rfl rfl rfl rfl rfl (.sg rfl rfl rfl rfl rfl rfl (.sg rfl rfl rfl rfl rfl rfl (.sg rfl rfl rfl rfl rfl rfl (.sg rfl rfl rfl rfl rfl rfl (.sg rfl rfl rfl rfl rfl rfl (.sg rfl rfl rfl rfl rfl rfl (.sg rfl rfl rfl rfl rfl rfl (.sg rfl rfl rfl rfl rfl rfl (.sg rfl rfl rfl rfl rfl rfl ?_)))))))))))))))
     refine .sg rfl rfl rfl rfl rfl rfl (.sg rfl rfl rfl rfl rfl rfl (.sg rfl rfl rfl rfl rfl rfl (.sg rfl rfl rfl rfl rfl rfl (.sg rfl rfl rfl rfl rfl rfl (.sg rfl rfl rfl rfl rfl rfl (.sg rfl rfl rfl rfl rfl rfl (.sg rfl rfl rfl rfl rfl rfl (.sgc rfl rfl rfl rfl rfl rfl (.sgc rfl rfl rfl rfl rfl rfl (.sg rfl rfl rfl rfl rfl rfl (.m rfl rfl rfl rfl (.refl _) (.pickF rfl rfl) ?_)))))))))))
     refine .done ?_
     refine hK41 _ _ ?_
     refine .condF rfl ?_
     refine .skip ?_
     refine hK39 _ _ (.region (.mv rfl ?_))
     refine .m rfl rfl rfl (.add rfl rfl rfl (by omega) (by omega)) ?_
     refine .mv rfl (.nil ?_)
     refine hKL7 (b + 1) _ _ ?_ ?_ ⟨rfl, rfl, rfl, rfl, rfl, rfl, trivial⟩
     ·
      refine ⟨lst7, ?_⟩
      refine ⟨by omega, fun b' hx => ?_⟩
      by_cases hltq : b' < b
      · exact ha7 b' hltq
      · obtain rfl : b' = b := by omega
        first | exact fun _ => h175 | exact fun hp => absurd hp (by omega)
     omega
    try simp only [sps] at h134
    refine .exit ?_
    refine hK35 _ _ (.region (.mv rfl ?_))
    refine .m rfl rfl rfl (.add rfl rfl rfl (by omega) (by omega)) ?_
    refine .mv rfl (.nil ?_)
    refine hKL6 (a + 1) _ _ ?_ ?_ ⟨rfl, rfl, rfl, rfl, rfl, trivial⟩
    ·
     refine ⟨lst6, ?_⟩
     refine ⟨by omega, fun a' hx => ?_⟩
     by_cases hltq : a' < a
     · exact ha6 a' hltq
     · obtain rfl : a' = a := by omega
       exact fun b hb => ha7 b (by omega)
    omega
   try simp only [sps] at h127
   refine .exit ?_
   refine hK31 _ _ (.region (.mv rfl ?_))
   refine .m rfl rfl rfl (.add rfl rfl rfl (by omega) (by omega)) ?_
   refine .mv rfl (.nil ?_)
   refine hKL5 (x + 1) _ _ ?_ ?_ ⟨rfl, rfl, rfl, rfl, trivial⟩
   ·
    refine ⟨lst5, ?_⟩
    refine ⟨by omega, fun x' hx => ?_⟩
    by_cases hltq : x' < x
    · exact ha5 x' hltq
    · obtain rfl : x' = x := by omega
      exact fun a ha => ha6 a (by omega)
   omega
  try simp only [sps] at h120
  refine .exit ?_
  refine hK27 _ _ (.seq (fun K43 hK43 => .seq (fun K44 hK44 => .region (.mv rfl (.nil (hK44 _ _ ?_))))))
  refine .block ?_
  refine .loopR (σ := Nat) [(1, some _), (3, some _), (4, some _)] (fun a => [(14, some (.int .i64 (a : Int)))]) (fun a H' => St [] HL5 H' ∧ (a : Int) ≤ m.s.src.length ∧ ∀ a', a' < a → ∀ b, b < m.t.src.length → m.MixAt a' b) (fun a => (m.s.src.length - a : Int).toNat) (0) ⟨rfl, rfl, rfl, trivial⟩ ⟨rfl, trivial⟩ ?_ ?_
  ·
   refine ⟨.refl _ _, ?_⟩
   exact ⟨by omega, fun _ _ => by omega⟩
  rintro a HL8 ⟨lst8, hI⟩ KL8 hKL8
  refine .forget (fr' := [(14, some (.int .i64 (a : Int))), (1, some _), (3, some _), (4, some _)]) ⟨rfl, rfl, rfl, rfl, trivial⟩ ?_
  replace hle := hle.st lst8 (fun k hk => trivial)
  replace lst1 := lst1.st lst8 (fun k hk ho => by simp only [out, and_true] at ho ⊢ <;> first | exact ho | exact ho.1 | exact ho.2 | exact ho.2.1 | exact ho.2.2 | exact ho.2.2.1 | exact ho.2.2.2 | omega)
  replace at1 := lst8.same _ _ trivial at1
  replace at3 := lst8.same _ _ trivial at3
  replace at4 := lst8.same _ _ trivial at4
  replace hin := base_hin.mono hle
  clear hb1 fs1 ft1 c101 c111 c121 i21 i31 i41 hm1 hi1 hms1 his1 hmt1 hit1
  have hb1 : Prof.At _ g1 0 m p := ⟨Mem.of_get at1, hin⟩
  obtain ⟨fs1, ft1, c101, c111, c121, i21, i31, i41⟩ := hb1.get
  have hm1 : MemN _ _ _ _ _ := ⟨rfl, hb1.1⟩
  have hi1 := hb1.2
  have hms1 : MemN _ _ _ _ _ := ⟨rfl, fs1.1⟩
  have his1 := fs1.2
  have hmt1 : MemN _ _ _ _ _ := ⟨rfl, ft1.1⟩
  have hit1 := ft1.2
  clear hb3 c03 c13 c23 c33 c43 i13 i23 i33 i43 hm3 hi3
  have hb3 : Cat.At _ g3 0 m.s p.s := ⟨Mem.of_get at3, his1⟩
  obtain ⟨c03, c13, c23, c33, c43, i13, i23, i33, i43⟩ := hb3.get
  have hm3 : MemN _ _ _ _ _ := ⟨rfl, hb3.1⟩
  have hi3 := hb3.2
  clear hb4 c04 c14 c24 c34 c44 i14 i24 i34 i44 hm4 hi4
  have hb4 : Cat.At _ g4 0 m.t p.t := ⟨Mem.of_get at4, hit1⟩
  obtain ⟨c04, c14, c24, c34, c44, i14, i24, i34, i44⟩ := hb4.get
  have hm4 : MemN _ _ _ _ _ := ⟨rfl, hb4.1⟩
  have hi4 := hb4.2
  obtain ⟨hk8, ha8⟩ := hI
  refine .seq (fun K45 hK45 => .seq (fun K46 hK46 => .region (.mv rfl (.m rfl rfl rfl (.fieldAddr fo_30_1_B rfl) ?_))))
  refine .m rfl rfl rfl (.load on_22_B rfl (by first | assumption | exact Mem.of_get at3 1 _ rfl)) ?_
  refine .m rfl rfl rfl (.len sl_22_A rfl) (.m rfl rfl rfl (.cmp rfl rfl rfl) (.nil (hK46 _ _ ?_)))
  refine .cond rfl (fun h180 => ?_) (fun h180 => ?_)
  ·
   simp only [sps] at h180
   have r2 := hS.z.b hS.s (a := a) (by omega)
   have r1 := i31.2 a (by omega)
   refine .skip ?_
   refine hK45 _ _ (.seq (fun K47 hK47 => ?_))
   refine .block ?_
   refine .seq (fun K48 hK48 => .region (.mv rfl (.nil (hK48 _ _ ?_))))
   refine .block ?_
   refine .loopR (σ := Nat) [(1, some _), (3, some _), (4, some _), (14, some _)] (fun b => [(15, some (.int .i64 (b : Int)))]) (fun b H' => St [] HL8 H' ∧ (b : Int) ≤ m.t.src.length ∧ ∀ b', b' < b → m.MixAt a b') (fun b => (m.t.src.length - b : Int).toNat) (0) ⟨rfl, rfl, rfl, rfl, trivial⟩ ⟨rfl, trivial⟩ ?_ ?_
   ·
    refine ⟨.refl _ _, ?_⟩
    exact ⟨by omega, fun _ _ => by omega⟩
   rintro b HL9 ⟨lst9, hI⟩ KL9 hKL9
   refine .forget (fr' := [(15, some (.int .i64 (b : Int))), (1, some _), (3, some _), (4, some _), (14, some _)]) ⟨rfl, rfl, rfl, rfl, rfl, trivial⟩ ?_
   replace hle := hle.st lst9 (fun k hk => trivial)
   replace lst1 := lst1.st lst9 (fun k hk ho => by simp only [out, and_true] at ho ⊢ <;> first | exact ho | exact ho.1 | exact ho.2 | exact ho.2.1 | exact ho.2.2 | exact ho.2.2.1 | exact ho.2.2.2 | omega)
   replace lst8 := lst8.st lst9 (fun k hk ho => by simp only [out, and_true] at ho ⊢ <;> first | exact ho | exact ho.1 | exact ho.2 | exact ho.2.1 | exact ho.2.2 | exact ho.2.2.1 | exact ho.2.2.2 | omega)
   replace at1 := lst9.same _ _ trivial at1
   replace at3 := lst9.same _ _ trivial at3
   replace at4 := lst9.same _ _ trivial at4
   replace hin := base_hin.mono hle
   clear hb1 fs1 ft1 c101 c111 c121 i21 i31 i41 hm1 hi1 hms1 his1 hmt1 hit1
   have hb1 : Prof.At _ g1 0 m p := ⟨Mem.of_get at1, hin⟩
   obtain ⟨fs1, ft1, c101, c111, c121, i21, i31, i41⟩ := hb1.get
   have hm1 : MemN _ _ _ _ _ := ⟨rfl, hb1.1⟩
   have hi1 := hb1.2
   have hms1 : MemN _ _ _ _ _ := ⟨rfl, fs1.1⟩
   have his1 := fs1.2
   have hmt1 : MemN _ _ _ _ _ := ⟨rfl, ft1.1⟩
   have hit1 := ft1.2
   clear hb3 c03 c13 c23 c33 c43 i13 i23 i33 i43 hm3 hi3
   have hb3 : Cat.At _ g3 0 m.s p.s := ⟨Mem.of_get at3, his1⟩
   obtain ⟨c03, c13, c23, c33, c43, i13, i23, i33, i43⟩ := hb3.get
   have hm3 : MemN _ _ _ _ _ := ⟨rfl, hb3.1⟩
   have hi3 := hb3.2
   clear hb4 c04 c14 c24 c34 c44 i14 i24 i34 i44 hm4 hi4
   have hb4 : Cat.At _ g4 0 m.t p.t := ⟨Mem.of_get at4, hit1⟩
   obtain ⟨c04, c14, c24, c34, c44, i14, i24, i34, i44⟩ := hb4.get
   have hm4 : MemN _ _ _ _ _ := ⟨rfl, hb4.1⟩
   have hi4 := hb4.2
   clear r1
   have r1 := i31.2 a (by omega)
   obtain ⟨hk9, ha9⟩ := hI
   refine .seq (fun K49 hK49 => .seq (fun K50 hK50 => .region (.mv rfl (.m rfl rfl rfl (.fieldAddr fo_30_1_B rfl) ?_))))
   refine .m rfl rfl rfl (.load on_22_B rfl (by first | assumption | exact Mem.of_get at4 1 _ rfl)) ?_
   refine .m rfl rfl rfl (.len sl_22_A rfl) (.m rfl rfl rfl (.cmp rfl rfl rfl) (.nil (hK50 _ _ ?_)))
   refine .cond rfl (fun h187 => ?_) (fun h187 => ?_)
   ·
    simp only [sps] at h187
    have t2 := hS.z.h hS.t (b := b) (by omega)
    have v1 := hS.by (a := a) (y := (m.t.src.getD b 0).toNat) (by omega) (by omega)
    have v2 := hS.by (a := a) (y := (m.t.tgt.getD b 0).toNat) (by omega) (by omega)
    have v3 := hS.hx (b := b) (x := (m.s.src.getD a 0).toNat) (by omega) (by omega)
    have v4 := hS.hx (b := b) (x := (m.s.tgt.getD a 0).toNat) (by omega) (by omega)
    have u1 : ∀ i, i < ((m.be.getD a []).getD (m.t.src.getD b 0).toNat []).length → 0 ≤ ((m.be.getD a []).getD (m.t.src.getD b 0).toNat []).getD i 0 ∧ ((m.be.getD a []).getD (m.t.src.getD b 0).toNat []).getD i 0 < ((m.bh.getD b []).getD (m.s.src.getD a 0).toNat []).length := fun i hi => by
      have := v1.2.2.2.2.1 i hi
      rw [← v3.2.2.2.2.1] at this
      exact this
    have u2 : ∀ i, i < ((m.bh.getD b []).getD (m.s.tgt.getD a 0).toNat []).length → 0 ≤ ((m.bh.getD b []).getD (m.s.tgt.getD a 0).toNat []).getD i 0 ∧ ((m.bh.getD b []).getD (m.s.tgt.getD a 0).toNat []).getD i 0 < ((m.be.getD a []).getD (m.t.tgt.getD b 0).toNat []).length := fun i hi => by
      have := v4.2.2.2.2.2.1 i hi
      rw [← v2.2.2.2.1] at this
      exact this
    have t1 := i41.2 b (by omega)
    have w1 := r1.2 (m.t.src.getD b 0).toNat (by omega)
    have w2 := r1.2 (m.t.tgt.getD b 0).toNat (by omega)
    have w3 := t1.2 (m.s.src.getD a 0).toNat (by omega)
    have w4 := t1.2 (m.s.tgt.getD a 0).toNat (by omega)
    refine .skip ?_
    refine hK49 _ _ (.seq (fun K51 hK51 => ?_))
    refine .block ?_
    refine .seq (fun K52 hK52 => ?_)
    refine .regionD mo_B (.q 0 (.q 1 (.q 2 (.q 3 (.q 4 (.q 5 (.q 6 (.q 7 (.q 8 (.q 9 (.q 10 (.q 11 (.q 12 (.q 13 (.q 14 (.q 15 (.q 16 (.q 17 (.q 18 (.q 19 (.q 20 (.q 21 (.q 22 (.q 23 (.c 24 0 (.q 25 (.done))))))))))))))))))))))))))) (by kernel_rfl) ?_
    refine .m rfl rfl rfl rfl (.refl _) (.fieldAddr fo_34_3_VProf rfl) ?_
    refine .m rfl rfl rfl rfl (.refl _) (.load on_26_VProf rfl (by first | assumption | exact Mem.of_get at1 11 _ rfl)) ?_
    refine .mv rfl rfl ?_
    refine .m rfl rfl rfl rfl (.refl _) (.idxN sl_26_VZ (Intsss.sl (by assumption)) rfl rfl (by omega)) ?_
    refine .m rfl rfl rfl rfl (.refl _) (.loadRR on_23_B (by assumption) rfl (by omega)) ?_
    refine .m rfl rfl rfl rfl (.refl _) (.fieldAddr fo_30_1_B rfl) ?_
    refine .m rfl rfl rfl rfl (.refl _) (.load on_22_B rfl (by first | assumption | exact Mem.of_get at4 1 _ rfl)) ?_
    refine .mv rfl rfl ?_
    refine .m rfl rfl rfl rfl (.refl _) (.idxN sl_22_A (by assumption) rfl rfl (by omega)) ?_
    refine .m rfl rfl rfl rfl (.refl _) (.loadI on_2_A (by assumption) rfl (by omega)) ?_
    refine .m rfl rfl rfl rfl (.refl _) (.idx1 sl_23_B (Intss.sl (by assumption)) rfl rfl (by omega) (by omega)) ?_
    refine .m rfl rfl rfl rfl (.refl _) (.loadR on_22_B (by assumption) rfl (by omega)) ?_
    refine .m rfl rfl rfl rfl (.refl _) (.fieldAddr fo_34_4_VProf rfl) ?_
    refine .m rfl rfl rfl rfl (.refl _) (.load on_26_VProf rfl (by first | assumption | exact Mem.of_get at1 12 _ rfl)) ?_
    refine .mv rfl rfl ?_
    refine .m rfl rfl rfl rfl (.refl _) (.idxN sl_26_VZ (Intsss.sl (by assumption)) rfl rfl (by omega)) ?_
    refine .m rfl rfl rfl rfl (.refl _) (.loadRR on_23_B (by assumption) rfl (by omega)) ?_
    refine .m rfl rfl rfl rfl (.refl _) (.fieldAddr fo_30_1_B rfl) ?_
    refine .m rfl rfl rfl rfl (.refl _) (.load on_22_B rfl (by first | assumption | exact Mem.of_get at3 1 _ rfl)) ?_
    refine .mv rfl rfl ?_
    refine .m rfl rfl rfl rfl (.refl _) (.idxN sl_22_A (by assumption) rfl rfl (by omega)) ?_
    refine .m rfl rfl rfl rfl (.refl _) (.loadI on_2_A (by assumption) rfl (by omega)) ?_
    refine .m rfl rfl rfl rfl (.refl _) (.idx1 sl_23_B (Intss.sl (by assumption)) rfl rfl (by omega) (by omega)) ?_
    refine .m rfl rfl rfl rfl (.refl _) (.loadR on_22_B (by assumption) rfl (by omega)) ?_
    refine .call0 rfl rfl rfl rfl rfl @Try.call132 rfl (l01Then_c) ?_
    rintro _ H214 ⟨le214, g214, rfl, at214, ge214⟩
    replace hle := hle.trans le214
    replace lst1 := lst1.le le214
    replace lst8 := lst8.le le214
    replace lst9 := lst9.le le214
    replace at1 := le214.2 _ _ at1
    replace at3 := le214.2 _ _ at3
    replace at4 := le214.2 _ _ at4
    have lt_at214 := GHeap.ltg at214
    replace hin := base_hin.mono hle
    clear hb1 fs1 ft1 c101 c111 c121 i21 i31 i41 hm1 hi1 hms1 his1 hmt1 hit1
    have hb1 : Prof.At _ g1 0 m p := ⟨Mem.of_get at1, hin⟩
    obtain ⟨fs1, ft1, c101, c111, c121, i21, i31, i41⟩ := hb1.get
    have hm1 : MemN _ _ _ _ _ := ⟨rfl, hb1.1⟩
    have hi1 := hb1.2
    have hms1 : MemN _ _ _ _ _ := ⟨rfl, fs1.1⟩
    have his1 := fs1.2
    have hmt1 : MemN _ _ _ _ _ := ⟨rfl, ft1.1⟩
    have hit1 := ft1.2
    clear hb3 c03 c13 c23 c33 c43 i13 i23 i33 i43 hm3 hi3
    have hb3 : Cat.At _ g3 0 m.s p.s := ⟨Mem.of_get at3, his1⟩
    obtain ⟨c03, c13, c23, c33, c43, i13, i23, i33, i43⟩ := hb3.get
    have hm3 : MemN _ _ _ _ _ := ⟨rfl, hb3.1⟩
    have hi3 := hb3.2
    clear hb4 c04 c14 c24 c34 c44 i14 i24 i34 i44 hm4 hi4
    have hb4 : Cat.At _ g4 0 m.t p.t := ⟨Mem.of_get at4, hit1⟩
    obtain ⟨c04, c14, c24, c34, c44, i14, i24, i34, i44⟩ := hb4.get
    have hm4 : MemN _ _ _ _ _ := ⟨rfl, hb4.1⟩
    have hi4 := hb4.2
    clear r1
    have r1 := i31.2 a (by omega)
    clear t1 w1 w2 w3 w4
    have t1 := i41.2 b (by omega)
    have w1 := r1.2 (m.t.src.getD b 0).toNat (by omega)
    have w2 := r1.2 (m.t.tgt.getD b 0).toNat (by omega)
    have w3 := t1.2 (m.s.src.getD a 0).toNat (by omega)
    have w4 := t1.2 (m.s.tgt.getD a 0).toNat (by omega)
    have i214 := Ints.of_get at214
    refine .mv rfl rfl ?_
    refine .done ?_
    refine hK52 _ _ (.seq (fun K53 hK53 => ?_))
    refine .regionD mo_B (.q 0 (.q 1 (.q 2 (.q 3 (.q 4 (.q 5 (.q 6 (.q 7 (.q 8 (.q 9 (.q 10 (.q 11 (.q 12 (.q 13 (.q 14 (.q 15 (.q 16 (.q 17 (.q 18 (.q 19 (.q 20 (.q 21 (.q 22 (.q 23 (.c 24 0 (.q 25 (.done))))))))))))))))))))))))))) (by kernel_rfl) ?_
    refine .m rfl rfl rfl rfl (.refl _) (.fieldAddr fo_34_4_VProf rfl) ?_
    refine .m rfl rfl rfl rfl (.refl _) (.load on_26_VProf rfl (by first | assumption | exact Mem.of_get at1 12 _ rfl)) ?_
    refine .mv rfl rfl ?_
    refine .m rfl rfl rfl rfl (.refl _) (.idxN sl_26_VZ (Intsss.sl (by assumption)) rfl rfl (by omega)) ?_
    refine .m rfl rfl rfl rfl (.refl _) (.loadRR on_23_B (by assumption) rfl (by omega)) ?_
    refine .m rfl rfl rfl rfl (.refl _) (.fieldAddr fo_30_2_B rfl) ?_
    refine .m rfl rfl rfl rfl (.refl _) (.load on_22_B rfl (by first | assumption | exact Mem.of_get at3 2 _ rfl)) ?_
    refine .mv rfl rfl ?_
    refine .m rfl rfl rfl rfl (.refl _) (.idxN sl_22_A (by assumption) rfl rfl (by omega)) ?_
    refine .m rfl rfl rfl rfl (.refl _) (.loadI on_2_A (by assumption) rfl (by omega)) ?_
    refine .m rfl rfl rfl rfl (.refl _) (.idx1 sl_23_B (Intss.sl (by assumption)) rfl rfl (by omega) (by omega)) ?_
    refine .m rfl rfl rfl rfl (.refl _) (.loadR on_22_B (by assumption) rfl (by omega)) ?_
    refine .m rfl rfl rfl rfl (.refl _) (.fieldAddr fo_34_3_VProf rfl) ?_
    refine .m rfl rfl rfl rfl (.refl _) (.load on_26_VProf rfl (by first | assumption | exact Mem.of_get at1 11 _ rfl)) ?_
    refine .mv rfl rfl ?_
    refine .m rfl rfl rfl rfl (.refl _) (.idxN sl_26_VZ (Intsss.sl (by assumption)) rfl rfl (by omega)) ?_
    refine .m rfl rfl rfl rfl (.refl _) (.loadRR on_23_B (by assumption) rfl (by omega)) ?_
    refine .m rfl rfl rfl rfl (.refl _) (.fieldAddr fo_30_2_B rfl) ?_
    refine .m rfl rfl rfl rfl (.refl _) (.load on_22_B rfl (by first | assumption | exact Mem.of_get at4 2 _ rfl)) ?_
    refine .mv rfl rfl ?_
    refine .m rfl rfl rfl rfl (.refl _) (.idxN sl_22_A (by assumption) rfl rfl (by omega)) ?_
    refine .m rfl rfl rfl rfl (.refl _) (.loadI on_2_A (by assumption) rfl (by omega)) ?_
    refine .m rfl rfl rfl rfl (.refl _) (.idx1 sl_23_B (Intss.sl (by assumption)) rfl rfl (by omega) (by omega)) ?_
    refine .m rfl rfl rfl rfl (.refl _) (.loadR on_22_B (by assumption) rfl (by omega)) ?_
    refine .call0 rfl rfl rfl rfl rfl @Try.call132 rfl (l01Then_c) ?_
    rintro _ H239 ⟨le239, g239, rfl, at239, ge239⟩
    replace hle := hle.trans le239
    replace lst1 := lst1.le le239
    replace lst8 := lst8.le le239
    replace lst9 := lst9.le le239
    replace at1 := le239.2 _ _ at1
    replace at3 := le239.2 _ _ at3
    replace at4 := le239.2 _ _ at4
    replace at214 := le239.2 _ _ at214
    have lt_at239 := GHeap.ltg at239
    replace hin := base_hin.mono hle
    clear hb1 fs1 ft1 c101 c111 c121 i21 i31 i41 hm1 hi1 hms1 his1 hmt1 hit1
    have hb1 : Prof.At _ g1 0 m p := ⟨Mem.of_get at1, hin⟩
    obtain ⟨fs1, ft1, c101, c111, c121, i21, i31, i41⟩ := hb1.get
    have hm1 : MemN _ _ _ _ _ := ⟨rfl, hb1.1⟩
    have hi1 := hb1.2
    have hms1 : MemN _ _ _ _ _ := ⟨rfl, fs1.1⟩
    have his1 := fs1.2
    have hmt1 : MemN _ _ _ _ _ := ⟨rfl, ft1.1⟩
    have hit1 := ft1.2
    clear hb3 c03 c13 c23 c33 c43 i13 i23 i33 i43 hm3 hi3
    have hb3 : Cat.At _ g3 0 m.s p.s := ⟨Mem.of_get at3, his1⟩
    obtain ⟨c03, c13, c23, c33, c43, i13, i23, i33, i43⟩ := hb3.get
    have hm3 : MemN _ _ _ _ _ := ⟨rfl, hb3.1⟩
    have hi3 := hb3.2
    clear hb4 c04 c14 c24 c34 c44 i14 i24 i34 i44 hm4 hi4
    have hb4 : Cat.At _ g4 0 m.t p.t := ⟨Mem.of_get at4, hit1⟩
    obtain ⟨c04, c14, c24, c34, c44, i14, i24, i34, i44⟩ := hb4.get
    have hm4 : MemN _ _ _ _ _ := ⟨rfl, hb4.1⟩
    have hi4 := hb4.2
    clear r1
    have r1 := i31.2 a (by omega)
    clear t1 w1 w2 w3 w4
    have t1 := i41.2 b (by omega)
    have w1 := r1.2 (m.t.src.getD b 0).toNat (by omega)
    have w2 := r1.2 (m.t.tgt.getD b 0).toNat (by omega)
    have w3 := t1.2 (m.s.src.getD a 0).toNat (by omega)
    have w4 := t1.2 (m.s.tgt.getD a 0).toNat (by omega)
    clear i214
    have i214 := Ints.of_get at214
    have i239 := Ints.of_get at239
    refine .mv rfl rfl ?_
    refine .done ?_
    refine hK53 _ _ (.seq (fun K54 hK54 => .region (.mv rfl (.mv rfl ?_))))
    refine .callQ rfl rfl rfl rfl @Try.call105 rfl (l01Same_c (hx := by rw [length_thenL]; omega) (hy := by rw [length_thenL]; omega)) ?_
    refine .m rfl rfl rfl (.not rfl) (.nil (hK54 _ _ ?_))
    refine .cond rfl (fun h243 => ?_) (fun h243 => ?_)
    ·
     try simp only [sps] at h243
     refine .seq (fun K55 hK55 => .region (.mv rfl (.nil (hK55 _ _ ?_))))
     refine .ret ?_
     refine hret _ _ ?_
     refine ⟨_, rfl, ?_⟩
     exact ⟨congrArg _ (B_false fun hh => h243 (hh.2 a (by omega) b (by omega))), hle⟩
    try simp only [sps] at h243
    refine .skip ?_
    refine hK51 _ _ (.region (.mv rfl ?_))
    refine .m rfl rfl rfl (.add rfl rfl rfl (by omega) (by omega)) ?_
    refine .mv rfl (.nil ?_)
    refine hKL9 (b + 1) _ _ ?_ ?_ ⟨rfl, rfl, rfl, rfl, rfl, trivial⟩
    ·
     refine ⟨lst9, ?_⟩
     refine ⟨by omega, fun b' hx => ?_⟩
     by_cases hltq : b' < b
     · exact ha9 b' hltq
     · obtain rfl : b' = b := by omega
       exact h243
    omega
   try simp only [sps] at h187
   refine .exit ?_
   refine hK47 _ _ (.region (.mv rfl ?_))
   refine .m rfl rfl rfl (.add rfl rfl rfl (by omega) (by omega)) ?_
   refine .mv rfl (.nil ?_)
   refine hKL8 (a + 1) _ _ ?_ ?_ ⟨rfl, rfl, rfl, rfl, trivial⟩
   ·
    refine ⟨lst8, ?_⟩
    refine ⟨by omega, fun a' hx => ?_⟩
    by_cases hltq : a' < a
    · exact ha8 a' hltq
    · obtain rfl : a' = a := by omega
      exact fun b hb => ha9 b (by omega)
   omega
  try simp only [sps] at h180
  refine .exit ?_
  refine hK43 _ _ (.seq (fun K56 hK56 => .region (.mv rfl (.nil (hK56 _ _ ?_)))))
  refine .ret ?_
  refine hret _ _ ?_
  refine ⟨_, rfl, ?_⟩
  exact ⟨congrArg _ (B_true ⟨⟨fun y hy x hx => (ha1 y (by omega)).1 x (by omega), fun y hy a ha b hb => (ha1 y (by omega)).2 a (by omega) b (by omega), fun x hx a ha b hb => ha5 x (by omega) a (by omega) b (by omega)⟩, fun a ha b hb => ha8 a (by omega) b (by omega)⟩), hle⟩
theorem l22Is_c {m : Prof} {p : ProfP} {H : GHeap} (hin : m.In H p := by assumption) (hs : m.Small := by assumption) :
    GCalls Try.prog 42 [.agg (m.cells p).toArray] H (Ret (.bool (B m.Is)) H) := by
  refine GCalls.ret rfl ?_
  have hs1 := hs
  obtain ⟨w1, w2, _⟩ := hs1
  refine GCalls.body (N := 23) (rs := [.tmp 2]) Try.func42 rfl rfl rfl rfl (fun Qx hret hend => ?_)
  refine .forget (fr' := [(0, some _)]) ⟨rfl, trivial⟩ ?_
  have hle := GHeap.Le.refl H
  have base_hin := hin
  refine .seq (fun K1 hK1 => .region ?_)
  refine .r rfl rfl rfl (.boxR rfl sz_34_VProf rfl) ?_
  rintro _ H1 ⟨g1, rfl, le1, ge1, at1⟩
  replace hle := hle.trans le1
  have lt_at1 := GHeap.ltg at1
  replace hin := base_hin.mono hle
  have hb1 : Prof.At _ g1 0 m p := ⟨Mem.of_get at1, hin⟩
  obtain ⟨fs1, ft1, c101, c111, c121, i21, i31, i41⟩ := hb1.get
  have hm1 : MemN _ _ _ _ _ := ⟨rfl, hb1.1⟩
  have hi1 := hb1.2
  have hms1 : MemN _ _ _ _ _ := ⟨rfl, fs1.1⟩
  have his1 := fs1.2
  have hmt1 : MemN _ _ _ _ _ := ⟨rfl, ft1.1⟩
  have hit1 := ft1.2
  refine .mv rfl (.nil (hK1 _ _ (.seq (fun K2 hK2 => .region (.m rfl rfl rfl (.fieldAddr fo_34_0_VProf rfl) ?_)))))
  refine .m rfl rfl rfl (.loadM ag_30_D rfl (by assumption)) ?_
  refine .callQ rfl rfl rfl rfl @Try.call89 rfl (l02Is_c) ?_
  refine .mv rfl ?_
  refine .split (fun h6 => ?_) (fun h6 => ?_)
  ·
   try simp only [sps] at h6
   refine .mg rfl rfl rfl rfl rfl (.fieldAddr fo_34_1_VProf rfl) ?_
   refine .mg rfl rfl rfl rfl rfl (.loadM ag_30_D rfl (by assumption)) ?_
   refine .callQg rfl rfl rfl rfl rfl rfl @Try.call89 rfl (l02Is_c) ?_
   refine .m rfl rfl rfl (.pickT rfl rfl) (.mv rfl ?_)
   refine .split (fun h11 => ?_) (fun h11 => ?_)
   ·
    try simp only [sps] at h11
    refine .mg rfl rfl rfl rfl rfl (.loadM ag_34_VProf rfl ⟨rfl, Mem.of_get at1⟩) ?_
    refine .callQg rfl rfl rfl rfl rfl rfl @Try.call90 rfl (l22Sized_c) ?_
    refine .m rfl rfl rfl (.pickT rfl rfl) (.mv rfl ?_)
    refine .split (fun h15 => ?_) (fun h15 => ?_)
    ·
     try simp only [sps] at h15
     refine .mg rfl rfl rfl rfl rfl (.loadM ag_34_VProf rfl ⟨rfl, Mem.of_get at1⟩) ?_
     refine .callQg rfl rfl rfl rfl rfl rfl @Try.call91 rfl (l22Maps_c) ?_
     refine .m rfl rfl rfl (.pickT rfl rfl) (.mv rfl ?_)
     refine .split (fun h19 => ?_) (fun h19 => ?_)
     ·
      simp only [sps] at h19
      have hS : m.Shape := ⟨h6, h11, h15, h19⟩
      refine .mg rfl rfl rfl rfl rfl (.loadM ag_34_VProf rfl ⟨rfl, Mem.of_get at1⟩) ?_
      refine .callQg rfl rfl rfl rfl rfl rfl @Try.call92 rfl (l22Laws_c) ?_
      refine .m rfl rfl rfl (.pickT rfl rfl) (.mv rfl (.nil (hK2 _ _ ?_)))
      refine .ret ?_
      refine hret _ _ ?_
      refine ⟨_, rfl, ?_⟩
      exact ⟨congrArg _ (B_congr ⟨fun hh => ⟨hh.2.1, hh.2.2⟩, fun hh => ⟨hS, hh.1, hh.2⟩⟩), hle⟩
     try simp only [sps] at h19
     refine .sg rfl rfl rfl rfl rfl (.sg rfl rfl rfl rfl rfl (.m rfl rfl rfl (.pickF rfl rfl) (.mv rfl (.nil (hK2 _ _ ?_)))))
     refine .ret ?_
     refine hret _ _ ?_
     refine ⟨_, rfl, ?_⟩
     exact ⟨congrArg _ (B_false fun hh => absurd hh.1.ok (by assumption)), hle⟩
    try simp only [sps] at h15
    refine .sg rfl rfl rfl rfl rfl (.sg rfl rfl rfl rfl rfl (.m rfl rfl rfl (.pickF rfl rfl) (.mv rfl (.sg rfl rfl rfl rfl rfl (.sg rfl rfl rfl rfl rfl (.m rfl rfl rfl (.pickF rfl rfl) (.mv rfl (.nil (hK2 _ _ ?_)))))))))
    refine .ret ?_
    refine hret _ _ ?_
    refine ⟨_, rfl, ?_⟩
    exact ⟨congrArg _ (B_false fun hh => absurd hh.1.z (by assumption)), hle⟩
   try simp only [sps] at h11
   refine .sg rfl rfl rfl rfl rfl (.sg rfl rfl rfl rfl rfl (.m rfl rfl rfl (.pickF rfl rfl) (.mv rfl (.sg rfl rfl rfl rfl rfl (.sg rfl rfl rfl rfl rfl (.m rfl rfl rfl (.pickF rfl rfl) (.mv rfl (.sg rfl rfl rfl rfl rfl (.sg rfl rfl rfl rfl rfl (.m rfl rfl rfl (.pickF rfl rfl) (.mv rfl (.nil (hK2 _ _ ?_)))))))))))))
   refine .ret ?_
   refine hret _ _ ?_
   refine ⟨_, rfl, ?_⟩
   exact ⟨congrArg _ (B_false fun hh => absurd hh.1.t (by assumption)), hle⟩
  try simp only [sps] at h6
  refine .sg rfl rfl rfl rfl rfl (.sg rfl rfl rfl rfl rfl (.sg rfl rfl rfl rfl rfl (.m rfl rfl rfl (.pickF rfl rfl) (.mv rfl (.sg rfl rfl rfl rfl rfl (.sg rfl rfl rfl rfl rfl (.m rfl rfl rfl (.pickF rfl rfl) (.mv rfl (.sg rfl rfl rfl rfl rfl (.sg rfl rfl rfl rfl rfl (.m rfl rfl rfl (.pickF rfl rfl) (.mv rfl (.sg rfl rfl rfl rfl rfl (.sg rfl rfl rfl rfl rfl (.m rfl rfl rfl (.pickF rfl rfl) ?_)))))))))))))))
  refine .mv rfl (.nil (hK2 _ _ ?_))
  refine .ret ?_
  refine hret _ _ ?_
  refine ⟨_, rfl, ?_⟩
  exact ⟨congrArg _ (B_false fun hh => absurd hh.1.s (by assumption)), hle⟩
end Go.Proofs.Ytdjodpdmbklfhaa
namespace Go.GL
theorem Lasts.of_le {e : TypeId} {H H' : GHeap} (h : H.Le H') : Lasts e H H' := fun x _ hx => h.2 x _ hx
def lePr (k : Fun) (y : Int) (x i e : Nat) : List Int := [(x : Int), (k.t.hom (k.ob.getD x 0) y).getD i 0, (e : Int)]
def leL (k : Fun) (f : SFun) (y : Int) (x i e : Nat) : List (List Int) := nest3 (lePr k y) (fun x => (k.t.hom (k.ob.getD x 0) y).length) (fun x _ => (f.sz.getD x 0).toNat) x i e
theorem leLen {k : Fun} {f : SFun} (hk : k.Is) (hf : f.Is) (h : f.sh = k.s) : f.sz.length = k.ob.length := by
  have h1 := hf.1.zl
  have h2 := hk.2.2.ol
  rw [h] at h1
  omega
end Go.GL
namespace Go.GL
noncomputable def ctCode (p q : Prof) (x z : Int) : Int := bif B (p.Is ∧ q.Is) then (bif B ((0 ≤ x ∧ x < p.s.obj) ∧ (0 ≤ z ∧ z < q.t.obj)) then (bif B (p.t = q.s) then 0 else 5) else 2) else 1
theorem ctCode_1 {p q : Prof} {x z : Int} (h : ¬ (p.Is ∧ q.Is)) : ctCode p q x z = 1 := by unfold ctCode; rw [B_false h]; rfl
theorem ctCode_2 {p q : Prof} {x z : Int} (h : p.Is ∧ q.Is) (h' : ¬ ((0 ≤ x ∧ x < p.s.obj) ∧ (0 ≤ z ∧ z < q.t.obj))) : ctCode p q x z = 2 := by unfold ctCode; rw [B_true h, B_false h']; rfl
theorem ctCode_3 {p q : Prof} {x z : Int} (h : p.Is ∧ q.Is) (h' : (0 ≤ x ∧ x < p.s.obj) ∧ (0 ≤ z ∧ z < q.t.obj)) (h'' : ¬ p.t = q.s) : ctCode p q x z = 5 := by unfold ctCode; rw [B_true h, B_true h', B_false h'']; rfl
theorem ctCode_0 {p q : Prof} {x z : Int} (h : ctCode p q x z = 0) : p.Is ∧ q.Is ∧ 0 ≤ x ∧ x < p.s.obj ∧ 0 ≤ z ∧ z < q.t.obj ∧ p.t = q.s := by
  by_cases h1 : p.Is ∧ q.Is
  · by_cases h2 : (0 ≤ x ∧ x < p.s.obj) ∧ (0 ≤ z ∧ z < q.t.obj)
    · by_cases h3 : p.t = q.s
      · exact ⟨h1.1, h1.2, h2.1.1, h2.1.2, h2.2.1, h2.2.2, h3⟩
      · rw [ctCode_3 h1 h2 h3] at h; omega
    · rw [ctCode_2 h1 h2] at h; omega
  · rw [ctCode_1 h1] at h; omega
def ctPr (y e d : Nat) : List Int := [(y : Int), (e : Int), (d : Int)]
def ctL (p q : Prof) (x z : Int) (y e d : Nat) : List (List Int) := nest3 ctPr (fun y => ((p.sz.getD x.toNat []).getD y 0).toNat) (fun y _ => ((q.sz.getD y []).getD z.toNat 0).toNat) y e d
theorem ctL_snoc {p q : Prof} {x z : Int} {y e d : Nat} : ctL p q x z y e (d + 1) = ctL p q x z y e d ++ [ctPr y e d] := nest3_snoc
theorem ctL_next2 {p q : Prof} {x z : Int} {y e : Nat} : ctL p q x z y (e + 1) 0 = ctL p q x z y e ((q.sz.getD y []).getD z.toNat 0).toNat := nest3_next2
theorem ctL_next1 {p q : Prof} {x z : Int} {y : Nat} : ctL p q x z (y + 1) 0 0 = ctL p q x z y ((p.sz.getD x.toNat []).getD y 0).toNat 0 := nest3_next1
structure CtOk (p q : Prof) (x z : Int) (n : Nat) : Prop where
  n8 : n ≤ 8
  x0 : 0 ≤ x
  xl : x.toNat < p.sz.length
  z0 : 0 ≤ z
  pn : ((p.sz.getD x.toNat []).length : Int) = n
  qn : (q.sz.length : Int) = n
  pe : ∀ y, y < n → 0 ≤ (p.sz.getD x.toNat []).getD y 0 ∧ (p.sz.getD x.toNat []).getD y 0 ≤ 64
  qe : ∀ y, y < n → z.toNat < (q.sz.getD y []).length ∧ 0 ≤ (q.sz.getD y []).getD z.toNat 0 ∧ (q.sz.getD y []).getD z.toNat 0 ≤ 64
theorem CtOk.of {p q : Prof} {x z : Int} (hp : p.Is) (hq : q.Is) (h1 : 0 ≤ x) (h2 : x < p.s.obj) (h3 : 0 ≤ z) (h4 : z < q.t.obj) (h5 : p.t = q.s) : CtOk p q x z p.t.obj.toNat ∧ 0 ≤ p.t.obj := by
  have a1 := hp.1.t.1.obj
  have a2 := hp.1.z.sl
  have a3 := hq.1.z.sl
  have a4 := hp.1.z.row x.toNat (by omega)
  have e1 : q.s.obj = p.t.obj := by rw [h5]
  refine ⟨⟨by omega, h1, by omega, h3, by omega, by omega, fun y hy => hp.1.z.rng _ (by omega) y (by omega), fun y hy => ?_⟩, by omega⟩
  have b1 := hq.1.z.row y (by omega)
  exact ⟨by omega, hq.1.z.rng y (by omega) z.toNat (by omega)⟩
theorem CtOk.len {p q : Prof} {x z : Int} {n y e d : Nat} (h : CtOk p q x z n) (hy : y < n) (he : e < ((p.sz.getD x.toNat []).getD y 0).toNat) (hd : d ≤ ((q.sz.getD y []).getD z.toNat 0).toNat) : (ctL p q x z y e d).length ≤ 32768 := by
  have := nest3_le (pr := ctPr) (s1 := fun y => ((p.sz.getD x.toNat []).getD y 0).toNat) (s2 := fun y _ => ((q.sz.getD y []).getD z.toNat 0).toNat) (c := 64) (d := 64) (n := n) (fun a ha => by have := h.pe a ha; omega) (fun a ha b _ => by have := h.qe a ha; omega) hy he hd
  have h2 : n * (64 * 64) ≤ 8 * (64 * 64) := Nat.mul_le_mul_right _ h.n8
  exact Nat.le_trans this h2
def tcells (xss : List (List Int)) : List Value := xss.flatMap ints
theorem tcells_len {xss : List (List Int)} (h : ∀ x ∈ xss, x.length = 3) : (tcells xss).length = xss.length * 3 := by
  induction xss with
  | nil => rfl
  | cons x r ih =>
    have h1 := h x (by simp)
    have h2 := ih fun y hy => h y (by simp [hy])
    unfold tcells at h2 ⊢
    simp only [List.flatMap_cons, List.length_append, length_ints, List.length_cons]
    omega
theorem tcells_slA {H : GHeap} {g : Nat} {e : TypeId} {own : Bool} {xss : List (List Int)} (h : ∀ x ∈ xss, x.length = 3) (hg : H.get g = some (.row (tcells xss) e own)) : SlA H (some ⟨g, 0, none⟩) (xss.length * 3) (fun i => (tcells xss).getD i undef) :=
  .inr ⟨g, 0, rfl, fun i hi => by
    rw [GHeap.cell_of hg, Nat.zero_add]
    show _ = some ((tcells xss).getD i undef)
    rw [List.getD_eq_getElem?_getD, List.getElem?_eq_getElem (by rw [tcells_len h]; exact hi)]; rfl⟩
structure TrAt (b : Nat) (H : GHeap) (g : Nat) (xss : List (List Int)) : Prop where
  lo : b ≤ g
  three : ∀ x ∈ xss, x.length = 3
  at' : ∃ e, H.get g = some (.row (tcells xss) e true)
theorem TrAt.keep {b b' : Nat} {H H' : GHeap} {g : Nat} {xss : List (List Int)} (h : TrAt b H g xss) (k : Keep b' H H') (hb : b' ≤ b) : TrAt b' H' g xss := by
  obtain ⟨h1, h2, e, h3⟩ := h
  exact ⟨by omega, h2, e, k _ _ (by omega) h3⟩
theorem TrAt.sl {b : Nat} {H : GHeap} {g : Nat} {xss : List (List Int)} (h : TrAt b H g xss) : SlA H (some ⟨g, 0, none⟩) (xss.length * 3) (fun i => (tcells xss).getD i undef) := by
  obtain ⟨h1, h2, e, h3⟩ := h
  exact tcells_slA h2 h3
theorem TrAt.row {b : Nat} {H : GHeap} {g : Nat} {xss : List (List Int)} (h : TrAt b H g xss) {i : Nat} (hi : i < xss.length) : (xss.getD i []).length = 3 := h.three _ (getD_mem_list (d := []) hi)
end Go.GL
namespace Go.GL
def u8s (ns : List Int) : List Value := ns.map (Value.int .u8)
@[simp] theorem length_u8s (ns : List Int) : (u8s ns).length = ns.length := by simp [u8s]
def idxLL (xss : List (List Int)) (t : List Int) : Int := match firstN xss.length fun i => xss.getD i [] == t with | some i => (i : Int) | none => -1
theorem idxLL_some {xss : List (List Int)} {t : List Int} {i : Nat} (hi : i < xss.length) (h : xss.getD i [] = t) (hb : ∀ j, j < i → ¬ xss.getD j [] = t) : idxLL xss t = i := by
  unfold idxLL
  rw [firstN_some hi (by simpa using h) fun j hj => by simpa using hb j hj]
theorem idxLL_none {xss : List (List Int)} {t : List Int} (h : ∀ j, j < xss.length → ¬ xss.getD j [] = t) : idxLL xss t = -1 := by
  unfold idxLL
  rw [firstN_none fun j hj => by simpa using h j hj]
theorem getD_inj {xss : List (List Int)} (hn : xss.Nodup) {i j : Nat} (hi : i < xss.length) (hj : j < xss.length) (h : xss.getD i [] = xss.getD j []) : i = j := by
  rw [List.getD_eq_getElem?_getD, List.getD_eq_getElem?_getD, List.getElem?_eq_getElem hi, List.getElem?_eq_getElem hj] at h
  exact (List.getElem_inj hn).1 (by simpa using h)
theorem idxLL_at {xss : List (List Int)} (hn : xss.Nodup) {i : Nat} (hi : i < xss.length) : idxLL xss (xss.getD i []) = i := idxLL_some hi rfl fun j hj e => by have := getD_inj hn (by omega) hi e; omega
theorem idxLL_mem {xss : List (List Int)} (hn : xss.Nodup) {t : List Int} (h : t ∈ xss) : ∃ i : Nat, i < xss.length ∧ xss.getD i [] = t ∧ idxLL xss t = i := by
  obtain ⟨i, hi, e⟩ := List.getElem_of_mem h
  have e2 : xss.getD i [] = t := by rw [List.getD_eq_getElem?_getD, List.getElem?_eq_getElem hi, e]; rfl
  exact ⟨i, hi, e2, by rw [← e2]; exact idxLL_at hn hi⟩
structure Keys (n : Nat) (xss : List (List Int)) : Prop where
  nd : xss.Nodup
  ok : ∀ t ∈ xss, t.length = n ∧ ∀ i, i < n → 0 ≤ t.getD i 0 ∧ t.getD i 0 ≤ 255
end Go.GL
namespace Go.GL
abbrev rep (xs : List Int) (k : Nat) : Nat := least (kerB xs) k
theorem rep_lab (xs : List Int) (k : Nat) : xs.getD (rep xs k) 0 = xs.getD k 0 := by
  have := (least_mate (kerB_eqv xs (k + 1)) (i := k) (by omega)).1
  unfold kerB at this
  exact eq_of_beq this
theorem rep_eq {xs : List Int} {a b : Nat} : rep xs a = rep xs b ↔ xs.getD a 0 = xs.getD b 0 := by
  have := least_congr_mate (kerB_eqv xs (a + b + 1)) (i := a) (j := b) (by omega) (by omega)
  rw [this]; simp [kerB]
def pairsL (xs : List Int) (m : Nat) : List (List Int) := (List.range m).map fun i => [(rep xs i : Int), (i : Int)]
@[simp] theorem length_pairsL (xs : List Int) (m : Nat) : (pairsL xs m).length = m := by simp [pairsL]
abbrev Cat.tn (c : Cat) (a b : Nat) : Nat := ((c.comp.getD a []).getD b 0).toNat
theorem Cat.Shape.tn {c : Cat} (h : c.Shape) {a b : Nat} (ha : a < c.src.length) (hb : b < c.src.length) (e : c.tgt.getD a 0 = c.src.getD b 0) :
    c.tn a b < c.src.length ∧ c.src.getD (c.tn a b) 0 = c.src.getD a 0 ∧ c.tgt.getD (c.tn a b) 0 = c.tgt.getD b 0 ∧ (c.comp.getD a []).getD b 0 = (c.tn a b : Int) := by
  have h1 := (Cat.Cell.pos e).1 (h.cell a (by have := h.cl; omega) b hb)
  obtain ⟨h2, h3, h4, h5⟩ := h1
  exact ⟨by unfold Cat.tn; omega, h4, h5, by unfold Cat.tn; omega⟩
def Cat.ParOk (c : Cat) (xs : List Int) : Prop := ∀ k, k < c.src.length → c.src.getD (rep xs k) 0 = c.src.getD k 0 ∧ c.tgt.getD (rep xs k) 0 = c.tgt.getD k 0
def Cat.CmpOk (c : Cat) (xs : List Int) : Prop := ∀ i, i < c.src.length → ∀ j, j < c.src.length → c.tgt.getD i 0 = c.src.getD j 0 → xs.getD (c.tn i j) 0 = xs.getD (c.tn (rep xs i) (rep xs j)) 0
structure Cat.Cong (c : Cat) (xs : List Int) : Prop where
  len : xs.length = c.src.length
  nor : clsL (kerB xs) xs.length = xs
  par : c.ParOk xs
  cmp : c.CmpOk xs

theorem OwnL.low {b b' : Nat} {H : GHeap} {e : TypeId} {r : Nat → Option Addr} {xss : List (List Int)} (h : OwnL b H e r xss) (hb : b' ≤ b) : OwnL b' H e r xss := ⟨fun i hi => by
  obtain ⟨g, h1, h2, h3⟩ := h.row i hi
  exact ⟨g, h1, by omega, h3⟩, h.inj⟩
theorem Intss.slN {H : GHeap} {a : Option Addr} {xss : List (List Int)} {r : Nat → Option Addr} {n : Nat} (h : Intss H a xss r) (hn : xss.length = n) : SlA H a n (fun i => .slice (r i) (xss.getD i []).length (xss.getD i []).length) := by subst hn; exact h.1
def Cat.quOk (c : Cat) (xs : List Int) (t : Nat × Nat × Nat) : Bool := decide (c.tgt.getD t.2.1 0 = c.src.getD (rep xs t.1) 0) && decide (c.tgt.getD (rep xs t.1) 0 = c.src.getD t.2.2 0)
def Cat.quRow (c : Cat) (xs : List Int) (t : Nat × Nat × Nat) : List Int := [(c.tn (c.tn t.2.1 (rep xs t.1)) t.2.2 : Int), (c.tn (c.tn t.2.1 t.1) t.2.2 : Int)]
def quT (n k i j : Nat) : List (Nat × Nat × Nat) := nest3 (fun a b d => (a, b, d)) (fun _ => n) (fun _ _ => n) k i j
def Cat.quL (c : Cat) (xs : List Int) (k i j : Nat) : List (List Int) := pairsL xs c.src.length ++ ((quT c.src.length k i j).filter (c.quOk xs)).map (c.quRow xs)
theorem Cat.quL_zero (c : Cat) (xs : List Int) : c.quL xs 0 0 0 = pairsL xs c.src.length := by simp [Cat.quL, quT, nest3_zero]
@[simp] theorem Cat.quL_len0 (c : Cat) (xs : List Int) : (c.quL xs 0 0 0).length = c.src.length := by rw [Cat.quL_zero, length_pairsL]
def NorK (xs : List Int) (k : Nat) : Prop := ∀ i, i < k → xs.getD i 0 = clsAt (kerB xs) i
theorem NorK.zero (xs : List Int) : NorK xs 0 := fun i hi => by omega
theorem reps_lt_of {xs : List Int} {j k : Nat} (hj : least (kerB xs) j = j) (h : j < k) : reps (kerB xs) j < reps (kerB xs) k := by
  have h5 := reps_mono (K := kerB xs) (a := j + 1) h
  rw [reps_succ, if_pos hj] at h5
  omega
theorem NorK.old {xs : List Int} {k : Nat} (h : NorK xs k) (hl : least (kerB xs) k < k) : xs.getD k 0 = clsAt (kerB xs) k ∧ xs.getD k 0 < (reps (kerB xs) k : Int) := by
  have h1 := rep_lab xs k
  have h2 := h _ hl
  have hi := least_idem (kerB_eqv xs (k + 1)) (i := k) (by omega)
  have h3 := reps_lt_of (xs := xs) hi hl
  unfold clsAt at h2 ⊢
  rw [hi] at h2
  unfold rep at h1
  omega
theorem NorK.lo {xs : List Int} {k : Nat} (h : NorK xs k) (h0 : 0 ≤ xs.getD k 0) (h1 : xs.getD k 0 < (reps (kerB xs) k : Int)) : NorK xs (k + 1) ∧ reps (kerB xs) (k + 1) = reps (kerB xs) k := by
  obtain ⟨j, hj, hjj, hr, _⟩ := seenL_at (xs := xs) (i := k) (m := (xs.getD k 0).toNat) (by rw [length_seenL]; omega)
  have hx : xs.getD j 0 = xs.getD k 0 := by
    rw [h j hj]; unfold clsAt; rw [hjj]; omega
  have hlt : least (kerB xs) k < k := by
    have e : rep xs j = rep xs k := rep_eq.2 hx
    unfold rep at e
    omega
  refine ⟨fun i hi => ?_, by rw [reps_succ, if_neg (by omega)]; rfl⟩
  by_cases e : i < k
  · exact h i e
  · obtain rfl : i = k := by omega
    exact (h.old hlt).1
theorem NorK.hi {xs : List Int} {k : Nat} (h : NorK xs k) (h1 : xs.getD k 0 = (reps (kerB xs) k : Int)) : NorK xs (k + 1) ∧ reps (kerB xs) (k + 1) = reps (kerB xs) k + 1 := by
  have hk : least (kerB xs) k = k := by
    have := least_le (kerB xs) k
    refine Classical.byContradiction fun hne => ?_
    have := (h.old (by omega)).2
    omega
  refine ⟨fun i hi => ?_, by rw [reps_succ, if_pos hk]⟩
  by_cases e : i < k
  · exact h i e
  · obtain rfl : i = k := by omega
    unfold clsAt; rw [hk]; exact h1
end Go.GL
namespace Go.GL
def repL (xs : List Int) (n : Nat) : List Nat := (List.range n).filter fun i => rep xs i == i
def Cat.quoX (c : Cat) (xs : List Int) (i j : Nat) : Int := if 0 ≤ (c.comp.getD i []).getD j 0 then xs.getD ((c.comp.getD i []).getD j 0).toNat 0 else (c.comp.getD i []).getD j 0
def Cat.quo (c : Cat) (xs : List Int) : Cat where
  obj := c.obj
  src := (repL xs xs.length).map fun i => c.src.getD i 0
  tgt := (repL xs xs.length).map fun i => c.tgt.getD i 0
  idn := c.idn.map fun a => xs.getD a.toNat 0
  comp := (repL xs xs.length).map fun i => (repL xs xs.length).map fun j => c.quoX xs i j

def fromL (xs : List Int) (n e : Nat) (v : Int) : Option Nat := (List.range n).find? fun i => decide (e ≤ i) && xs.getD i 0 == v
def backL (xs : List Int) (f : Nat → Int) (m n e : Nat) : List Int := (List.range m).map fun (v : Nat) => match fromL xs n e v with | some i => f i | none => 0
@[simp] theorem length_backL (xs : List Int) (f : Nat → Int) (m n e : Nat) : (backL xs f m n e).length = m := by simp [backL]
end Go.GL
namespace Go.GL
def repI (xs : List Int) (n : Nat) : List Int := (repL xs n).map fun (i : Nat) => (i : Int)
@[simp] theorem length_repI (xs : List Int) (n : Nat) : (repI xs n).length = (repL xs n).length := by simp [repI]
theorem NorK.lt {xs : List Int} {n k : Nat} (h : NorK xs n) (hk : k < n) : xs.getD k 0 < (reps (kerB xs) n : Int) := by
  rw [h k hk]
  unfold clsAt
  have := reps_lt_of (least_idem (kerB_eqv xs n) hk) (Nat.lt_of_le_of_lt (least_le (kerB xs) k) hk)
  omega
def NewCatR (H : GHeap) (c : Cat) (v : Value) (H' : GHeap) : Prop := H.Le H' ∧ ∃ p, v = .agg (c.cells p).toArray ∧ CatR H.next H' c p
end Go.GL
namespace Go.GL
def tabB (n : Nat) (p : Nat → Bool) : List Bool := (List.range n).map p
@[simp] theorem length_tabB (n : Nat) (p : Nat → Bool) : (tabB n p).length = n := by simp [tabB]
theorem tabB_congr {n : Nat} {p q : Nat → Bool} (h : ∀ i, i < n → p i = q i) : tabB n p = tabB n q := List.map_congr_left fun i hi => h i (List.mem_range.1 hi)
def slsN (r : Nat → Nat) (L : Nat → Nat) (k : Nat) : List Value := (List.range k).map fun i => .slice (some ⟨r i, 0, none⟩) (L i) (L i)
@[simp] theorem length_slsN (r : Nat → Nat) (L : Nat → Nat) (k : Nat) : (slsN r L k).length = k := by simp [slsN]
def updN (r : Nat → Nat) (k g : Nat) : Nat → Nat := fun i => if i = k then g else r i
theorem updN_eq (r : Nat → Nat) (k g : Nat) : updN r k g k = g := by simp [updN]
theorem updN_ne {r : Nat → Nat} {k i g : Nat} (h : i ≠ k) : updN r k g i = r i := by simp [updN, h]
def LastsV (e : TypeId) (H H' : GHeap) : Prop := ∀ x cs, H.get x = some (.row cs e true) → H'.get x = some (.row cs e true)
theorem LastsV.trans {e : TypeId} {A B C : GHeap} (h : LastsV e A B) (h' : LastsV e B C) : LastsV e A C := fun x xs hx => h' x xs (h x xs hx)
theorem LastsV.of_le {e : TypeId} {H H' : GHeap} (h : H.Le H') : LastsV e H H' := fun x cs hx => h.2 x _ hx
structure OwnB (b : Nat) (H : GHeap) (e : TypeId) (r : Nat → Nat) (L : Nat → Nat) (M : Nat → Nat → Bool) (k : Nat) : Prop where
  row : ∀ i, i < k → b ≤ r i ∧ H.get (r i) = some (.row (bools (tabB (L i) (M i))) e true)
  inj : ∀ i j, i < k → j < k → r i = r j → i = j
theorem OwnB.zero (b : Nat) (H : GHeap) (e : TypeId) (r : Nat → Nat) (L : Nat → Nat) (M : Nat → Nat → Bool) : OwnB b H e r L M 0 := ⟨fun i hi => by omega, fun i j hi => by omega⟩
theorem OwnB.keep {b k : Nat} {H H' : GHeap} {e : TypeId} {r : Nat → Nat} {L : Nat → Nat} {M : Nat → Nat → Bool} (h : OwnB b H e r L M k) (s : LastsV e H H') : OwnB b H' e r L M k := ⟨fun i hi => ⟨(h.row i hi).1, s _ _ (h.row i hi).2⟩, h.inj⟩
theorem OwnB.succ {b g k : Nat} {H H' : GHeap} {e : TypeId} {r : Nat → Nat} {L : Nat → Nat} {M : Nat → Nat → Bool} (h : OwnB b H e r L M k) (s : LastsV e H H')
    (hg : H'.get g = some (.row (bools (tabB (L k) (M k))) e true)) (hn : H.next ≤ g) (hb : b ≤ g) : OwnB b H' e (updN r k g) L M (k + 1) := by
  have lt : ∀ i, i < k → r i < g := fun i hi => Nat.lt_of_lt_of_le (GHeap.ltg (h.row i hi).2) hn
  refine ⟨fun i hi => ?_, fun i j hi hj hij => ?_⟩
  · by_cases ek : i = k
    · subst ek; rw [updN_eq]; exact ⟨hb, hg⟩
    · rw [updN_ne ek]; exact ⟨(h.row i (by omega)).1, s _ _ (h.row i (by omega)).2⟩
  · by_cases ei : i = k
    · by_cases ej : j = k
      · omega
      · subst ei
        rw [updN_eq, updN_ne ej] at hij
        have := lt j (by omega)
        omega
    · by_cases ej : j = k
      · subst ej
        rw [updN_eq, updN_ne ei] at hij
        have := lt i (by omega)
        omega
      · rw [updN_ne ei, updN_ne ej] at hij
        exact h.inj i j (by omega) (by omega) hij
theorem OwnB.put {b k i : Nat} {H H' : GHeap} {e : TypeId} {r : Nat → Nat} {L : Nat → Nat} {M M' : Nat → Nat → Bool} (h : OwnB b H e r L M k) (hi : i < k) (s : St [r i] H H') (hg : H'.get (r i) = some (.row (bools (tabB (L i) (M' i))) e true))
    (hM : ∀ j, j < k → j ≠ i → ∀ d, d < L j → M' j d = M j d) : OwnB b H' e r L M' k := ⟨fun j hj => by
  by_cases ej : j = i
  · subst ej; exact ⟨(h.row j hj).1, hg⟩
  · refine ⟨(h.row j hj).1, ?_⟩
    rw [tabB_congr (hM j hj ej)]
    exact s.same _ _ ⟨fun er => ej (h.inj j i hj hi er), trivial⟩ (h.row j hj).2, h.inj⟩
theorem OwnB.congr {b k : Nat} {H : GHeap} {e : TypeId} {r : Nat → Nat} {L : Nat → Nat} {M M' : Nat → Nat → Bool} (h : OwnB b H e r L M k) (hM : ∀ j, j < k → ∀ d, d < L j → M' j d = M j d) : OwnB b H e r L M' k :=
  ⟨fun j hj => ⟨(h.row j hj).1, by rw [tabB_congr (hM j hj)]; exact (h.row j hj).2⟩, h.inj⟩
structure BMat (b : Nat) (H : GHeap) (g : Nat) (e1 e2 : TypeId) (r : Nat → Nat) (L : Nat → Nat) (M : Nat → Nat → Bool) (n : Nat) : Prop where
  hd : H.get g = some (.row (slsN r L n) e1 true)
  gb : b ≤ g
  own : OwnB b H e2 r L M n
theorem BMat.keep {b b' n g : Nat} {H H' : GHeap} {e1 e2 : TypeId} {r : Nat → Nat} {L : Nat → Nat} {M : Nat → Nat → Bool} (h : BMat b H g e1 e2 r L M n) (k : Keep b' H H') (hb : b' ≤ b) : BMat b' H' g e1 e2 r L M n :=
  ⟨k _ _ (by have := h.gb; omega) h.hd, by have := h.gb; omega, fun i hi => ⟨by have := (h.own.row i hi).1; omega, k _ _ (by have := (h.own.row i hi).1; omega) (h.own.row i hi).2⟩, h.own.inj⟩
theorem BMat.mono {b n g : Nat} {H H' : GHeap} {e1 e2 : TypeId} {r : Nat → Nat} {L : Nat → Nat} {M : Nat → Nat → Bool} (h : BMat b H g e1 e2 r L M n) (hle : H.Le H') : BMat b H' g e1 e2 r L M n :=
  ⟨hle.2 _ _ h.hd, h.gb, fun i hi => ⟨(h.own.row i hi).1, hle.2 _ _ (h.own.row i hi).2⟩, h.own.inj⟩
theorem BMat.congr {b n g : Nat} {H : GHeap} {e1 e2 : TypeId} {r : Nat → Nat} {L : Nat → Nat} {M M' : Nat → Nat → Bool} (h : BMat b H g e1 e2 r L M n) (hM : ∀ j, j < n → ∀ d, d < L j → M' j d = M j d) : BMat b H g e1 e2 r L M' n := ⟨h.hd, h.gb, h.own.congr hM⟩
theorem BMat.row {b n g i : Nat} {H : GHeap} {e1 e2 : TypeId} {r : Nat → Nat} {L : Nat → Nat} {M : Nat → Nat → Bool} (h : BMat b H g e1 e2 r L M n) (hi : i < n) : Bools H (some ⟨r i, 0, none⟩) (tabB (L i) (M i)) := Bools.of_get (h.own.row i hi).2
theorem BMat.lt {b n g i : Nat} {H : GHeap} {e1 e2 : TypeId} {r : Nat → Nat} {L : Nat → Nat} {M : Nat → Nat → Bool} (h : BMat b H g e1 e2 r L M n) : g < H.next ∧ (i < n → r i < H.next) := ⟨GHeap.ltg h.hd, fun hi => GHeap.ltg (h.own.row i hi).2⟩
theorem BMat.sl {b n g : Nat} {H : GHeap} {e1 e2 : TypeId} {r : Nat → Nat} {L : Nat → Nat} {M : Nat → Nat → Bool} (h : BMat b H g e1 e2 r L M n) : SlA H (some ⟨g, 0, none⟩) n (fun i => .slice (some ⟨r i, 0, none⟩) (L i) (L i)) :=
  .inr ⟨g, 0, rfl, fun i hi => by rw [GHeap.cell_of h.hd, Nat.zero_add]; simp [slsN, hi]⟩
theorem BMat.put {b n g i : Nat} {H H' : GHeap} {e1 e2 : TypeId} {r : Nat → Nat} {L : Nat → Nat} {M M' : Nat → Nat → Bool} (h : BMat b H g e1 e2 r L M n) (hi : i < n) (s : St [r i] H H') (hg : H'.get (r i) = some (.row (bools (tabB (L i) (M' i))) e2 true))
    (hM : ∀ j, j < n → j ≠ i → ∀ d, d < L j → M' j d = M j d) (hne : (e1 != e2) = true) : BMat b H' g e1 e2 r L M' n := ⟨by
    simp only [bne_iff_ne, ne_eq] at hne
    refine s.same _ _ ⟨fun ex => ?_, trivial⟩ h.hd
    have h1 := h.hd
    rw [ex, (h.own.row i hi).2] at h1
    injection h1 with h1
    injection h1 with _ h1 _
    exact hne h1.symm, h.gb, h.own.put hi s hg hM⟩
theorem BMat.st {b n g k : Nat} {H H' : GHeap} {e1 e2 : TypeId} {r : Nat → Nat} {L : Nat → Nat} {M : Nat → Nat → Bool} (h : BMat b H g e1 e2 r L M n) (s : St [k] H H') (hlt : k < b) : BMat b H' g e1 e2 r L M n :=
  ⟨s.same _ _ ⟨by have := h.gb; omega, trivial⟩ h.hd, h.gb, fun i hi => ⟨(h.own.row i hi).1, s.same _ _ ⟨by have := (h.own.row i hi).1; omega, trivial⟩ (h.own.row i hi).2⟩, h.own.inj⟩
end Go.GL
namespace Go.GL
theorem Cat.inv_mate {c : Cat} {f : Nat} (hS : c.Shape) (hf : f < c.src.length) (h : 0 ≤ c.inv f) : c.Alike (c.tgt.getD f 0) (c.src.getD f 0) := by
  unfold Cat.inv at h
  rw [Int.toNat_natCast] at h
  obtain ⟨g, hg, hb⟩ := (firstIn_ge (fun g hg => by obtain ⟨f, _, _, _, rfl⟩ := Cat.mem_hom.1 hg; omega)).1 h
  refine ⟨g, hg, ?_⟩
  obtain ⟨k, k1, k2, k3, rfl⟩ := Cat.mem_hom.1 hg
  unfold Cat.inv
  rw [Int.toNat_natCast, k2, k3]
  refine (firstIn_ge (fun g hg => by obtain ⟨f, _, _, _, rfl⟩ := Cat.mem_hom.1 hg; omega)).2 ⟨f, Cat.mem_hom.2 ⟨f, hf, rfl, rfl, rfl⟩, ?_⟩
  simp only [Cat.invB, sps, Int.toNat_natCast] at hb ⊢
  rw [k2, k3]
  exact ⟨hb.2, hb.1⟩
theorem Cat.Alike.symm {c : Cat} {x y : Int} (hS : c.Shape) (h : c.Alike x y) : c.Alike y x := by
  obtain ⟨g, hg, hi⟩ := h
  obtain ⟨k, k1, k2, k3, rfl⟩ := Cat.mem_hom.1 hg
  have := Cat.inv_mate hS k1 hi
  rwa [k2, k3] at this
def Cat.partO (c : Cat) (xs : List Int) : List Int := filtN c.obj.toNat fun x => xs.contains (c.idn.getD x 0)
def Cat.partR (c : Cat) (xs : List Int) (f : Int) : List Int := xs.map fun g => idxL xs (c.th f g)
def Cat.part (c : Cat) (xs : List Int) : Cat where
  obj := ((c.partO xs).length : Int)
  src := xs.map fun f => idxL (c.partO xs) (c.src.getD f.toNat 0)
  tgt := xs.map fun f => idxL (c.partO xs) (c.tgt.getD f.toNat 0)
  idn := (c.partO xs).map fun x => idxL xs (c.idn.getD x.toNat 0)
  comp := xs.map fun f => c.partR xs f
structure Cat.Closed (c : Cat) (xs : List Int) : Prop where
  filt : ∃ P, xs = filtN c.src.length P
  id : ∀ f ∈ xs, c.idn.getD (c.src.getD f.toNat 0).toNat 0 ∈ xs ∧ c.idn.getD (c.tgt.getD f.toNat 0).toNat 0 ∈ xs
  th : ∀ f ∈ xs, ∀ g ∈ xs, 0 ≤ c.th f g → c.th f g ∈ xs
theorem Cat.Closed.lt {c : Cat} {xs : List Int} (h : c.Closed xs) : ∀ f ∈ xs, 0 ≤ f ∧ f < c.src.length := fun f hf => by
  obtain ⟨P, rfl⟩ := h.filt
  obtain ⟨i, h1, _, rfl⟩ := mem_filtN.1 hf
  omega
theorem Cat.Closed.len {c : Cat} {xs : List Int} (h : c.Closed xs) : xs.length ≤ c.src.length := by
  obtain ⟨P, rfl⟩ := h.filt
  exact filtN_le _ _
end Go.GL
namespace Go.GL
open Go.RowKit
structure PL (g g0 n : Nat) : Prop where
  or : g = g0 ∨ n ≤ g
theorem PL.ne {g g0 n x : Nat} (h : PL g g0 n) (h0 : x ≠ g0) (hx : x < n) : x ≠ g := by
  rcases h.or with rfl | h
  · exact h0
  · omega
theorem PL.ne' {g g0 n x : Nat} (h : PL g g0 n) (h0 : x ≠ g0) (hx : x < n) : g ≠ x := (h.ne h0 hx).symm
theorem PL.trans {g g1 g0 n n' : Nat} (h : PL g g1 n') (h' : PL g1 g0 n) (hn : n ≤ n') : PL g g0 n := by
  rcases h.or with rfl | h
  · exact h'
  · exact ⟨.inr (by omega)⟩
theorem PL.ge {g g0 n b : Nat} (h : PL g g0 n) (h0 : b ≤ g0) (hn : b ≤ n) : b ≤ g := by
  rcases h.or with rfl | h
  · exact h0
  · omega
def nz : Nat → Nat → Option Addr
  | 0, _ => none
  | _ + 1, g => some ⟨g, 0, none⟩
theorem nz_pos {k g : Nat} (h : 0 < k) : nz k g = some ⟨g, 0, none⟩ := by
  cases k with
  | zero => omega
  | succ k => rfl
structure NO (H : GHeap) (g : Nat) (cs : List Value) (e : TypeId) (k : Nat) : Prop where
  lt : g < H.next
  or : (k = 0 ∧ cs = []) ∨ (0 < k ∧ H.get g = some (.row cs e true))
theorem NO.le {H H' : GHeap} {g k : Nat} {cs : List Value} {e : TypeId} (h : NO H g cs e k) (s : H.Le H') : NO H' g cs e k := ⟨by have := h.lt; have := s.1; omega, h.or.imp id fun h => ⟨h.1, s.2 _ _ h.2⟩⟩
theorem NO.st {H H' : GHeap} {g k : Nat} {bs : List Nat} {cs : List Value} {e : TypeId} (h : NO H g cs e k) (s : St bs H H') (ho : out bs g) : NO H' g cs e k := ⟨by have := h.lt; have := s.nx; omega, h.or.imp id fun h => ⟨h.1, s.same _ _ ho h.2⟩⟩
theorem NO.start {H : GHeap} {g k : Nat} {cs : List Value} {e : TypeId} (h : g < H.next) (hk : k = 0) (hc : cs = []) : NO H g cs e k := ⟨h, .inl ⟨hk, hc⟩⟩
theorem NO.of {H : GHeap} {g k : Nat} {cs : List Value} {e : TypeId} (h : H.get g = some (.row cs e true)) (hk : 0 < k) : NO H g cs e k := ⟨GHeap.ltg h, .inr ⟨hk, h⟩⟩
theorem NO.get {H : GHeap} {g k : Nat} {cs : List Value} {e : TypeId} (h : NO H g cs e k) (hk : 0 < k) : H.get g = some (.row cs e true) := by
  rcases h.or with ⟨h, _⟩ | ⟨_, h⟩
  · omega
  · exact h
theorem NO.nil {H : GHeap} {g k : Nat} {cs : List Value} {e : TypeId} (h : NO H g cs e k) (hk : k = 0) : cs = [] := by
  rcases h.or with ⟨_, h⟩ | ⟨h, _⟩
  · exact h
  · omega
theorem NO.sl {H : GHeap} {g k n : Nat} {cs : List Value} {e : TypeId} (h : NO H g cs e k) (hn : cs.length = n) : SlA H (nz k g) n (fun i => cs.getD i (.bool false)) := by
  rcases h.or with ⟨rfl, rfl⟩ | ⟨h1, h2⟩
  · exact .inl hn.symm
  · rw [nz_pos h1]; exact SlA.of_row h2 hn
theorem Sim.hold {P : Program} {B : Nat} {w0 : World} {ρ : Place} {H : GHeap} {w : World} (hs : Sim P B w0 ρ H w) : Sim P B w0 ρ ⟨H.objs ++ [none]⟩ w := by
  have hg : ∀ {g : Nat} {o : GObj}, GHeap.get ⟨H.objs ++ [none]⟩ g = some o → H.get g = some o := fun {g o} h => by
    unfold GHeap.get at h ⊢
    rcases Nat.lt_trichotomy g H.objs.length with hl | hl | hl
    · rwa [List.getElem?_append_left hl] at h
    · subst hl; simp at h
    · rw [List.getElem?_eq_none (by simp; omega)] at h; cases h
  exact ⟨fun g h => hs.dom g (by have : (GHeap.mk (H.objs ++ [none])).next = H.next + 1 := by simp [GHeap.next]
                                 omega), fun g o h => hs.live g o (hg h), fun g g' o o' s s' h1 h2 => hs.apart g g' o o' s s' (hg h1) (hg h2), hs.base, hs.below⟩
theorem GT.hold {P : Program} {N : Nat} {c : Code} {Q : Exit → Slots → GHeap → Prop} {fr : Slots} {H : GHeap} (h : ∀ H', H.Le H' → H'.next = H.next + 1 → GT P N c Q fr H') : GT P N c Q fr H := fun B w0 ρ a w hs hf =>
  h ⟨H.objs ++ [none]⟩ ⟨by simp [GHeap.next], fun g o hg => by
    have hl : g < H.objs.length := GHeap.ltg hg
    unfold GHeap.get at hg ⊢
    rwa [List.getElem?_append_left hl]⟩ (by simp [GHeap.next]) B w0 ρ a w hs.hold hf
section
variable {P : Program} {o : Oper} {fr : Slots} {H : GHeap}
end
end Go.GL
namespace Go.GL
theorem filtN_nodup (n : Nat) (P : Nat → Bool) : (filtN n P).Nodup := by
  unfold filtN
  exact List.pairwise_map.2 ((List.nodup_range.sublist List.filter_sublist).imp fun h e => h (by omega))
theorem nodup_getD {xs : List Int} (hn : xs.Nodup) {i j : Nat} (hi : i < xs.length) (hj : j < xs.length) (h : xs.getD i 0 = xs.getD j 0) : i = j := by
  rw [List.getD_eq_getElem?_getD, List.getD_eq_getElem?_getD, List.getElem?_eq_getElem hi, List.getElem?_eq_getElem hj] at h
  exact (List.getElem_inj hn).1 (by simpa using h)
def numF (xs : List Int) (m i : Nat) : List Int := (List.range m).map fun (v : Nat) => if (v : Int) ∈ xs.take i then idxL xs v else 0
@[simp] theorem length_numF (xs : List Int) (m i : Nat) : (numF xs m i).length = m := by simp [numF]
abbrev Cat.hasId (c : Cat) (xs : List Int) (x : Nat) : Bool := xs.contains (c.idn.getD x 0)
def Cat.plF (c : Cat) (xs : List Int) (n k : Nat) : List Int := (List.range n).map fun (x : Nat) => if x < k ∧ c.hasId xs x = true then ((filtN x (c.hasId xs)).length : Int) else 0
@[simp] theorem Cat.length_plF (c : Cat) (xs : List Int) (n k : Nat) : (c.plF xs n k).length = n := by simp [Cat.plF]
theorem Cat.Closed.has {c : Cat} {xs : List Int} (h : c.Closed xs) {f : Int} (hf : f ∈ xs) (hS : c.Shape) : (0 ≤ c.src.getD f.toNat 0 ∧ c.src.getD f.toNat 0 < c.obj ∧ c.idn.getD (c.src.getD f.toNat 0).toNat 0 ∈ xs) ∧ 0 ≤ c.tgt.getD f.toNat 0 ∧ c.tgt.getD f.toNat 0 < c.obj ∧ c.idn.getD (c.tgt.getD f.toNat 0).toNat 0 ∈ xs := by
  have b := h.lt f hf
  have s1 := hS.src f.toNat (by omega)
  have s2 := hS.tgt f.toNat (by have := hS.tl; omega)
  have hi := h.id f hf
  exact ⟨⟨s1.1, s1.2, hi.1⟩, s2.1, s2.2, hi.2⟩
end Go.GL
namespace Go.GL
theorem mem_nest3 {α : Type} {pr : Nat → Nat → Nat → α} {s1 : Nat → Nat} {s2 : Nat → Nat → Nat} {k a b t : Nat} (ha : a < k) (hb : b < s1 a) (ht : t < s2 a b) : pr a b t ∈ nest3 pr s1 s2 k 0 0 := by
  unfold nest3 nestL
  refine List.mem_append.2 (.inl (List.mem_flatMap.2 ⟨a, List.mem_range.2 ha, List.mem_append.2 (.inl (List.mem_flatMap.2 ⟨b, List.mem_range.2 hb, List.mem_map.2 ⟨t, List.mem_range.2 ht, rfl⟩⟩))⟩))
theorem nest3_nodup {α : Type} {pr : Nat → Nat → Nat → α} {s1 : Nat → Nat} {s2 : Nat → Nat → Nat} {k : Nat} (h : ∀ a b t a' b' t', a < k → b < s1 a → t < s2 a b → a' < k → b' < s1 a' → t' < s2 a' b' → pr a b t = pr a' b' t' → a = a' ∧ b = b' ∧ t = t') : (nest3 pr s1 s2 k 0 0).Nodup := by
  unfold nest3 nestL
  simp only [List.range_zero, List.map_nil, List.append_nil, List.flatMap_nil]
  refine List.pairwise_flatMap.2 ⟨fun a ha => List.pairwise_flatMap.2 ⟨fun b hb => List.pairwise_map.2 ?_, ?_⟩, ?_⟩
  · exact List.nodup_range.imp_of_mem fun {t t'} ht ht' hne e => hne (h a b t a b t' (List.mem_range.1 ha) (List.mem_range.1 hb) (List.mem_range.1 ht) (List.mem_range.1 ha) (List.mem_range.1 hb) (List.mem_range.1 ht') e).2.2
  · refine List.nodup_range.imp_of_mem fun {b b'} hb hb' hne x hx y hy e => ?_
    obtain ⟨t, ht, rfl⟩ := List.mem_map.1 hx
    obtain ⟨t', ht', rfl⟩ := List.mem_map.1 hy
    exact hne (h a b t a b' t' (List.mem_range.1 ha) (List.mem_range.1 hb) (List.mem_range.1 ht) (List.mem_range.1 ha) (List.mem_range.1 hb') (List.mem_range.1 ht') e).2.1
  · refine List.nodup_range.imp_of_mem fun {a a'} ha ha' hne x hx y hy e => ?_
    obtain ⟨b, hb, hx⟩ := List.mem_flatMap.1 hx
    obtain ⟨b', hb', hy⟩ := List.mem_flatMap.1 hy
    obtain ⟨t, ht, rfl⟩ := List.mem_map.1 hx
    obtain ⟨t', ht', rfl⟩ := List.mem_map.1 hy
    exact hne (h a b t a' b' t' (List.mem_range.1 ha) (List.mem_range.1 hb) (List.mem_range.1 ht) (List.mem_range.1 ha') (List.mem_range.1 hb') (List.mem_range.1 ht') e).1
structure LcOk (k : Fun) (f : SFun) : Prop where
  hk : k.Is
  hf : f.Is
  he : f.sh = k.s
def lcE (k : Fun) (f : SFun) (y : Int) : List (List Int) := leL k f y k.ob.length 0 0
theorem lcE_mem {k : Fun} {f : SFun} {y : Int} {x e : Nat} {h : Int} (hx : x < k.ob.length) (hh : h ∈ k.t.hom (k.ob.getD x 0) y) (he : (e : Int) < f.sz.getD x 0) : [(x : Int), h, (e : Int)] ∈ lcE k f y := by
  obtain ⟨i, hi, e1⟩ := List.getElem_of_mem hh
  have := mem_nest3 (pr := lePr k y) (s1 := fun x => (k.t.hom (k.ob.getD x 0) y).length) (s2 := fun x _ => (f.sz.getD x 0).toNat) hx hi (t := e) (by omega)
  unfold lePr at this
  rw [List.getD_eq_getElem?_getD (l := k.t.hom _ _), List.getElem?_eq_getElem hi, e1] at this
  exact this
theorem lcE_keys {k : Fun} {f : SFun} {y : Int} (o : LcOk k f) : Keys 3 (lcE k f y) := by
  have b1 := o.hk.2.1.1.n40
  have b2 := o.hk.1.1.obj
  have b3 := o.hk.2.2.ol
  refine ⟨nest3_nodup fun a b t a' b' t' ha hb ht ha' hb' ht' e => ?_, fun t ht => ?_⟩
  · unfold lePr at e
    simp only [List.cons.injEq, and_true] at e
    obtain ⟨e1, e2, e3⟩ := e
    obtain rfl : a = a' := by omega
    exact ⟨rfl, nodup_getD (filtN_nodup _ _) hb hb' e2, by omega⟩
  · obtain ⟨x, i, e, h1, h2, h3, rfl⟩ := nest3_mem ht
    have q1 := o.hf.1.sz x (by have := leLen o.hk o.hf o.he; omega)
    obtain ⟨z, z1, _, _, z4⟩ := Cat.hom_get h2
    refine ⟨rfl, fun i hi => ?_⟩
    match i, hi with
    | 0, _ => show 0 ≤ (x : Int) ∧ (x : Int) ≤ 255; omega
    | 1, _ => show 0 ≤ (k.t.hom _ _).getD _ 0 ∧ (k.t.hom _ _).getD _ 0 ≤ 255; rw [z4]; omega
    | 2, _ => show 0 ≤ (e : Int) ∧ (e : Int) ≤ 255; omega
structure LcA (k : Fun) (f : SFun) (y : Int) (a : Nat) : Prop where
  s0 : 0 ≤ k.s.src.getD a 0
  s1 : k.s.src.getD a 0 < k.ob.length
  t0 : 0 ≤ k.s.tgt.getD a 0
  t1 : k.s.tgt.getD a 0 < k.ob.length
  al : ((f.ac.getD a []).length : Int) = f.sz.getD (k.s.src.getD a 0).toNat 0
  zs : f.sz.getD (k.s.src.getD a 0).toNat 0 ≤ 16
  ac : ∀ e, e < (f.ac.getD a []).length → 0 ≤ (f.ac.getD a []).getD e 0 ∧ (f.ac.getD a []).getD e 0 < f.sz.getD (k.s.tgt.getD a 0).toNat 0
  r0 : 0 ≤ k.ar.getD a 0
  r1 : k.ar.getD a 0 < k.t.src.length
  th : ∀ h, h ∈ k.t.hom (k.ob.getD (k.s.tgt.getD a 0).toNat 0) y → (0 ≤ h ∧ h < k.t.src.length) ∧ k.t.th (k.ar.getD a 0) h ∈ k.t.hom (k.ob.getD (k.s.src.getD a 0).toNat 0) y
theorem LcOk.len {k : Fun} {f : SFun} (o : LcOk k f) : f.sz.length = k.ob.length ∧ f.ac.length = k.s.src.length ∧ k.ar.length = k.s.src.length ∧ k.s.tgt.length = k.s.src.length ∧ k.s.src.length ≤ 40 ∧ k.ob.length ≤ 8 ∧ (k.s.obj = k.ob.length) := by
  have h1 := leLen o.hk o.hf o.he
  have h2 := o.hf.1.al
  rw [o.he] at h2
  have h3 := o.hk.2.2.al
  have h4 := o.hk.1.1.tl
  have h5 := o.hk.1.1.n40
  have h6 := o.hk.2.2.ol
  have h7 := o.hk.1.1.obj
  omega
theorem LcOk.arrow {k : Fun} {f : SFun} {y : Int} (o : LcOk k f) {a : Nat} (ha : a < k.s.src.length) : LcA k f y a := by
  obtain ⟨l1, l2, l3, l4, _, _, _⟩ := o.len
  have q := o.hf.1.ends (a := a) (by rw [o.he]; exact ha)
  have act := fun e => o.hf.1.act (a := a) (e := e) (by omega)
  rw [o.he] at q act
  have hz := o.hf.1.sz (k.s.src.getD a 0).toNat (by omega)
  have r := o.hk.arr (a := a) (by omega)
  refine ⟨q.1, by omega, q.2.2.1, by omega, q.2.2.2.2, hz.2, act, r.2.2.2.2.1, r.2.2.2.2.2.1, fun h hh => ?_⟩
  obtain ⟨z, z1, z2, z3, rfl⟩ := Cat.mem_hom.1 hh
  have hS := o.hk.2.1.1
  have hc := (Cat.Cell.pos (f := (k.ar.getD a 0).toNat) (g := z) (by rw [r.2.2.2.2.2.2.2, z2])).1 (hS.cell _ (by have := hS.cl; omega) z z1)
  rw [← Cat.th_nat, show (((k.ar.getD a 0).toNat : Nat) : Int) = k.ar.getD a 0 by omega] at hc
  refine ⟨by omega, Cat.mem_hom.2 ⟨(k.t.th (k.ar.getD a 0) z).toNat, by omega, ?_, ?_, by omega⟩⟩
  · rw [hc.2.2.1]; exact r.2.2.2.2.2.2.1
  · rw [hc.2.2.2]; exact z3
def lcT (k : Fun) (a : Nat) (h : Int) (e : Nat) : List Int := [k.s.src.getD a 0, k.t.th (k.ar.getD a 0) h, (e : Int)]
def lcU (k : Fun) (f : SFun) (a : Nat) (h : Int) (e : Nat) : List Int := [k.s.tgt.getD a 0, h, (f.ac.getD a []).getD e 0]
theorem LcOk.two {k : Fun} {f : SFun} {y : Int} (o : LcOk k f) {a e : Nat} {h : Int} (ha : a < k.s.src.length) (hh : h ∈ k.t.hom (k.ob.getD (k.s.tgt.getD a 0).toNat 0) y) (he : e < (f.ac.getD a []).length) : lcT k a h e ∈ lcE k f y ∧ lcU k f a h e ∈ lcE k f y := by
  have q := o.arrow (y := y) ha
  obtain ⟨a0, a1, a2, a3, a4, _, a6, _, _, a9⟩ := q
  have h6 := a6 e he
  constructor
  · have := lcE_mem (k := k) (f := f) (y := y) (x := (k.s.src.getD a 0).toNat) (e := e) (by omega) (a9 h hh).2 (by omega)
    rwa [show (((k.s.src.getD a 0).toNat : Nat) : Int) = k.s.src.getD a 0 by omega] at this
  · have := lcE_mem (k := k) (f := f) (y := y) (x := (k.s.tgt.getD a 0).toNat) (e := ((f.ac.getD a []).getD e 0).toNat) (by omega) hh (by omega)
    rwa [show (((k.s.tgt.getD a 0).toNat : Nat) : Int) = k.s.tgt.getD a 0 by omega, show ((((f.ac.getD a []).getD e 0).toNat : Nat) : Int) = (f.ac.getD a []).getD e 0 by omega] at this
def lcPr (k : Fun) (f : SFun) (y : Int) (a i e : Nat) : Nat × Nat := ((idxLL (lcE k f y) (lcT k a ((k.t.hom (k.ob.getD (k.s.tgt.getD a 0).toNat 0) y).getD i 0) e)).toNat, (idxLL (lcE k f y) (lcU k f a ((k.t.hom (k.ob.getD (k.s.tgt.getD a 0).toNat 0) y).getD i 0) e)).toNat)
theorem LcOk.pr {k : Fun} {f : SFun} {y : Int} (o : LcOk k f) {a i e : Nat} (ha : a < k.s.src.length) (hi : i < (k.t.hom (k.ob.getD (k.s.tgt.getD a 0).toNat 0) y).length) (he : e < (f.ac.getD a []).length) : (lcPr k f y a i e).1 < (lcE k f y).length ∧ (lcPr k f y a i e).2 < (lcE k f y).length ∧ 0 ≤ idxLL (lcE k f y) (lcT k a ((k.t.hom (k.ob.getD (k.s.tgt.getD a 0).toNat 0) y).getD i 0) e) ∧ 0 ≤ idxLL (lcE k f y) (lcU k f a ((k.t.hom (k.ob.getD (k.s.tgt.getD a 0).toNat 0) y).getD i 0) e) := by
  obtain ⟨h1, h2⟩ := o.two ha (getD_mem hi) he
  obtain ⟨u, u1, _, u3⟩ := idxLL_mem (lcE_keys o).nd h1
  obtain ⟨v, v1, _, v3⟩ := idxLL_mem (lcE_keys o).nd h2
  unfold lcPr
  rw [u3, v3]
  exact ⟨by simpa using u1, by simpa using v1, by omega, by omega⟩
end Go.GL
namespace Go.GL
def ccF (m k : Prof) (x z : Int) (y : Nat) : Int := (m.sz.getD x.toNat []).getD y 0 * (k.sz.getD y []).getD z.toNat 0
def ccSt (m k : Prof) (x z : Int) (n : Nat) : List Int := (List.range n).map (sumN (ccF m k x z))
theorem ccSt_get {m k : Prof} {x z : Int} {n i : Nat} (h : i < n) : (ccSt m k x z n).getD i 0 = sumN (ccF m k x z) i := by simp [ccSt, List.getD_eq_getElem?_getD, h]
theorem prod_bd {a b : Int} (ha : 0 ≤ a ∧ a ≤ 64) (hb : 0 ≤ b ∧ b ≤ 64) : 0 ≤ a * b ∧ a * b ≤ 4096 := by
  have h1 := Int.mul_nonneg ha.1 hb.1
  have h2 : a * b ≤ 64 * 64 := Int.mul_le_mul ha.2 hb.2 hb.1 (by omega)
  omega
theorem ccF_bd {m k : Prof} {x z : Int} {n : Nat} (hc : CtOk m k x z n) {y : Nat} (hy : y < n) : 0 ≤ ccF m k x z y ∧ ccF m k x z y ≤ 4096 := prod_bd (hc.pe y hy) (hc.qe y hy).2
theorem ccSum_bd {m k : Prof} {x z : Int} {n : Nat} (hc : CtOk m k x z n) {y : Nat} (hy : y ≤ n) : 0 ≤ sumN (ccF m k x z) y ∧ sumN (ccF m k x z) y ≤ 32768 := by
  have h1 := sumN_bd (f := ccF m k x z) (c := 4096) (N := n) (fun i hi => ccF_bd hc hi) hy
  have h2 := hc.n8
  omega
theorem ctL_lenD {m k : Prof} {x z : Int} {y e : Nat} : ∀ {d}, (ctL m k x z y e d).length = (ctL m k x z y e 0).length + d
  | 0 => rfl
  | d + 1 => by rw [ctL_snoc, List.length_append, ctL_lenD (d := d)]; simp; omega
theorem ctL_lenE {m k : Prof} {x z : Int} {y : Nat} : ∀ {e}, (ctL m k x z y e 0).length = (ctL m k x z y 0 0).length + e * ((k.sz.getD y []).getD z.toNat 0).toNat
  | 0 => by simp
  | e + 1 => by rw [ctL_next2, ctL_lenD, ctL_lenE (e := e), Nat.succ_mul]; omega
theorem ctL_lenY {m k : Prof} {x z : Int} {n : Nat} (hc : CtOk m k x z n) : ∀ {y}, y ≤ n → ((ctL m k x z y 0 0).length : Int) = sumN (ccF m k x z) y
  | 0, _ => by simp [ctL, nest3_zero, sumN]
  | y + 1, hy => by
    have ih := ctL_lenY hc (y := y) (by omega)
    have h1 := hc.pe y (by omega)
    have h2 := (hc.qe y (by omega)).2
    rw [ctL_next1, ctL_lenE]
    simp only [sumN, ccF, Int.natCast_add, Int.natCast_mul, Int.toNat_of_nonneg h1.1, Int.toNat_of_nonneg h2.1, ih]
theorem ctL_preD {m k : Prof} {x z : Int} {y e d : Nat} : ∀ j, ctL m k x z y e d <+: ctL m k x z y e (d + j)
  | 0 => List.prefix_refl _
  | j + 1 => by rw [← Nat.add_assoc, ctL_snoc]; exact (ctL_preD j).trans (List.prefix_append _ _)
theorem ctL_preE {m k : Prof} {x z : Int} {y e : Nat} : ∀ j, ctL m k x z y e 0 <+: ctL m k x z y (e + j) 0
  | 0 => List.prefix_refl _
  | j + 1 => by
    rw [← Nat.add_assoc, ctL_next2]
    have := ctL_preD (m := m) (k := k) (x := x) (z := z) (y := y) (e := e + j) (d := 0) ((k.sz.getD y []).getD z.toNat 0).toNat
    rw [Nat.zero_add] at this
    exact (ctL_preE j).trans this
theorem ctL_preY {m k : Prof} {x z : Int} {y : Nat} : ∀ j, ctL m k x z y 0 0 <+: ctL m k x z (y + j) 0 0
  | 0 => List.prefix_refl _
  | j + 1 => by
    rw [← Nat.add_assoc, ctL_next1]
    have := ctL_preE (m := m) (k := k) (x := x) (z := z) (y := y + j) (e := 0) ((m.sz.getD x.toNat []).getD (y + j) 0).toNat
    rw [Nat.zero_add] at this
    exact (ctL_preY j).trans this
theorem ctL_pre {m k : Prof} {x z : Int} {n y e d : Nat} (hy : y < n) (he : e < ((m.sz.getD x.toNat []).getD y 0).toNat) (hd : d < ((k.sz.getD y []).getD z.toNat 0).toNat) : ctL m k x z y e (d + 1) <+: ctL m k x z n 0 0 := by
  have h1 := ctL_preD (m := m) (k := k) (x := x) (z := z) (y := y) (e := e) (d := d + 1) (((k.sz.getD y []).getD z.toNat 0).toNat - (d + 1))
  rw [show d + 1 + (((k.sz.getD y []).getD z.toNat 0).toNat - (d + 1)) = ((k.sz.getD y []).getD z.toNat 0).toNat by omega, ← ctL_next2] at h1
  have h2 := ctL_preE (m := m) (k := k) (x := x) (z := z) (y := y) (e := e + 1) (((m.sz.getD x.toNat []).getD y 0).toNat - (e + 1))
  rw [show e + 1 + (((m.sz.getD x.toNat []).getD y 0).toNat - (e + 1)) = ((m.sz.getD x.toNat []).getD y 0).toNat by omega, ← ctL_next1] at h2
  have h3 := ctL_preY (m := m) (k := k) (x := x) (z := z) (y := y + 1) (n - (y + 1))
  rw [show y + 1 + (n - (y + 1)) = n by omega] at h3
  exact (h1.trans h2).trans h3
theorem ctL_at {m k : Prof} {x z : Int} {n y e d : Nat} (hy : y < n) (he : e < ((m.sz.getD x.toNat []).getD y 0).toNat) (hd : d < ((k.sz.getD y []).getD z.toNat 0).toNat) : (ctL m k x z y e d).length < (ctL m k x z n 0 0).length ∧ (ctL m k x z n 0 0).getD (ctL m k x z y e d).length [] = ctPr y e d := by
  obtain ⟨r, hr⟩ := ctL_pre (m := m) (k := k) (x := x) (z := z) hy he hd
  rw [← hr, ctL_snoc]
  refine ⟨by simp, ?_⟩
  rw [List.getD_eq_getElem?_getD, List.append_assoc, List.getElem?_append_right (Nat.le_refl _)]
  simp
theorem ctL_nodup {m k : Prof} {x z : Int} {n : Nat} : (ctL m k x z n 0 0).Nodup := nest3_nodup fun a b t a' b' t' _ _ _ _ _ _ e => by
  unfold ctPr at e
  simp only [List.cons.injEq, and_true] at e
  omega
theorem cc_idx {m k : Prof} {x z : Int} {n : Nat} (hc : CtOk m k x z n) {y e d : Int} (y0 : 0 ≤ y) (y1 : y < n) (e0 : 0 ≤ e) (e1 : e < (m.sz.getD x.toNat []).getD y.toNat 0) (d0 : 0 ≤ d) (d1 : d < (k.sz.getD y.toNat []).getD z.toNat 0) :
    [y, e, d] ∈ ctL m k x z n 0 0 ∧ idxLL (ctL m k x z n 0 0) [y, e, d] = sumN (ccF m k x z) y.toNat + e * (k.sz.getD y.toNat []).getD z.toNat 0 + d ∧ idxLL (ctL m k x z n 0 0) [y, e, d] < (ctL m k x z n 0 0).length ∧ 0 ≤ sumN (ccF m k x z) y.toNat ∧ 0 ≤ e * (k.sz.getD y.toNat []).getD z.toNat 0 := by
  have h2 := hc.qe y.toNat (by omega)
  obtain ⟨l, a⟩ := ctL_at (m := m) (k := k) (x := x) (z := z) (n := n) (y := y.toNat) (e := e.toNat) (d := d.toNat) (by omega) (by omega) (by omega)
  have hp : ctPr y.toNat e.toNat d.toNat = [y, e, d] := by unfold ctPr; rw [Int.toNat_of_nonneg y0, Int.toNat_of_nonneg e0, Int.toNat_of_nonneg d0]
  rw [hp] at a
  have hm := getD_mem_list (d := []) l
  rw [a] at hm
  have hi := idxLL_at (xss := ctL m k x z n 0 0) ctL_nodup l
  rw [a] at hi
  have hl : ((ctL m k x z y.toNat e.toNat d.toNat).length : Int) = sumN (ccF m k x z) y.toNat + e * (k.sz.getD y.toNat []).getD z.toNat 0 + d := by
    rw [ctL_lenD, ctL_lenE]
    simp only [Int.natCast_add, Int.natCast_mul, ctL_lenY hc (y := y.toNat) (by omega), Int.toNat_of_nonneg e0, Int.toNat_of_nonneg d0, Int.toNat_of_nonneg h2.2.1]
  exact ⟨hm, by rw [hi, hl], by rw [hi]; omega, (ccSum_bd hc (y := y.toNat) (by omega)).1, Int.mul_nonneg e0 h2.2.1⟩
def ccL (m k : Prof) (x z : Int) : List (List Int) := ctL m k x z m.t.obj.toNat 0 0
def ccT (m : Prof) (x : Int) (b e d : Nat) : List Int := [m.t.tgt.getD b 0, ((m.bh.getD b []).getD x.toNat []).getD e 0, (d : Int)]
def ccU (m k : Prof) (z : Int) (b e d : Nat) : List Int := [m.t.src.getD b 0, (e : Int), ((k.be.getD b []).getD z.toNat []).getD d 0]
def ccA1 (m : Prof) (x : Int) (b : Nat) : Nat := ((m.sz.getD x.toNat []).getD (m.t.src.getD b 0).toNat 0).toNat
def ccA2 (m k : Prof) (z : Int) (b : Nat) : Nat := ((k.sz.getD (m.t.tgt.getD b 0).toNat []).getD z.toNat 0).toNat
def ccRow (m k : Prof) (x z : Int) (b e d : Nat) : List Int := [idxLL (ccL m k x z) (ccT m x b e d), idxLL (ccL m k x z) (ccU m k z b e d)]
def ccS (m k : Prof) (x z : Int) (b e d : Nat) : List (List Int) := nest3 (ccRow m k x z) (ccA1 m x) (fun b _ => ccA2 m k z b) b e d
structure CcOk (m k : Prof) (x z : Int) : Prop where
  hm : m.Is
  hk : k.Is
  x0 : 0 ≤ x
  x1 : x < m.s.obj
  z0 : 0 ≤ z
  z1 : z < k.t.obj
  he : m.t = k.s
structure CcA (m k : Prof) (x z : Int) (b : Nat) : Prop where
  s0 : 0 ≤ m.t.src.getD b 0
  s1 : m.t.src.getD b 0 < m.t.obj
  t0 : 0 ≤ m.t.tgt.getD b 0
  t1 : m.t.tgt.getD b 0 < m.t.obj
  b1 : x.toNat < (m.bh.getD b []).length
  b2 : (((m.bh.getD b []).getD x.toNat []).length : Int) = (m.sz.getD x.toNat []).getD (m.t.src.getD b 0).toNat 0
  b3 : ∀ e, e < ((m.bh.getD b []).getD x.toNat []).length → 0 ≤ ((m.bh.getD b []).getD x.toNat []).getD e 0 ∧ ((m.bh.getD b []).getD x.toNat []).getD e 0 < (m.sz.getD x.toNat []).getD (m.t.tgt.getD b 0).toNat 0
  k1 : z.toNat < (k.be.getD b []).length
  k2 : (((k.be.getD b []).getD z.toNat []).length : Int) = (k.sz.getD (m.t.tgt.getD b 0).toNat []).getD z.toNat 0
  k3 : ∀ d, d < ((k.be.getD b []).getD z.toNat []).length → 0 ≤ ((k.be.getD b []).getD z.toNat []).getD d 0 ∧ ((k.be.getD b []).getD z.toNat []).getD d 0 < (k.sz.getD (m.t.src.getD b 0).toNat []).getD z.toNat 0
  z1 : 0 ≤ (m.sz.getD x.toNat []).getD (m.t.src.getD b 0).toNat 0 ∧ (m.sz.getD x.toNat []).getD (m.t.src.getD b 0).toNat 0 ≤ 64
  z2 : 0 ≤ (k.sz.getD (m.t.tgt.getD b 0).toNat []).getD z.toNat 0 ∧ (k.sz.getD (m.t.tgt.getD b 0).toNat []).getD z.toNat 0 ≤ 64
theorem CcOk.arrow {m k : Prof} {x z : Int} (o : CcOk m k x z) {b : Nat} (hb : b < m.t.src.length) : CcA m k x z b := by
  obtain ⟨hm, hk, x0, x1, z0, z1, he⟩ := o
  have e1 := hm.1.z.hl
  have e2 := hk.1.z.bl
  rw [← he] at e2
  have q1 := hm.1.z.h hm.1.t (b := b) (by omega)
  have q2 := hm.1.hx (b := b) (x := x.toNat) (by omega) (by omega)
  have q3 := hk.1.by (a := b) (y := z.toNat) (by omega) (by omega)
  rw [← he] at q3
  exact ⟨q1.2.2.1, q1.2.2.2.1, q1.2.2.2.2.1, q1.2.2.2.2.2, q2.1, q2.2.2.2.2.1, q2.2.2.2.2.2.1, q3.1, q3.2.2.2.1, q3.2.2.2.2.1, q2.2.2.2.2.2.2.1, q3.2.2.2.2.2.2⟩
structure CcP (m k : Prof) (x z : Int) (b e d : Nat) : Prop where
  mT : ccT m x b e d ∈ ccL m k x z
  mU : ccU m k z b e d ∈ ccL m k x z
  iT : idxLL (ccL m k x z) (ccT m x b e d) = (ccSt m k x z m.t.obj.toNat).getD (m.t.tgt.getD b 0).toNat 0 + ((m.bh.getD b []).getD x.toNat []).getD e 0 * (k.sz.getD (m.t.tgt.getD b 0).toNat []).getD z.toNat 0 + (d : Int)
  iU : idxLL (ccL m k x z) (ccU m k z b e d) = (ccSt m k x z m.t.obj.toNat).getD (m.t.src.getD b 0).toNat 0 + (e : Int) * (k.sz.getD (m.t.src.getD b 0).toNat []).getD z.toNat 0 + ((k.be.getD b []).getD z.toNat []).getD d 0
  lT : idxLL (ccL m k x z) (ccT m x b e d) < (ccL m k x z).length
  lU : idxLL (ccL m k x z) (ccU m k z b e d) < (ccL m k x z).length
  t0 : 0 ≤ (ccSt m k x z m.t.obj.toNat).getD (m.t.tgt.getD b 0).toNat 0
  t1 : 0 ≤ ((m.bh.getD b []).getD x.toNat []).getD e 0 * (k.sz.getD (m.t.tgt.getD b 0).toNat []).getD z.toNat 0
  u0 : 0 ≤ (ccSt m k x z m.t.obj.toNat).getD (m.t.src.getD b 0).toNat 0
  u1 : 0 ≤ (e : Int) * (k.sz.getD (m.t.src.getD b 0).toNat []).getD z.toNat 0
theorem CcOk.pr {m k : Prof} {x z : Int} (o : CcOk m k x z) {b e d : Nat} (hb : b < m.t.src.length) (he : e < ccA1 m x b) (hd : d < ccA2 m k z b) : CcP m k x z b e d := by
  have q := o.arrow hb
  obtain ⟨hc, h0⟩ := CtOk.of o.hm o.hk o.x0 o.x1 o.z0 o.z1 o.he
  obtain ⟨s0, s1, t0, t1, b1, b2, b3, k1, k2, k3, z1, z2⟩ := q
  unfold ccA1 at he
  unfold ccA2 at hd
  have b4 := b3 e (by omega)
  have k4 := k3 d (by omega)
  obtain ⟨a1, a2, a3, a4, a5⟩ := cc_idx hc (y := m.t.tgt.getD b 0) (e := ((m.bh.getD b []).getD x.toNat []).getD e 0) (d := (d : Int)) t0 (by omega) b4.1 b4.2 (by omega) (by omega)
  obtain ⟨c1, c2, c3, c4, c5⟩ := cc_idx hc (y := m.t.src.getD b 0) (e := (e : Int)) (d := ((k.be.getD b []).getD z.toNat []).getD d 0) s0 (by omega) (by omega) (by omega) k4.1 k4.2
  rw [← ccSt_get (n := m.t.obj.toNat) (by omega)] at a2 a4 c2 c4
  exact ⟨a1, c1, a2, c2, a3, c3, a4, a5, c4, c5⟩
theorem CcOk.a1 {m k : Prof} {x z : Int} (o : CcOk m k x z) {b : Nat} (hb : b < m.t.src.length) : ccA1 m x b ≤ 64 := by have := (o.arrow hb).z1; unfold ccA1; omega
theorem CcOk.a2 {m k : Prof} {x z : Int} (o : CcOk m k x z) {b : Nat} (hb : b < m.t.src.length) : ccA2 m k z b ≤ 64 := by have := (o.arrow hb).z2; unfold ccA2; omega
theorem CcOk.row {m k : Prof} {x z : Int} (o : CcOk m k x z) {p : List Int} (hp : p ∈ ccS m k x z m.t.src.length 0 0) : 2 ≤ p.length ∧ 0 ≤ p.getD 0 0 ∧ p.getD 0 0 < (ccL m k x z).length ∧ 0 ≤ p.getD 1 0 ∧ p.getD 1 0 < (ccL m k x z).length := by
  obtain ⟨b, e, d, h1, h2, h3, rfl⟩ := nest3_mem hp
  have q := o.pr h1 h2 h3
  obtain ⟨u, u1, _, u3⟩ := idxLL_mem (ctL_nodup) q.mT
  obtain ⟨v, v1, _, v3⟩ := idxLL_mem (ctL_nodup) q.mU
  refine ⟨by simp [ccRow], ?_, q.lT, ?_, q.lU⟩
  · show 0 ≤ idxLL (ccL m k x z) _
    unfold ccL; rw [u3]; omega
  · show 0 ≤ idxLL (ccL m k x z) _
    unfold ccL; rw [v3]; omega
structure CcV (m k : Prof) (x z : Int) (b e d : Nat) : Prop where
  row : ccRow m k x z b e d = [(ccSt m k x z m.t.obj.toNat).getD (m.t.tgt.getD b 0).toNat 0 + ((m.bh.getD b []).getD x.toNat []).getD e 0 * (k.sz.getD (m.t.tgt.getD b 0).toNat []).getD z.toNat 0 + (d : Int), (ccSt m k x z m.t.obj.toNat).getD (m.t.src.getD b 0).toNat 0 + (e : Int) * (k.sz.getD (m.t.src.getD b 0).toNat []).getD z.toNat 0 + ((k.be.getD b []).getD z.toNat []).getD d 0]
  lT : (ccSt m k x z m.t.obj.toNat).getD (m.t.tgt.getD b 0).toNat 0 + ((m.bh.getD b []).getD x.toNat []).getD e 0 * (k.sz.getD (m.t.tgt.getD b 0).toNat []).getD z.toNat 0 + (d : Int) < (ccL m k x z).length
  lU : (ccSt m k x z m.t.obj.toNat).getD (m.t.src.getD b 0).toNat 0 + (e : Int) * (k.sz.getD (m.t.src.getD b 0).toNat []).getD z.toNat 0 + ((k.be.getD b []).getD z.toNat []).getD d 0 < (ccL m k x z).length
theorem CcP.v {m k : Prof} {x z : Int} {b e d : Nat} (q : CcP m k x z b e d) : CcV m k x z b e d := by
  obtain ⟨mT, mU, iT, iU, lT, lU, _, _, _, _⟩ := q
  rw [iT] at lT
  rw [iU] at lU
  exact ⟨by unfold ccRow; rw [iT, iU], lT, lU⟩
theorem CcOk.of {m k : Prof} {x z : Int} (h : ctCode m k x z = 0) : CcOk m k x z := by
  obtain ⟨h1, h2, h3, h4, h5, h6, h7⟩ := ctCode_0 h
  exact ⟨h1, h2, h3, h4, h5, h6, h7⟩
end Go.GL
