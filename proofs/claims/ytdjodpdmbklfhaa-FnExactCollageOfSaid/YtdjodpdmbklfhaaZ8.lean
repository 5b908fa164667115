/- Profunctors, in the program. No condition but those of each statement. -/
import Derived.Test.YtdjodpdmbklfhaaZ7
import Derived.MapKept
namespace Go.Proofs.Ytdjodpdmbklfhaa
open Go Go.GL Go.RowKit Go.Proofs
theorem ze_77_O : zeroT Try.prog 77 = some ([.pointer none], 1) := by kernel_rfl
theorem numbersN_c {n : Nat} {H : GHeap} (hn : n ≤ 1048576) : GCalls Try.prog 136 [.int .i64 (n : Int)] H (NewInts 2 H (numsL n)) := by
  refine GCalls.body (N := 18) (rs := [.tmp 2]) Try.func136 rfl rfl rfl rfl (fun Qx hret hend => ?_)
  refine .forget (fr' := [(0, some _)]) ⟨rfl, trivial⟩ ?_
  have hle := GHeap.Le.refl H
  refine .seq (fun K1 hK1 => .region (.mv rfl (.nil (hK1 _ _ (.seq (fun K2 hK2 => .region (.mv rfl ?_)))))))
  refine .r rfl rfl rfl (.makeIN rfl sl_22_A ze_2_E by_2_E rfl rfl (by omega) (by omega) (by omega)) ?_
  rintro _ H6 ⟨g6, rfl, le6, ge6, at6⟩
  replace hle := hle.trans le6
  have lt_at6 := GHeap.ltg at6
  refine .mv rfl (.nil (hK2 _ _ (.seq (fun K3 hK3 => .seq (fun K4 hK4 => .region (.mv rfl (.m rfl rfl rfl (.len sl_22_A rfl) (.mv rfl (.nil (hK4 _ _ ?_))))))))))
  refine .block ?_
  refine .loopR (σ := Nat × List Int) [(3, some _), (8, some _)] (fun (k, ys) => [(9, some (.int .i64 (k : Int)))]) (fun (k, ys) H' => St [g6] H6 H' ∧ H'.get g6 = some (.row (ints ys) 2 true) ∧ k ≤ n ∧ ys.length = n ∧ ∀ i, i < k → ys.getD i 0 = (i : Int)) (fun (k, ys) => n - k) ((0, List.replicate n 0)) ⟨rfl, rfl, trivial⟩ ⟨rfl, trivial⟩ ?_ ?_
  ·
   refine ⟨.refl _ _, by first | assumption | exact at6 | simpa using at6, ?_⟩
   exact ⟨by omega, by simp, fun _ _ => by omega⟩
  rintro ⟨k, ys⟩ HL1 ⟨lst1, at_L3, hI⟩ KL1 hKL1
  refine .forget (fr' := [(9, some (.int .i64 (k : Int))), (3, some _), (8, some _)]) ⟨rfl, rfl, rfl, trivial⟩ ?_
  replace hle := hle.st lst1 (fun k hk => ⟨by omega, trivial⟩)
  have lt_at_L3 := GHeap.ltg at_L3
  obtain ⟨hk, hyl, ha⟩ := hI
  have hsl := SlA.of_ints at_L3 hyl
  refine .seq (fun K5 hK5 => .region (.m rfl rfl rfl (.cmp rfl rfl rfl) (.nil (hK5 _ _ (.seq (fun K6 hK6 => ?_))))))
  refine .cond rfl (fun h10 => ?_) (fun h10 => ?_)
  ·
   simp only [sps] at h10
   refine .skip ?_
   refine hK6 _ _ (.seq (fun K7 hK7 => ?_))
   refine .block ?_
   refine .seq (fun K8 hK8 => .region (.mv rfl (.mv rfl (.nil (hK8 _ _ (.region (.mv rfl (.mv rfl (.mv rfl ?_)))))))))
   refine .m rfl rfl rfl (.idxN sl_22_A (by first | assumption | exact SlA.of_row at_L3 (by first | rfl | (simp; done) | (simp <;> omega))) rfl rfl (by omega)) ?_
   refine .r0 rfl rfl (.storeI rfl sz_2_E rfl rfl (by assumption) (by first | omega | (simp <;> omega))) ?_
   rintro _ H5004 ⟨rfl, st5004, at5004⟩
   replace hle := hle.st st5004 (fun k hk => ⟨by omega, trivial⟩)
   replace lst1 := lst1.st st5004 (fun k hk ho => by simp only [out, and_true] at ho ⊢ <;> first | exact ho | exact ho.1 | exact ho.2 | exact ho.2.1 | exact ho.2.2 | exact ho.2.2.1 | exact ho.2.2.2 | omega)
   have lt_at5004 := GHeap.ltg at5004
   refine .nil (hK7 _ _ (.region ?_))
   refine .m rfl rfl rfl (.add rfl rfl rfl (by omega) (by omega)) ?_
   refine .mv rfl (.nil ?_)
   refine hKL1 ((k + 1, ys.set (0 + k) (k : Int))) _ _ ?_ ?_ ⟨rfl, rfl, rfl, trivial⟩
   ·
    refine ⟨lst1, by assumption, ?_⟩
    refine ⟨by omega, by simpa using hyl, fun i hi => ?_⟩
    rw [Nat.zero_add, getD_set (by omega)]
    split
    · rename_i e; rw [e]
    · exact ha i (by omega)
   (dsimp only; omega)
  try simp only [sps] at h10
  refine .exit ?_
  refine hK3 _ _ (.seq (fun K9 hK9 => .region (.mv rfl (.mv rfl (.nil (hK9 _ _ ?_))))))
  refine .ret ?_
  refine hret _ _ ?_
  refine ⟨_, rfl, ?_⟩
  obtain rfl := numsL_eq hyl fun i hi => ha i (by omega)
  exact ⟨hle, _, by rw [length_numsL], at_L3, by omega⟩
theorem numbers_c {n : Int} {H : GHeap} (h0 : 0 ≤ n := by omega) (hn : n ≤ 1048576 := by omega) : GCalls Try.prog 136 [.int .i64 n] H (NewInts 2 H (numsL n.toNat)) := by
  have h := numbersN_c (n := n.toNat) (H := H) (by omega)
  rw [Int.toNat_of_nonneg h0] at h
  exact h
set_option maxHeartbeats 4000000 in
theorem pfShape_c {g o : Nat} {m : Prof} {p : ProfP} {H : GHeap} (h : Prof.At H g o m p := by assumption) (hs : m.Small := by assumption) : GCalls Try.prog 94 [.pointer (some ⟨g, o, none⟩)] H (Ret (.bool (B m.Shape)) H) := by
  refine GCalls.ret rfl ?_
  refine GCalls.body (N := 202) (rs := [.tmp 2]) Try.func94 rfl rfl rfl rfl (fun Qx hret hend => ?_)
  refine .forget (fr' := [(0, some _)]) ⟨rfl, trivial⟩ ?_
  have hle := GHeap.Le.refl H
  have base_h := h
  obtain ⟨fs, ft, c10, c11, c12, i2, i3, i4⟩ := h.get
  have hm : MemN _ _ _ _ _ := ⟨rfl, h.1⟩
  have hi := h.2
  obtain ⟨c0, c1, c2, c3, c4, d1, d2, d3, d4⟩ := fs.get
  obtain ⟨x0, x1, x2, x3, x4, y1, y2, y3, y4⟩ := ft.get
  obtain ⟨s1, s2, ⟨s3, s4⟩, ⟨s5, s6⟩, s7, s8⟩ := hs
  refine .seq (fun K1 hK1 => .region (.mv rfl (.nil (hK1 _ _ (.seq (fun K2 hK2 => ?_))))))
  refine .regionD mo_B (.q 0 (.q 1 (.q 2 (.q 3 (.q 4 (.q 5 (.q 6 (.q 7 (.done))))))))) (by kernel_rfl) ?_
  refine .mv rfl rfl (.m rfl rfl rfl rfl (.refl _) (.nilCheck rfl) (.m rfl rfl rfl rfl (.refl _) (.fieldAddr fo_34_0_VProf rfl) (.mv rfl rfl (.m rfl rfl rfl rfl (.refl _) (.nilCheck rfl) (.m rfl rfl rfl rfl (.refl _) (.fieldAddr fo_34_1_VProf rfl) (.mv rfl rfl (.mv rfl rfl ?_)))))))
  refine .done ?_
  refine hK2 _ _ (.seq (fun K3 hK3 => .seq (fun K4 hK4 => ?_)))
  refine .regionD mo_B (.q 0 (.q 1 (.c 2 0 (.c 3 0 (.q 4 (.q 5 (.q 6 (.q 7 (.q 8 (.q 9 (.q 10 (.q 11 (.q 12 (.q 13 (.q 14 (.q 15 (.q 16 (.q 17 (.q 18 (.q 19 (.q 20 (.q 21 (.q 22 (.q 23 (.c 24 1 (.q 25 (.q 26 (.q 27 (.q 28 (.q 29 (.q 30 (.q 31 (.q 32 (.q 33 (.c 34 1 (.q 35 (.q 36 (.done)))))))))))))))))))))))))))))))))))))) (by kernel_rfl) ?_
  refine .mv rfl rfl (.mv rfl rfl ?_)
  refine .c0 rfl rfl rfl rfl (.litR rfl sl_172_F ze_77_O rfl rfl (by omega) (by omega) rfl rfl) ?_
  rintro _ H23 ⟨g23, rfl, le23, ge23, at23⟩
  replace hle := hle.trans le23
  have lt_at23 := GHeap.ltg at23
  replace h := base_h.mono hle
  clear fs ft c10 c11 c12 i2 i3 i4 hm hi c0 c1 c2 c3 c4 d1 d2 d3 d4 x0 x1 x2 x3 x4 y1 y2 y3 y4
  obtain ⟨fs, ft, c10, c11, c12, i2, i3, i4⟩ := h.get
  have hm : MemN _ _ _ _ _ := ⟨rfl, h.1⟩
  have hi := h.2
  obtain ⟨c0, c1, c2, c3, c4, d1, d2, d3, d4⟩ := fs.get
  obtain ⟨x0, x1, x2, x3, x4, y1, y2, y3, y4⟩ := ft.get
  refine .callQ0 rfl rfl rfl rfl rfl @Try.call106 rfl (areCategories2_c) ?_
  refine .m rfl rfl rfl rfl (.refl _) (.not rfl) (.mv rfl rfl ?_)
  refine .split (fun h26 => ?_) (fun h26 => ?_)
  ·
   try simp only [sps] at h26
   refine .sg rfl rfl rfl rfl rfl rfl (.sg rfl rfl rfl rfl rfl rfl (.sg rfl rfl rfl rfl rfl rfl (.sg rfl rfl rfl rfl rfl rfl (.sg rfl rfl rfl rfl rfl rfl (.sg rfl rfl rfl rfl rfl rfl (.sg rfl rfl rfl rfl rfl rfl (.sg rfl rfl rfl rfl rfl rfl (.sg rfl rfl rfl rfl rfl rfl (.sg rfl rfl rfl rfl rfl rfl (.m rfl rfl rfl rfl (.refl _) (.pickT rfl rfl) (.mv rfl rfl (.sg rfl rfl rfl rfl rfl rfl (.sg rfl rfl rfl rfl rfl rfl (.sg rfl rfl rfl rfl rfl rfl (.sg rfl rfl rfl rfl rfl rfl ?_)))))))))))))))
   refine .sg rfl rfl rfl rfl rfl rfl (.sg rfl rfl rfl rfl rfl rfl (.sgc rfl rfl rfl rfl rfl rfl (.sg rfl rfl rfl rfl rfl rfl (.m rfl rfl rfl rfl (.refl _) (.pickT rfl rfl) (.mv rfl rfl (.sg rfl rfl rfl rfl rfl rfl (.sg rfl rfl rfl rfl rfl rfl (.sg rfl rfl rfl rfl rfl rfl (.sg rfl rfl rfl rfl rfl rfl (.sg rfl rfl rfl rfl rfl rfl (.sg rfl rfl rfl rfl rfl rfl (.sgc rfl rfl rfl rfl rfl rfl (.sg rfl rfl rfl rfl rfl rfl (.m rfl rfl rfl rfl (.refl _) (.pickT rfl rfl) ?_))))))))))))))
   refine .done ?_
   refine hK4 _ _ ?_
   refine .condT rfl ?_
   refine .seq (fun K5 hK5 => .region (.mv rfl (.nil (hK5 _ _ ?_))))
   refine .ret ?_
   refine hret _ _ ?_
   refine ⟨_, rfl, ?_⟩
   exact ⟨congrArg _ (B_false fun hh => h26 ⟨hh.s, hh.t⟩), hle⟩
  try simp only [sps] at h26
  refine .mg rfl rfl rfl rfl rfl rfl (.refl _) (.move rfl) (.mg rfl rfl rfl rfl rfl rfl (.refl _) (.nilCheck rfl) (.mg rfl rfl rfl rfl rfl rfl (.refl _) (.fieldAddr fo_34_2_VProf rfl) ?_))
  refine .mg rfl rfl rfl rfl rfl rfl (.refl _) (.load on_23_B rfl (by assumption)) ?_
  refine .mg rfl rfl rfl rfl rfl rfl (.refl _) (.len sl_23_B rfl) (.mg rfl rfl rfl rfl rfl rfl (.refl _) (.move rfl) (.mg rfl rfl rfl rfl rfl rfl (.refl _) (.nilCheck rfl) (.mg rfl rfl rfl rfl rfl rfl (.refl _) (.fieldAddr fo_30_0_B rfl) ?_)))
  refine .mg rfl rfl rfl rfl rfl rfl (.refl _) (.load on_2_A rfl (by assumption)) ?_
  refine .mg rfl rfl rfl rfl rfl rfl (.refl _) (.cmp rfl rfl rfl) (.m rfl rfl rfl rfl (.refl _) (.pickF rfl rfl) (.mv rfl rfl ?_))
  refine .split (fun h38 => ?_) (fun h38 => ?_)
  ·
   try simp only [sps] at h38
   refine .sg rfl rfl rfl rfl rfl rfl (.sg rfl rfl rfl rfl rfl rfl (.sg rfl rfl rfl rfl rfl rfl (.sg rfl rfl rfl rfl rfl rfl (.sg rfl rfl rfl rfl rfl rfl (.sg rfl rfl rfl rfl rfl rfl (.sgc rfl rfl rfl rfl rfl rfl (.sg rfl rfl rfl rfl rfl rfl (.m rfl rfl rfl rfl (.refl _) (.pickT rfl rfl) (.mv rfl rfl (.sg rfl rfl rfl rfl rfl rfl (.sg rfl rfl rfl rfl rfl rfl (.sg rfl rfl rfl rfl rfl rfl (.sg rfl rfl rfl rfl rfl rfl (.sg rfl rfl rfl rfl rfl rfl (.sg rfl rfl rfl rfl rfl rfl ?_)))))))))))))))
   refine .sgc rfl rfl rfl rfl rfl rfl (.sg rfl rfl rfl rfl rfl rfl (.m rfl rfl rfl rfl (.refl _) (.pickT rfl rfl) ?_))
   refine .done ?_
   refine hK4 _ _ ?_
   refine .condT rfl ?_
   refine .seq (fun K6 hK6 => .region (.mv rfl (.nil (hK6 _ _ ?_))))
   refine .ret ?_
   refine hret _ _ ?_
   refine ⟨_, rfl, ?_⟩
   exact ⟨congrArg _ (B_false fun hh => by have := hh.z.sl; omega), hle⟩
  try simp only [sps] at h38
  refine .mg rfl rfl rfl rfl rfl rfl (.refl _) (.move rfl) (.mg rfl rfl rfl rfl rfl rfl (.refl _) (.nilCheck rfl) (.mg rfl rfl rfl rfl rfl rfl (.refl _) (.fieldAddr fo_34_3_VProf rfl) ?_))
  refine .mg rfl rfl rfl rfl rfl rfl (.refl _) (.load on_26_VProf rfl (by assumption)) ?_
  refine .mg rfl rfl rfl rfl rfl rfl (.refl _) (.len sl_26_VZ rfl) (.mg rfl rfl rfl rfl rfl rfl (.refl _) (.move rfl) ?_)
  refine .callQ1g rfl rfl rfl rfl rfl rfl rfl @Try.call49 rfl (arrows_c) (.refl _) ?_
  refine .mg rfl rfl rfl rfl rfl rfl (.refl _) (.cmp rfl rfl rfl) (.m rfl rfl rfl rfl (.refl _) (.pickF rfl rfl) (.mv rfl rfl ?_))
  refine .split (fun h48 => ?_) (fun h48 => ?_)
  ·
   try simp only [sps] at h48
   refine .sg rfl rfl rfl rfl rfl rfl (.sg rfl rfl rfl rfl rfl rfl (.sg rfl rfl rfl rfl rfl rfl (.sg rfl rfl rfl rfl rfl rfl (.sg rfl rfl rfl rfl rfl rfl (.sg rfl rfl rfl rfl rfl rfl (.sgc rfl rfl rfl rfl rfl rfl (.sg rfl rfl rfl rfl rfl rfl (.m rfl rfl rfl rfl (.refl _) (.pickT rfl rfl) ?_))))))))
   refine .done ?_
   refine hK4 _ _ ?_
   refine .condT rfl ?_
   refine .seq (fun K7 hK7 => .region (.mv rfl (.nil (hK7 _ _ ?_))))
   refine .ret ?_
   refine hret _ _ ?_
   refine ⟨_, rfl, ?_⟩
   exact ⟨congrArg _ (B_false fun hh => by have := hh.z.bl; omega), hle⟩
  try simp only [sps] at h48
  refine .mg rfl rfl rfl rfl rfl rfl (.refl _) (.move rfl) (.mg rfl rfl rfl rfl rfl rfl (.refl _) (.nilCheck rfl) (.mg rfl rfl rfl rfl rfl rfl (.refl _) (.fieldAddr fo_34_4_VProf rfl) ?_))
  refine .mg rfl rfl rfl rfl rfl rfl (.refl _) (.load on_26_VProf rfl (by assumption)) ?_
  refine .mg rfl rfl rfl rfl rfl rfl (.refl _) (.len sl_26_VZ rfl) (.mg rfl rfl rfl rfl rfl rfl (.refl _) (.move rfl) ?_)
  refine .callQ1g rfl rfl rfl rfl rfl rfl rfl @Try.call49 rfl (arrows_c) (.refl _) ?_
  refine .mg rfl rfl rfl rfl rfl rfl (.refl _) (.cmp rfl rfl rfl) (.m rfl rfl rfl rfl (.refl _) (.pickF rfl rfl) ?_)
  refine .done ?_
  refine hK4 _ _ ?_
  refine .cond rfl (fun h57 => ?_) (fun h57 => ?_)
  ·
   try simp only [sps] at h57
   refine .seq (fun K8 hK8 => .region (.mv rfl (.nil (hK8 _ _ ?_))))
   refine .ret ?_
   refine hret _ _ ?_
   refine ⟨_, rfl, ?_⟩
   exact ⟨congrArg _ (B_false fun hh => by have := hh.z.hl; omega), hle⟩
  simp only [sps] at h57
  refine .skip ?_
  refine hK3 _ _ (.seq (fun K9 hK9 => .seq (fun K10 hK10 => .region (.mv rfl (.m rfl rfl rfl (.nilCheck rfl) (.m rfl rfl rfl (.fieldAddr fo_34_2_VProf rfl) ?_))))))
  refine .m rfl rfl rfl (.load on_23_B rfl (by assumption)) ?_
  refine .m rfl rfl rfl (.len sl_23_B rfl) (.mv rfl (.nil (hK10 _ _ ?_)))
  refine .block ?_
  have hC := h26.1
  have hD := h26.2
  have q1 := hC.1.tl
  have q2 := hD.1.tl
  refine .loopR (σ := Nat) [(0, some _), (3, some _), (4, some _), (61, some _), (62, some _)] (fun k => [(63, some (.int .i64 (k : Int)))]) (fun k H' => H23 = H' ∧ (k : Int) ≤ m.sz.length ∧ ∀ x, x < k → ((m.sz.getD x []).length : Int) = m.t.obj ∧ ∀ y, y < (m.sz.getD x []).length → 0 ≤ (m.sz.getD x []).getD y 0 ∧ (m.sz.getD x []).getD y 0 < 65) (fun k => (m.sz.length - k : Int).toNat) (0) ⟨rfl, rfl, rfl, rfl, rfl, trivial⟩ ⟨rfl, trivial⟩ ?_ ?_
  ·
   refine ⟨rfl, ?_⟩
   exact ⟨by omega, fun _ _ => by omega⟩
  rintro k _ ⟨rfl, hI⟩ KL1 hKL1
  refine .forget (fr' := [(63, some (.int .i64 (k : Int))), (0, some _), (3, some _), (4, some _), (61, some _), (62, some _)]) ⟨rfl, rfl, rfl, rfl, rfl, rfl, trivial⟩ ?_
  obtain ⟨hk1, ha1⟩ := hI
  refine .seq (fun K11 hK11 => .region (.m rfl rfl rfl (.cmp rfl rfl rfl) (.nil (hK11 _ _ (.seq (fun K12 hK12 => ?_))))))
  refine .cond rfl (fun h64 => ?_) (fun h64 => ?_)
  ·
   simp only [sps] at h64
   have r1 := i2.2 k (by omega)
   have r2 := s4 k
   refine .skip ?_
   refine hK12 _ _ (.seq (fun K13 hK13 => ?_))
   refine .block ?_
   refine .seq (fun K14 hK14 => .region ?_)
   refine .m rfl rfl rfl (.idxN sl_23_B (Intss.sl (by assumption)) rfl rfl (by omega)) ?_
   refine .m rfl rfl rfl (.loadR on_22_B (by assumption) rfl (by omega)) ?_
   refine .mv rfl (.nil (hK14 _ _ (.seq (fun K15 hK15 => .region (.mv rfl (.m rfl rfl rfl (.len sl_22_A rfl) (.mv rfl (.m rfl rfl rfl (.nilCheck rfl) (.m rfl rfl rfl (.fieldAddr fo_30_0_B rfl) ?_)))))))))
   refine .m rfl rfl rfl (.load on_2_A rfl (by assumption)) ?_
   refine .m rfl rfl rfl (.cmp rfl rfl rfl) (.mv rfl ?_)
   refine .split (fun h74 => ?_) (fun h74 => ?_)
   ·
    try simp only [sps] at h74
    refine .sg rfl rfl rfl rfl rfl (.sg rfl rfl rfl rfl rfl (.sg rfl rfl rfl rfl rfl (.m rfl rfl rfl (.pickT rfl rfl) (.nil (hK15 _ _ ?_)))))
    refine .condT rfl ?_
    refine .seq (fun K16 hK16 => .region (.mv rfl (.nil (hK16 _ _ ?_))))
    refine .ret ?_
    refine hret _ _ ?_
    refine ⟨_, rfl, ?_⟩
    exact ⟨congrArg _ (B_false fun hh => by have := hh.z.row k (by omega); omega), hle⟩
   try simp only [sps] at h74
   refine .mg rfl rfl rfl rfl rfl (.move rfl) ?_
   refine .callQg rfl rfl rfl rfl rfl rfl @Try.call134 rfl (within_c) ?_
   refine .mg rfl rfl rfl rfl rfl (.not rfl) (.m rfl rfl rfl (.pickF rfl rfl) (.nil (hK15 _ _ ?_)))
   refine .cond rfl (fun h78 => ?_) (fun h78 => ?_)
   ·
    try simp only [sps] at h78
    refine .seq (fun K17 hK17 => .region (.mv rfl (.nil (hK17 _ _ ?_))))
    refine .ret ?_
    refine hret _ _ ?_
    refine ⟨_, rfl, ?_⟩
    exact ⟨congrArg _ (B_false fun hh => by rw [allIn_iff.2 fun y hy => by have := hh.z.rng k (by omega) y (by omega); omega] at h78; cases h78), hle⟩
   try simp only [sps] at h78
   refine .skip ?_
   refine hK13 _ _ (.region ?_)
   refine .m rfl rfl rfl (.add rfl rfl rfl (by omega) (by omega)) ?_
   refine .mv rfl (.nil ?_)
   refine hKL1 (k + 1) _ _ ?_ ?_ ⟨rfl, rfl, rfl, rfl, rfl, rfl, trivial⟩
   ·
    refine ⟨rfl, ?_⟩
    refine ⟨by omega, fun x hx => ?_⟩
    by_cases hltq : x < k
    · exact ha1 x hltq
    · obtain rfl : x = k := by omega
      exact ⟨h74, h78⟩
   omega
  try simp only [sps] at h64
  refine .exit ?_
  refine hK9 _ _ (.seq (fun K18 hK18 => .seq (fun K19 hK19 => .region (.mv rfl (.m rfl rfl rfl (.nilCheck rfl) (.m rfl rfl rfl (.fieldAddr fo_34_3_VProf rfl) ?_))))))
  refine .m rfl rfl rfl (.load on_26_VProf rfl (by assumption)) ?_
  refine .m rfl rfl rfl (.len sl_26_VZ rfl) (.mv rfl (.nil (hK19 _ _ ?_)))
  refine .block ?_
  have hz : m.Sized := ⟨by omega, by omega, by omega, fun x hx => (ha1 x (by omega)).1, fun x hx y hy => by have := (ha1 x (by omega)).2 y hy; omega⟩
  refine .loopR (σ := Nat) [(0, some _), (3, some _), (4, some _), (83, some _), (84, some _)] (fun a => [(85, some (.int .i64 (a : Int)))]) (fun a H' => H23 = H' ∧ (a : Int) ≤ m.be.length ∧ ∀ a', a' < a → ((m.be.getD a' []).length : Int) = m.t.obj ∧ ∀ y, y < (m.be.getD a' []).length → m.BeOk a' y) (fun a => (m.be.length - a : Int).toNat) (0) ⟨rfl, rfl, rfl, rfl, rfl, trivial⟩ ⟨rfl, trivial⟩ ?_ ?_
  ·
   refine ⟨rfl, ?_⟩
   exact ⟨by omega, fun _ _ => by omega⟩
  rintro a _ ⟨rfl, hI⟩ KL2 hKL2
  refine .forget (fr' := [(85, some (.int .i64 (a : Int))), (0, some _), (3, some _), (4, some _), (83, some _), (84, some _)]) ⟨rfl, rfl, rfl, rfl, rfl, rfl, trivial⟩ ?_
  obtain ⟨hk2, ha2⟩ := hI
  refine .seq (fun K20 hK20 => .region (.m rfl rfl rfl (.cmp rfl rfl rfl) (.nil (hK20 _ _ (.seq (fun K21 hK21 => ?_))))))
  refine .cond rfl (fun h86 => ?_) (fun h86 => ?_)
  ·
   simp only [sps] at h86
   have r1 := i3.2 a (by omega)
   have r2 := s6 a
   have r3 := hz.b hC (a := a) (by omega)
   refine .skip ?_
   refine hK21 _ _ (.seq (fun K22 hK22 => ?_))
   refine .block ?_
   refine .seq (fun K23 hK23 => .region (.mv rfl ?_))
   refine .m rfl rfl rfl (.idxN sl_26_VZ (Intsss.sl (by assumption)) rfl rfl (by omega)) ?_
   refine .m rfl rfl rfl (.loadRR on_23_B (by assumption) rfl (by omega)) ?_
   refine .mv rfl (.mv rfl (.nil (hK23 _ _ (.seq (fun K24 hK24 => .seq (fun K25 hK25 => .region (.mv rfl (.m rfl rfl rfl (.len sl_23_B rfl) (.mv rfl (.m rfl rfl rfl (.nilCheck rfl) (.m rfl rfl rfl (.fieldAddr fo_30_0_B rfl) ?_)))))))))))
   refine .m rfl rfl rfl (.load on_2_A rfl (by assumption)) ?_
   refine .m rfl rfl rfl (.cmp rfl rfl rfl) (.nil (hK25 _ _ ?_))
   refine .cond rfl (fun h96 => ?_) (fun h96 => ?_)
   ·
    try simp only [sps] at h96
    refine .seq (fun K26 hK26 => .region (.mv rfl (.nil (hK26 _ _ ?_))))
    refine .ret ?_
    refine hret _ _ ?_
    refine ⟨_, rfl, ?_⟩
    exact ⟨congrArg _ (B_false fun hh => by have := (hh.ok.be a (by omega)).1; omega), hle⟩
   try simp only [sps] at h96
   refine .skip ?_
   refine hK24 _ _ (.seq (fun K27 hK27 => .region (.mv rfl (.m rfl rfl rfl (.len sl_23_B rfl) (.mv rfl (.nil (hK27 _ _ ?_)))))))
   refine .block ?_
   refine .loopR (σ := Nat) [(0, some _), (3, some _), (4, some _), (7, some _), (83, some _), (84, some _), (85, some _), (97, some _), (98, some _)] (fun y => [(99, some (.int .i64 (y : Int)))]) (fun y H' => H23 = H' ∧ (y : Int) ≤ (m.be.getD a []).length ∧ ∀ y', y' < y → m.BeOk a y') (fun y => ((m.be.getD a []).length - y : Int).toNat) (0) ⟨rfl, rfl, rfl, rfl, rfl, rfl, rfl, rfl, rfl, trivial⟩ ⟨rfl, trivial⟩ ?_ ?_
   ·
    refine ⟨rfl, ?_⟩
    exact ⟨by omega, fun _ _ => by omega⟩
   rintro y _ ⟨rfl, hI⟩ KL3 hKL3
   refine .forget (fr' := [(99, some (.int .i64 (y : Int))), (0, some _), (3, some _), (4, some _), (7, some _), (83, some _), (84, some _), (85, some _), (97, some _), (98, some _)]) ⟨rfl, rfl, rfl, rfl, rfl, rfl, rfl, rfl, rfl, rfl, trivial⟩ ?_
   obtain ⟨hk3, ha3⟩ := hI
   refine .seq (fun K28 hK28 => .region (.m rfl rfl rfl (.cmp rfl rfl rfl) (.nil (hK28 _ _ (.seq (fun K29 hK29 => ?_))))))
   refine .cond rfl (fun h100 => ?_) (fun h100 => ?_)
   ·
    simp only [sps] at h100
    have t1 := r1.2 y (by omega)
    have t2 := r2.2 y
    have t3 := i2.2 (m.s.src.getD a 0).toNat (by omega)
    have t4 := i2.2 (m.s.tgt.getD a 0).toNat (by omega)
    have t5 := hz.rng (m.s.src.getD a 0).toNat (by omega) y (by omega)
    refine .skip ?_
    refine hK29 _ _ (.seq (fun K30 hK30 => ?_))
    refine .block ?_
    refine .seq (fun K31 hK31 => .region (.mv rfl ?_))
    refine .m rfl rfl rfl (.idxN sl_23_B (Intss.sl (by assumption)) rfl rfl (by omega)) ?_
    refine .m rfl rfl rfl (.loadR on_22_B (by assumption) rfl (by omega)) ?_
    refine .mv rfl (.mv rfl (.nil (hK31 _ _ (.seq (fun K32 hK32 => ?_)))))
    refine .regionD mo_B (.q 0 (.q 1 (.q 2 (.q 3 (.q 4 (.q 5 (.q 6 (.q 7 (.q 8 (.q 9 (.q 10 (.q 11 (.q 12 (.q 13 (.q 14 (.q 15 (.q 16 (.q 17 (.q 18 (.q 19 (.q 20 (.q 21 (.q 22 (.q 23 (.q 24 (.q 25 (.q 26 (.q 27 (.q 28 (.q 29 (.q 30 (.q 31 (.q 32 (.c 33 0 (.q 34 (.done)))))))))))))))))))))))))))))))))))) (by kernel_rfl) ?_
    refine .mv rfl rfl (.mv rfl rfl (.m rfl rfl rfl rfl (.refl _) (.nilCheck rfl) (.m rfl rfl rfl rfl (.refl _) (.fieldAddr fo_34_2_VProf rfl) ?_)))
    refine .m rfl rfl rfl rfl (.refl _) (.load on_23_B rfl (by assumption)) ?_
    refine .mv rfl rfl (.m rfl rfl rfl rfl (.refl _) (.nilCheck rfl) (.m rfl rfl rfl rfl (.refl _) (.fieldAddr fo_30_2_B rfl) ?_))
    refine .m rfl rfl rfl rfl (.refl _) (.load on_22_B rfl (by assumption)) ?_
    refine .mv rfl rfl ?_
    refine .m rfl rfl rfl rfl (.refl _) (.idxN sl_22_A (by assumption) rfl rfl (by omega)) ?_
    refine .m rfl rfl rfl rfl (.refl _) (.loadI on_2_A (by assumption) rfl (by omega)) ?_
    refine .m rfl rfl rfl rfl (.refl _) (.idx1 sl_23_B (Intss.sl (by assumption)) rfl rfl (by omega) (by omega)) ?_
    refine .m rfl rfl rfl rfl (.refl _) (.loadR on_22_B (by assumption) rfl (by omega)) ?_
    refine .mv rfl rfl ?_
    refine .m rfl rfl rfl rfl (.refl _) (.idxN sl_22_A (by assumption) rfl rfl (by omega)) ?_
    refine .m rfl rfl rfl rfl (.refl _) (.loadI on_2_A (by assumption) rfl (by omega)) ?_
    refine .mv rfl rfl (.m rfl rfl rfl rfl (.refl _) (.nilCheck rfl) (.m rfl rfl rfl rfl (.refl _) (.fieldAddr fo_34_2_VProf rfl) ?_))
    refine .m rfl rfl rfl rfl (.refl _) (.load on_23_B rfl (by assumption)) ?_
    refine .mv rfl rfl (.m rfl rfl rfl rfl (.refl _) (.nilCheck rfl) (.m rfl rfl rfl rfl (.refl _) (.fieldAddr fo_30_1_B rfl) ?_))
    refine .m rfl rfl rfl rfl (.refl _) (.load on_22_B rfl (by assumption)) ?_
    refine .mv rfl rfl ?_
    refine .m rfl rfl rfl rfl (.refl _) (.idxN sl_22_A (by assumption) rfl rfl (by omega)) ?_
    refine .m rfl rfl rfl rfl (.refl _) (.loadI on_2_A (by assumption) rfl (by omega)) ?_
    refine .m rfl rfl rfl rfl (.refl _) (.idx1 sl_23_B (Intss.sl (by assumption)) rfl rfl (by omega) (by omega)) ?_
    refine .m rfl rfl rfl rfl (.refl _) (.loadR on_22_B (by assumption) rfl (by omega)) ?_
    refine .mv rfl rfl ?_
    refine .m rfl rfl rfl rfl (.refl _) (.idxN sl_22_A (by assumption) rfl rfl (by omega)) ?_
    refine .m rfl rfl rfl rfl (.refl _) (.loadI on_2_A (by assumption) rfl (by omega)) ?_
    refine .callQ0 rfl rfl rfl rfl rfl @Try.call135 rfl (isMapOf_c) ?_
    refine .m rfl rfl rfl rfl (.refl _) (.not rfl) ?_
    refine .done ?_
    refine hK32 _ _ ?_
    refine .cond rfl (fun h138 => ?_) (fun h138 => ?_)
    ·
     simp only [B_iff, B_not, Bool.not_eq_true', Bool.not_eq_false'] at h138
     refine .seq (fun K33 hK33 => .region (.mv rfl (.nil (hK33 _ _ ?_))))
     refine .ret ?_
     refine hret _ _ ?_
     refine ⟨_, rfl, ?_⟩
     exact ⟨congrArg _ (B_false fun hh => h138 ((hh.ok.be a (by omega)).2 y (by omega))), hle⟩
    simp only [B_iff, B_not, Bool.not_eq_true', Bool.not_eq_false'] at h138
    refine .skip ?_
    refine hK30 _ _ (.region ?_)
    refine .m rfl rfl rfl (.add rfl rfl rfl (by omega) (by omega)) ?_
    refine .mv rfl (.nil ?_)
    refine hKL3 (y + 1) _ _ ?_ ?_ ⟨rfl, rfl, rfl, rfl, rfl, rfl, rfl, rfl, rfl, rfl, trivial⟩
    ·
     refine ⟨rfl, ?_⟩
     refine ⟨by omega, fun y' hx => ?_⟩
     by_cases hltq : y' < y
     · exact ha3 y' hltq
     · obtain rfl : y' = y := by omega
       exact h138
    omega
   try simp only [sps] at h100
   refine .exit ?_
   refine hK22 _ _ (.region ?_)
   refine .m rfl rfl rfl (.add rfl rfl rfl (by omega) (by omega)) ?_
   refine .mv rfl (.nil ?_)
   refine hKL2 (a + 1) _ _ ?_ ?_ ⟨rfl, rfl, rfl, rfl, rfl, rfl, trivial⟩
   ·
    refine ⟨rfl, ?_⟩
    refine ⟨by omega, fun a' hx => ?_⟩
    by_cases hltq : a' < a
    · exact ha2 a' hltq
    · obtain rfl : a' = a := by omega
      exact ⟨h96, fun y hy => ha3 y (by omega)⟩
   omega
  try simp only [sps] at h86
  refine .exit ?_
  refine hK18 _ _ (.seq (fun K34 hK34 => .seq (fun K35 hK35 => .region (.mv rfl (.m rfl rfl rfl (.nilCheck rfl) (.m rfl rfl rfl (.fieldAddr fo_34_4_VProf rfl) ?_))))))
  refine .m rfl rfl rfl (.load on_26_VProf rfl (by assumption)) ?_
  refine .m rfl rfl rfl (.len sl_26_VZ rfl) (.mv rfl (.nil (hK35 _ _ ?_)))
  refine .block ?_
  refine .loopR (σ := Nat) [(0, some _), (3, some _), (4, some _), (144, some _), (145, some _)] (fun b => [(146, some (.int .i64 (b : Int)))]) (fun b H' => H23 = H' ∧ (b : Int) ≤ m.bh.length ∧ ∀ b', b' < b → ((m.bh.getD b' []).length : Int) = m.s.obj ∧ ∀ x, x < (m.bh.getD b' []).length → m.BhOk b' x) (fun b => (m.bh.length - b : Int).toNat) (0) ⟨rfl, rfl, rfl, rfl, rfl, trivial⟩ ⟨rfl, trivial⟩ ?_ ?_
  ·
   refine ⟨rfl, ?_⟩
   exact ⟨by omega, fun _ _ => by omega⟩
  rintro b _ ⟨rfl, hI⟩ KL4 hKL4
  refine .forget (fr' := [(146, some (.int .i64 (b : Int))), (0, some _), (3, some _), (4, some _), (144, some _), (145, some _)]) ⟨rfl, rfl, rfl, rfl, rfl, rfl, trivial⟩ ?_
  obtain ⟨hk4, ha4⟩ := hI
  refine .seq (fun K36 hK36 => .region (.m rfl rfl rfl (.cmp rfl rfl rfl) (.nil (hK36 _ _ (.seq (fun K37 hK37 => ?_))))))
  refine .cond rfl (fun h147 => ?_) (fun h147 => ?_)
  ·
   simp only [sps] at h147
   have r1 := i4.2 b (by omega)
   have r2 := s8 b
   have r3 := hz.h hD (b := b) (by omega)
   refine .skip ?_
   refine hK37 _ _ (.seq (fun K38 hK38 => ?_))
   refine .block ?_
   refine .seq (fun K39 hK39 => .region (.mv rfl ?_))
   refine .m rfl rfl rfl (.idxN sl_26_VZ (Intsss.sl (by assumption)) rfl rfl (by omega)) ?_
   refine .m rfl rfl rfl (.loadRR on_23_B (by assumption) rfl (by omega)) ?_
   refine .mv rfl (.mv rfl (.nil (hK39 _ _ (.seq (fun K40 hK40 => .seq (fun K41 hK41 => .region (.mv rfl (.m rfl rfl rfl (.len sl_23_B rfl) (.mv rfl (.m rfl rfl rfl (.nilCheck rfl) (.m rfl rfl rfl (.fieldAddr fo_30_0_B rfl) ?_)))))))))))
   refine .m rfl rfl rfl (.load on_2_A rfl (by assumption)) ?_
   refine .m rfl rfl rfl (.cmp rfl rfl rfl) (.nil (hK41 _ _ ?_))
   refine .cond rfl (fun h157 => ?_) (fun h157 => ?_)
   ·
    try simp only [sps] at h157
    refine .seq (fun K42 hK42 => .region (.mv rfl (.nil (hK42 _ _ ?_))))
    refine .ret ?_
    refine hret _ _ ?_
    refine ⟨_, rfl, ?_⟩
    exact ⟨congrArg _ (B_false fun hh => by have := (hh.ok.bh b (by omega)).1; omega), hle⟩
   try simp only [sps] at h157
   refine .skip ?_
   refine hK40 _ _ (.seq (fun K43 hK43 => .region (.mv rfl (.m rfl rfl rfl (.len sl_23_B rfl) (.mv rfl (.nil (hK43 _ _ ?_)))))))
   refine .block ?_
   refine .loopR (σ := Nat) [(0, some _), (3, some _), (4, some _), (11, some _), (144, some _), (145, some _), (146, some _), (158, some _), (159, some _)] (fun x => [(160, some (.int .i64 (x : Int)))]) (fun x H' => H23 = H' ∧ (x : Int) ≤ (m.bh.getD b []).length ∧ ∀ x', x' < x → m.BhOk b x') (fun x => ((m.bh.getD b []).length - x : Int).toNat) (0) ⟨rfl, rfl, rfl, rfl, rfl, rfl, rfl, rfl, rfl, trivial⟩ ⟨rfl, trivial⟩ ?_ ?_
   ·
    refine ⟨rfl, ?_⟩
    exact ⟨by omega, fun _ _ => by omega⟩
   rintro x _ ⟨rfl, hI⟩ KL5 hKL5
   refine .forget (fr' := [(160, some (.int .i64 (x : Int))), (0, some _), (3, some _), (4, some _), (11, some _), (144, some _), (145, some _), (146, some _), (158, some _), (159, some _)]) ⟨rfl, rfl, rfl, rfl, rfl, rfl, rfl, rfl, rfl, rfl, trivial⟩ ?_
   obtain ⟨hk5, ha5⟩ := hI
   refine .seq (fun K44 hK44 => .region (.m rfl rfl rfl (.cmp rfl rfl rfl) (.nil (hK44 _ _ (.seq (fun K45 hK45 => ?_))))))
   refine .cond rfl (fun h161 => ?_) (fun h161 => ?_)
   ·
    simp only [sps] at h161
    have t1 := r1.2 x (by omega)
    have t2 := r2.2 x
    have t3 := i2.2 x (by omega)
    have t4 := hz.row x (by omega)
    have t5 := hz.rng x (by omega) (m.t.tgt.getD b 0).toNat (by omega)
    refine .skip ?_
    refine hK45 _ _ (.seq (fun K46 hK46 => ?_))
    refine .block ?_
    refine .seq (fun K47 hK47 => .region (.mv rfl ?_))
    refine .m rfl rfl rfl (.idxN sl_23_B (Intss.sl (by assumption)) rfl rfl (by omega)) ?_
    refine .m rfl rfl rfl (.loadR on_22_B (by assumption) rfl (by omega)) ?_
    refine .mv rfl (.mv rfl (.nil (hK47 _ _ (.seq (fun K48 hK48 => ?_)))))
    refine .regionD mo_B (.q 0 (.q 1 (.q 2 (.q 3 (.q 4 (.q 5 (.q 6 (.q 7 (.q 8 (.q 9 (.q 10 (.q 11 (.q 12 (.q 13 (.q 14 (.q 15 (.q 16 (.q 17 (.q 18 (.q 19 (.q 20 (.q 21 (.q 22 (.q 23 (.q 24 (.q 25 (.q 26 (.q 27 (.q 28 (.q 29 (.q 30 (.q 31 (.q 32 (.c 33 0 (.q 34 (.done)))))))))))))))))))))))))))))))))))) (by kernel_rfl) ?_
    refine .mv rfl rfl (.mv rfl rfl (.m rfl rfl rfl rfl (.refl _) (.nilCheck rfl) (.m rfl rfl rfl rfl (.refl _) (.fieldAddr fo_34_2_VProf rfl) ?_)))
    refine .m rfl rfl rfl rfl (.refl _) (.load on_23_B rfl (by assumption)) ?_
    refine .mv rfl rfl ?_
    refine .m rfl rfl rfl rfl (.refl _) (.idxN sl_23_B (Intss.sl (by assumption)) rfl rfl (by omega)) ?_
    refine .m rfl rfl rfl rfl (.refl _) (.loadR on_22_B (by assumption) rfl (by omega)) ?_
    refine .mv rfl rfl (.m rfl rfl rfl rfl (.refl _) (.nilCheck rfl) (.m rfl rfl rfl rfl (.refl _) (.fieldAddr fo_30_1_B rfl) ?_))
    refine .m rfl rfl rfl rfl (.refl _) (.load on_22_B rfl (by assumption)) ?_
    refine .mv rfl rfl ?_
    refine .m rfl rfl rfl rfl (.refl _) (.idxN sl_22_A (by assumption) rfl rfl (by omega)) ?_
    refine .m rfl rfl rfl rfl (.refl _) (.loadI on_2_A (by assumption) rfl (by omega)) ?_
    refine .m rfl rfl rfl rfl (.refl _) (.idx1 sl_22_A (by assumption) rfl rfl (by omega) (by omega)) ?_
    refine .m rfl rfl rfl rfl (.refl _) (.loadI on_2_A (by assumption) rfl (by omega)) ?_
    refine .mv rfl rfl (.m rfl rfl rfl rfl (.refl _) (.nilCheck rfl) (.m rfl rfl rfl rfl (.refl _) (.fieldAddr fo_34_2_VProf rfl) ?_))
    refine .m rfl rfl rfl rfl (.refl _) (.load on_23_B rfl (by assumption)) ?_
    refine .mv rfl rfl ?_
    refine .m rfl rfl rfl rfl (.refl _) (.idxN sl_23_B (Intss.sl (by assumption)) rfl rfl (by omega)) ?_
    refine .m rfl rfl rfl rfl (.refl _) (.loadR on_22_B (by assumption) rfl (by omega)) ?_
    refine .mv rfl rfl (.m rfl rfl rfl rfl (.refl _) (.nilCheck rfl) (.m rfl rfl rfl rfl (.refl _) (.fieldAddr fo_30_2_B rfl) ?_))
    refine .m rfl rfl rfl rfl (.refl _) (.load on_22_B rfl (by assumption)) ?_
    refine .mv rfl rfl ?_
    refine .m rfl rfl rfl rfl (.refl _) (.idxN sl_22_A (by assumption) rfl rfl (by omega)) ?_
    refine .m rfl rfl rfl rfl (.refl _) (.loadI on_2_A (by assumption) rfl (by omega)) ?_
    refine .m rfl rfl rfl rfl (.refl _) (.idx1 sl_22_A (by assumption) rfl rfl (by omega) (by omega)) ?_
    refine .m rfl rfl rfl rfl (.refl _) (.loadI on_2_A (by assumption) rfl (by omega)) ?_
    refine .callQ0 rfl rfl rfl rfl rfl @Try.call135 rfl (isMapOf_c) ?_
    refine .m rfl rfl rfl rfl (.refl _) (.not rfl) ?_
    refine .done ?_
    refine hK48 _ _ ?_
    refine .cond rfl (fun h199 => ?_) (fun h199 => ?_)
    ·
     simp only [B_iff, B_not, Bool.not_eq_true', Bool.not_eq_false'] at h199
     refine .seq (fun K49 hK49 => .region (.mv rfl (.nil (hK49 _ _ ?_))))
     refine .ret ?_
     refine hret _ _ ?_
     refine ⟨_, rfl, ?_⟩
     exact ⟨congrArg _ (B_false fun hh => h199 ((hh.ok.bh b (by omega)).2 x (by omega))), hle⟩
    simp only [B_iff, B_not, Bool.not_eq_true', Bool.not_eq_false'] at h199
    refine .skip ?_
    refine hK46 _ _ (.region ?_)
    refine .m rfl rfl rfl (.add rfl rfl rfl (by omega) (by omega)) ?_
    refine .mv rfl (.nil ?_)
    refine hKL5 (x + 1) _ _ ?_ ?_ ⟨rfl, rfl, rfl, rfl, rfl, rfl, rfl, rfl, rfl, rfl, trivial⟩
    ·
     refine ⟨rfl, ?_⟩
     refine ⟨by omega, fun x' hx => ?_⟩
     by_cases hltq : x' < x
     · exact ha5 x' hltq
     · obtain rfl : x' = x := by omega
       exact h199
    omega
   try simp only [sps] at h161
   refine .exit ?_
   refine hK38 _ _ (.region ?_)
   refine .m rfl rfl rfl (.add rfl rfl rfl (by omega) (by omega)) ?_
   refine .mv rfl (.nil ?_)
   refine hKL4 (b + 1) _ _ ?_ ?_ ⟨rfl, rfl, rfl, rfl, rfl, rfl, trivial⟩
   ·
    refine ⟨rfl, ?_⟩
    refine ⟨by omega, fun b' hx => ?_⟩
    by_cases hltq : b' < b
    · exact ha4 b' hltq
    · obtain rfl : b' = b := by omega
      exact ⟨h157, fun x hx => ha5 x (by omega)⟩
   omega
  try simp only [sps] at h147
  refine .exit ?_
  refine hK34 _ _ (.seq (fun K50 hK50 => .region (.mv rfl (.nil (hK50 _ _ ?_)))))
  refine .ret ?_
  refine hret _ _ ?_
  refine ⟨_, rfl, ?_⟩
  exact ⟨congrArg _ (B_true ⟨hC, hD, hz, fun a ha => ha2 a (by omega), fun b hb => ha4 b (by omega)⟩), hle⟩
set_option maxHeartbeats 4000000 in
theorem pfActs_c {g o : Nat} {m : Prof} {p : ProfP} {H : GHeap} (h : Prof.At H g o m p := by assumption) (hS : m.Shape := by assumption) : GCalls Try.prog 95 [.pointer (some ⟨g, o, none⟩)] H (Ret (.bool (B m.Acts)) H) := by
  refine GCalls.ret rfl ?_
  refine GCalls.body (N := 216) (rs := [.tmp 2]) Try.func95 rfl rfl rfl rfl (fun Qx hret hend => ?_)
  refine .forget (fr' := [(0, some _)]) ⟨rfl, trivial⟩ ?_
  have hle := GHeap.Le.refl H
  have base_h := h
  obtain ⟨fs, ft, c10, c11, c12, i2, i3, i4⟩ := h.get
  have hm : MemN _ _ _ _ _ := ⟨rfl, h.1⟩
  have hi := h.2
  obtain ⟨c0, c1, c2, c3, c4, d1, d2, d3, d4⟩ := fs.get
  obtain ⟨x0, x1, x2, x3, x4, y1, y2, y3, y4⟩ := ft.get
  have hC := hS.s.1
  have hD := hS.t.1
  have q1 := hC.il
  have q2 := hD.il
  have q3 := hC.cl
  have q4 := hD.cl
  have q5 := hS.z.sl
  have q6 := hS.z.bl
  have q7 := hS.z.hl
  have q8 := hC.obj
  have q9 := hD.obj
  have q10 := hC.n40
  have q11 := hD.n40
  refine .seq (fun K1 hK1 => .region (.mv rfl (.nil (hK1 _ _ (.seq (fun K2 hK2 => ?_))))))
  refine .regionD mo_B (.q 0 (.q 1 (.q 2 (.q 3 (.q 4 (.q 5 (.q 6 (.q 7 (.done))))))))) (by kernel_rfl) ?_
  refine .mv rfl rfl (.m rfl rfl rfl rfl (.refl _) (.nilCheck rfl) (.m rfl rfl rfl rfl (.refl _) (.fieldAddr fo_34_0_VProf rfl) (.mv rfl rfl (.m rfl rfl rfl rfl (.refl _) (.nilCheck rfl) (.m rfl rfl rfl rfl (.refl _) (.fieldAddr fo_34_1_VProf rfl) (.mv rfl rfl (.mv rfl rfl ?_)))))))
  refine .done ?_
  refine hK2 _ _ (.seq (fun K3 hK3 => .seq (fun K4 hK4 => .region (.mv rfl (.nil (hK4 _ _ ?_))))))
  refine .block ?_
  refine .loopR (σ := Nat) [(0, some _), (3, some _), (4, some _)] (fun y => [(5, some (.int .i64 (y : Int)))]) (fun y H' => St [] H H' ∧ (y : Int) ≤ m.t.obj ∧ ∀ y', y' < y → (∀ x : Nat, x < m.s.idn.length → NoMove ((m.be.getD (m.s.idn.getD x 0).toNat []).getD y' []) ∧ NoMove ((m.bh.getD (m.t.idn.getD y' 0).toNat []).getD x [])) ∧ ∀ a : Nat, a < m.s.comp.length → ∀ b : Nat, b < (m.s.comp.getD a []).length → 0 ≤ (m.s.comp.getD a []).getD b 0 → (m.be.getD ((m.s.comp.getD a []).getD b 0).toNat []).getD y' [] = thenL ((m.be.getD b []).getD y' []) ((m.be.getD a []).getD y' [])) (fun y => (m.t.obj - y : Int).toNat) (0) ⟨rfl, rfl, rfl, trivial⟩ ⟨rfl, trivial⟩ ?_ ?_
  ·
   refine ⟨.refl _ _, ?_⟩
   exact ⟨by omega, fun _ _ => by omega⟩
  rintro y HL1 ⟨lst1, hI⟩ KL1 hKL1
  refine .forget (fr' := [(5, some (.int .i64 (y : Int))), (0, some _), (3, some _), (4, some _)]) ⟨rfl, rfl, rfl, rfl, trivial⟩ ?_
  replace hle := hle.st lst1 (fun k hk => trivial)
  replace h := base_h.mono hle
  clear fs ft c10 c11 c12 i2 i3 i4 hm hi c0 c1 c2 c3 c4 d1 d2 d3 d4 x0 x1 x2 x3 x4 y1 y2 y3 y4
  obtain ⟨fs, ft, c10, c11, c12, i2, i3, i4⟩ := h.get
  have hm : MemN _ _ _ _ _ := ⟨rfl, h.1⟩
  have hi := h.2
  obtain ⟨c0, c1, c2, c3, c4, d1, d2, d3, d4⟩ := fs.get
  obtain ⟨x0, x1, x2, x3, x4, y1, y2, y3, y4⟩ := ft.get
  obtain ⟨hk1, ha1⟩ := hI
  refine .seq (fun K5 hK5 => .seq (fun K6 hK6 => .region (.mv rfl (.mv rfl (.m rfl rfl rfl (.nilCheck rfl) (.m rfl rfl rfl (.fieldAddr fo_30_0_B rfl) ?_))))))
  refine .m rfl rfl rfl (.load on_2_A rfl (by assumption)) ?_
  refine .m rfl rfl rfl (.cmp rfl rfl rfl) (.nil (hK6 _ _ ?_))
  refine .cond rfl (fun h28 => ?_) (fun h28 => ?_)
  ·
   simp only [sps] at h28
   have b1 := hD.idn y (by omega)
   refine .skip ?_
   refine hK5 _ _ (.seq (fun K7 hK7 => ?_))
   refine .block ?_
   refine .seq (fun K8 hK8 => .seq (fun K9 hK9 => .region (.mv rfl (.m rfl rfl rfl (.nilCheck rfl) (.m rfl rfl rfl (.fieldAddr fo_30_3_B rfl) ?_)))))
   refine .m rfl rfl rfl (.load on_22_B rfl (by assumption)) ?_
   refine .m rfl rfl rfl (.len sl_22_A rfl) (.mv rfl (.nil (hK9 _ _ ?_)))
   refine .block ?_
   refine .loopR (σ := Nat) [(0, some _), (3, some _), (4, some _), (5, some _), (34, some _), (35, some _)] (fun x => [(36, some (.int .i64 (x : Int)))]) (fun x H' => St [] HL1 H' ∧ (x : Int) ≤ m.s.idn.length ∧ ∀ x', x' < x → NoMove ((m.be.getD (m.s.idn.getD x' 0).toNat []).getD y []) ∧ NoMove ((m.bh.getD (m.t.idn.getD y 0).toNat []).getD x' [])) (fun x => (m.s.idn.length - x : Int).toNat) (0) ⟨rfl, rfl, rfl, rfl, rfl, rfl, trivial⟩ ⟨rfl, trivial⟩ ?_ ?_
   ·
    refine ⟨.refl _ _, ?_⟩
    exact ⟨by omega, fun _ _ => by omega⟩
   rintro x HL2 ⟨lst2, hI⟩ KL2 hKL2
   refine .forget (fr' := [(36, some (.int .i64 (x : Int))), (0, some _), (3, some _), (4, some _), (5, some _), (34, some _), (35, some _)]) ⟨rfl, rfl, rfl, rfl, rfl, rfl, rfl, trivial⟩ ?_
   replace hle := hle.st lst2 (fun k hk => trivial)
   replace lst1 := lst1.st lst2 (fun k hk ho => by simp only [out, and_true] at ho ⊢ <;> first | exact ho | exact ho.1 | exact ho.2 | exact ho.2.1 | exact ho.2.2 | exact ho.2.2.1 | exact ho.2.2.2 | omega)
   replace h := base_h.mono hle
   clear fs ft c10 c11 c12 i2 i3 i4 hm hi c0 c1 c2 c3 c4 d1 d2 d3 d4 x0 x1 x2 x3 x4 y1 y2 y3 y4
   obtain ⟨fs, ft, c10, c11, c12, i2, i3, i4⟩ := h.get
   have hm : MemN _ _ _ _ _ := ⟨rfl, h.1⟩
   have hi := h.2
   obtain ⟨c0, c1, c2, c3, c4, d1, d2, d3, d4⟩ := fs.get
   obtain ⟨x0, x1, x2, x3, x4, y1, y2, y3, y4⟩ := ft.get
   obtain ⟨hk2, ha2⟩ := hI
   refine .seq (fun K10 hK10 => .region (.m rfl rfl rfl (.cmp rfl rfl rfl) (.nil (hK10 _ _ (.seq (fun K11 hK11 => ?_))))))
   refine .cond rfl (fun h37 => ?_) (fun h37 => ?_)
   ·
    simp only [sps] at h37
    have r1 := hC.idn x (by omega)
    have r3 := hS.by (a := (m.s.idn.getD x 0).toNat) (y := y) (by omega) (by omega)
    rw [(hC.ids x (by omega)).1, (hC.ids x (by omega)).2, Int.toNat_natCast] at r3
    have s3 := hS.hx (b := (m.t.idn.getD y 0).toNat) (x := x) (by omega) (by omega)
    rw [(hD.ids y (by omega)).1, (hD.ids y (by omega)).2, Int.toNat_natCast] at s3
    have e1 := calm_iff' r3.2.2.2.1
    have e2 := calm_iff' s3.2.2.2.2.1
    have r2 := i3.2 (m.s.idn.getD x 0).toNat (by omega)
    have r4 := r2.2 y (by omega)
    have r5 := i2.2 x (by omega)
    have s2 := i4.2 (m.t.idn.getD y 0).toNat (by omega)
    have s4 := s2.2 x (by omega)
    refine .skip ?_
    refine hK11 _ _ (.seq (fun K12 hK12 => ?_))
    refine .block ?_
    refine .seq (fun K13 hK13 => .region (.mv rfl ?_))
    refine .m rfl rfl rfl (.idxN sl_22_A (by assumption) rfl rfl (by omega)) ?_
    refine .m rfl rfl rfl (.loadI on_2_A (by assumption) rfl (by omega)) ?_
    refine .mv rfl (.mv rfl (.nil (hK13 _ _ (.seq (fun K14 hK14 => ?_)))))
    refine .regionD mo_B (.q 0 (.q 1 (.q 2 (.q 3 (.q 4 (.q 5 (.q 6 (.q 7 (.q 8 (.q 9 (.q 10 (.q 11 (.q 12 (.q 13 (.q 14 (.q 15 (.q 16 (.q 17 (.q 18 (.q 19 (.c 20 1 (.c 21 0 (.q 22 (.q 23 (.q 24 (.q 25 (.q 26 (.q 27 (.q 28 (.q 29 (.q 30 (.q 31 (.q 32 (.q 33 (.q 34 (.q 35 (.q 36 (.q 37 (.q 38 (.q 39 (.q 40 (.q 41 (.q 42 (.q 43 (.q 44 (.q 45 (.q 46 (.q 47 (.q 48 (.q 49 (.c 50 1 (.c 51 0 (.q 52 (.q 53 (.done))))))))))))))))))))))))))))))))))))))))))))))))))))))) (by kernel_rfl) ?_
    refine .mv rfl rfl (.m rfl rfl rfl rfl (.refl _) (.nilCheck rfl) (.m rfl rfl rfl rfl (.refl _) (.fieldAddr fo_34_3_VProf rfl) ?_))
    refine .m rfl rfl rfl rfl (.refl _) (.load on_26_VProf rfl (by assumption)) ?_
    refine .mv rfl rfl ?_
    refine .m rfl rfl rfl rfl (.refl _) (.idx1 sl_26_VZ (Intsss.sl (by assumption)) rfl rfl (by omega) (by omega)) ?_
    refine .m rfl rfl rfl rfl (.refl _) (.loadRR on_23_B (by assumption) rfl (by omega)) ?_
    refine .mv rfl rfl ?_
    refine .m rfl rfl rfl rfl (.refl _) (.idxN sl_23_B (Intss.sl (by assumption)) rfl rfl (by omega)) ?_
    refine .m rfl rfl rfl rfl (.refl _) (.loadR on_22_B (by assumption) rfl (by omega)) ?_
    refine .mv rfl rfl (.m rfl rfl rfl rfl (.refl _) (.nilCheck rfl) (.m rfl rfl rfl rfl (.refl _) (.fieldAddr fo_34_2_VProf rfl) ?_))
    refine .m rfl rfl rfl rfl (.refl _) (.load on_23_B rfl (by assumption)) ?_
    refine .mv rfl rfl ?_
    refine .m rfl rfl rfl rfl (.refl _) (.idxN sl_23_B (Intss.sl (by assumption)) rfl rfl (by omega)) ?_
    refine .m rfl rfl rfl rfl (.refl _) (.loadR on_22_B (by assumption) rfl (by omega)) ?_
    refine .mv rfl rfl ?_
    refine .m rfl rfl rfl rfl (.refl _) (.idxN sl_22_A (by assumption) rfl rfl (by omega)) ?_
    refine .m rfl rfl rfl rfl (.refl _) (.loadI on_2_A (by assumption) rfl (by omega)) ?_
    refine .call1 rfl rfl rfl rfl rfl @Try.call136 rfl (numbers_c) ?_
    rintro _ H61 ⟨le61, g61, rfl, at61, ge61⟩
    have hbl := le61
    refine ⟨hbl, ?_⟩
    replace hle := hle.trans le61
    replace lst1 := lst1.le le61
    replace lst2 := lst2.le le61
    have lt_at61 := GHeap.ltg at61
    replace h := base_h.mono hle
    clear fs ft c10 c11 c12 i2 i3 i4 hm hi c0 c1 c2 c3 c4 d1 d2 d3 d4 x0 x1 x2 x3 x4 y1 y2 y3 y4
    obtain ⟨fs, ft, c10, c11, c12, i2, i3, i4⟩ := h.get
    have hm : MemN _ _ _ _ _ := ⟨rfl, h.1⟩
    have hi := h.2
    obtain ⟨c0, c1, c2, c3, c4, d1, d2, d3, d4⟩ := fs.get
    obtain ⟨x0, x1, x2, x3, x4, y1, y2, y3, y4⟩ := ft.get
    clear r2 r4 r5 s2 s4
    have r2 := i3.2 (m.s.idn.getD x 0).toNat (by omega)
    have r4 := r2.2 y (by omega)
    have r5 := i2.2 x (by omega)
    have s2 := i4.2 (m.t.idn.getD y 0).toNat (by omega)
    have s4 := s2.2 x (by omega)
    have i61 := Ints.of_get at61
    refine .callQ0 rfl rfl rfl rfl rfl @Try.call97 rfl (same_c (hy := by rw [length_numsL]; omega)) ?_
    refine .m rfl rfl rfl rfl (.refl _) (.not rfl) (.mv rfl rfl ?_)
    refine .split (fun h64 => ?_) (fun h64 => ?_)
    ·
     simp only [sps, e1] at h64
     refine .sg rfl rfl rfl rfl rfl rfl (.sg rfl rfl rfl rfl rfl rfl (.sg rfl rfl rfl rfl rfl rfl (.sg rfl rfl rfl rfl rfl rfl (.sg rfl rfl rfl rfl rfl rfl (.sg rfl rfl rfl rfl rfl rfl (.sg rfl rfl rfl rfl rfl rfl (.sg rfl rfl rfl rfl rfl rfl (.sg rfl rfl rfl rfl rfl rfl (.sg rfl rfl rfl rfl rfl rfl (.sg rfl rfl rfl rfl rfl rfl (.sg rfl rfl rfl rfl rfl rfl (.sg rfl rfl rfl rfl rfl rfl (.sg rfl rfl rfl rfl rfl rfl (.sg rfl rfl rfl rfl rfl rfl (.sg rfl rfl rfl rfl rfl rfl ?_)))))))))))))))
     refine .sg rfl rfl rfl rfl rfl rfl (.sg rfl rfl rfl rfl rfl rfl (.sg rfl rfl rfl rfl rfl rfl (.sg rfl rfl rfl rfl rfl rfl (.sg rfl rfl rfl rfl rfl rfl (.sg rfl rfl rfl rfl rfl rfl (.sg rfl rfl rfl rfl rfl rfl (.sg rfl rfl rfl rfl rfl rfl (.sg rfl rfl rfl rfl rfl rfl (.sg rfl rfl rfl rfl rfl rfl (.sgc rfl rfl rfl rfl rfl rfl (.sgc rfl rfl rfl rfl rfl rfl (.sg rfl rfl rfl rfl rfl rfl (.m rfl rfl rfl rfl (.refl _) (.pickT rfl rfl) ?_)))))))))))))
     refine .done ?_
     refine hK14 _ _ ?_
     refine .condT rfl ?_
     refine .seq (fun K15 hK15 => .region (.mv rfl (.nil (hK15 _ _ ?_))))
     refine .ret ?_
     refine hret _ _ ?_
     refine ⟨_, rfl, ?_⟩
     exact ⟨congrArg _ (B_false fun hh => h64 (hh.idb y (by omega) x (by omega)).1), hle⟩
    simp only [sps, e1] at h64
    refine .mg rfl rfl rfl rfl rfl rfl (.refl _) (.move rfl) (.mg rfl rfl rfl rfl rfl rfl (.refl _) (.nilCheck rfl) (.mg rfl rfl rfl rfl rfl rfl (.refl _) (.fieldAddr fo_34_4_VProf rfl) ?_))
    refine .mg rfl rfl rfl rfl rfl rfl (.refl _) (.load on_26_VProf rfl (by assumption)) ?_
    refine .mg rfl rfl rfl rfl rfl rfl (.refl _) (.move rfl) (.mg rfl rfl rfl rfl rfl rfl (.refl _) (.nilCheck rfl) (.mg rfl rfl rfl rfl rfl rfl (.refl _) (.fieldAddr fo_30_3_B rfl) ?_))
    refine .mg rfl rfl rfl rfl rfl rfl (.refl _) (.load on_22_B rfl (by assumption)) ?_
    refine .mg rfl rfl rfl rfl rfl rfl (.refl _) (.move rfl) ?_
    refine .mg rfl rfl rfl rfl rfl rfl (.refl _) (.idxN sl_22_A (by assumption) rfl rfl (by omega)) ?_
    refine .mg rfl rfl rfl rfl rfl rfl (.refl _) (.loadI on_2_A (by assumption) rfl (by omega)) ?_
    refine .mg rfl rfl rfl rfl rfl rfl (.refl _) (.idx1 sl_26_VZ (Intsss.sl (by assumption)) rfl rfl (by omega) (by omega)) ?_
    refine .mg rfl rfl rfl rfl rfl rfl (.refl _) (.loadRR on_23_B (by assumption) rfl (by omega)) ?_
    refine .mg rfl rfl rfl rfl rfl rfl (.refl _) (.move rfl) ?_
    refine .mg rfl rfl rfl rfl rfl rfl (.refl _) (.idxN sl_23_B (Intss.sl (by assumption)) rfl rfl (by omega)) ?_
    refine .mg rfl rfl rfl rfl rfl rfl (.refl _) (.loadR on_22_B (by assumption) rfl (by omega)) ?_
    refine .mg rfl rfl rfl rfl rfl rfl (.refl _) (.move rfl) (.mg rfl rfl rfl rfl rfl rfl (.refl _) (.nilCheck rfl) (.mg rfl rfl rfl rfl rfl rfl (.refl _) (.fieldAddr fo_34_2_VProf rfl) ?_))
    refine .mg rfl rfl rfl rfl rfl rfl (.refl _) (.load on_23_B rfl (by assumption)) ?_
    refine .mg rfl rfl rfl rfl rfl rfl (.refl _) (.move rfl) ?_
    refine .mg rfl rfl rfl rfl rfl rfl (.refl _) (.idxN sl_23_B (Intss.sl (by assumption)) rfl rfl (by omega)) ?_
    refine .mg rfl rfl rfl rfl rfl rfl (.refl _) (.loadR on_22_B (by assumption) rfl (by omega)) ?_
    refine .mg rfl rfl rfl rfl rfl rfl (.refl _) (.move rfl) ?_
    refine .mg rfl rfl rfl rfl rfl rfl (.refl _) (.idxN sl_22_A (by assumption) rfl rfl (by omega)) ?_
    refine .mg rfl rfl rfl rfl rfl rfl (.refl _) (.loadI on_2_A (by assumption) rfl (by omega)) ?_
    refine .call1g rfl rfl rfl rfl rfl rfl rfl @Try.call136 rfl (numbers_c) ?_
    rintro _ H91 ⟨le91, g91, rfl, at91, ge91⟩
    have hbl := le91
    refine ⟨hbl, ?_⟩
    replace hle := hle.trans le91
    replace lst1 := lst1.le le91
    replace lst2 := lst2.le le91
    replace at61 := le91.2 _ _ at61
    have lt_at91 := GHeap.ltg at91
    replace h := base_h.mono hle
    clear fs ft c10 c11 c12 i2 i3 i4 hm hi c0 c1 c2 c3 c4 d1 d2 d3 d4 x0 x1 x2 x3 x4 y1 y2 y3 y4
    obtain ⟨fs, ft, c10, c11, c12, i2, i3, i4⟩ := h.get
    have hm : MemN _ _ _ _ _ := ⟨rfl, h.1⟩
    have hi := h.2
    obtain ⟨c0, c1, c2, c3, c4, d1, d2, d3, d4⟩ := fs.get
    obtain ⟨x0, x1, x2, x3, x4, y1, y2, y3, y4⟩ := ft.get
    clear r2 r4 r5 s2 s4
    have r2 := i3.2 (m.s.idn.getD x 0).toNat (by omega)
    have r4 := r2.2 y (by omega)
    have r5 := i2.2 x (by omega)
    have s2 := i4.2 (m.t.idn.getD y 0).toNat (by omega)
    have s4 := s2.2 x (by omega)
    clear i61
    have i61 := Ints.of_get at61
    have i91 := Ints.of_get at91
    refine .callQ0g rfl rfl rfl rfl rfl rfl rfl @Try.call97 rfl (same_c (hy := by rw [length_numsL]; omega)) ?_
    refine .mg rfl rfl rfl rfl rfl rfl (.refl _) (.not rfl) (.m rfl rfl rfl rfl (.refl _) (.pickF rfl rfl) ?_)
    refine .done ?_
    refine hK14 _ _ ?_
    refine .cond rfl (fun h94 => ?_) (fun h94 => ?_)
    ·
     simp only [sps, e2] at h94
     refine .seq (fun K16 hK16 => .region (.mv rfl (.nil (hK16 _ _ ?_))))
     refine .ret ?_
     refine hret _ _ ?_
     refine ⟨_, rfl, ?_⟩
     exact ⟨congrArg _ (B_false fun hh => h94 (hh.idb y (by omega) x (by omega)).2), hle⟩
    simp only [sps, e2] at h94
    refine .skip ?_
    refine hK12 _ _ (.region ?_)
    refine .m rfl rfl rfl (.add rfl rfl rfl (by omega) (by omega)) ?_
    refine .mv rfl (.nil ?_)
    refine hKL2 (x + 1) _ _ ?_ ?_ ⟨rfl, rfl, rfl, rfl, rfl, rfl, rfl, trivial⟩
    ·
     refine ⟨lst2, ?_⟩
     refine ⟨by omega, fun x' hx => ?_⟩
     by_cases hltq : x' < x
     · exact ha2 x' hltq
     · obtain rfl : x' = x := by omega
       exact ⟨h64, h94⟩
    omega
   try simp only [sps] at h37
   refine .exit ?_
   refine hK8 _ _ (.seq (fun K17 hK17 => .region (.mv rfl (.m rfl rfl rfl (.nilCheck rfl) (.m rfl rfl rfl (.fieldAddr fo_30_4_B rfl) ?_)))))
   refine .m rfl rfl rfl (.load on_23_B rfl (by assumption)) ?_
   refine .m rfl rfl rfl (.len sl_23_B rfl) (.mv rfl (.nil (hK17 _ _ ?_)))
   refine .block ?_
   refine .loopR (σ := Nat) [(0, some _), (3, some _), (4, some _), (5, some _), (99, some _), (100, some _)] (fun a => [(101, some (.int .i64 (a : Int)))]) (fun a H' => St [] HL2 H' ∧ (a : Int) ≤ m.s.comp.length ∧ ∀ a', a' < a → ∀ b : Nat, b < (m.s.comp.getD a' []).length → 0 ≤ (m.s.comp.getD a' []).getD b 0 → (m.be.getD ((m.s.comp.getD a' []).getD b 0).toNat []).getD y [] = thenL ((m.be.getD b []).getD y []) ((m.be.getD a' []).getD y [])) (fun a => (m.s.comp.length - a : Int).toNat) (0) ⟨rfl, rfl, rfl, rfl, rfl, rfl, trivial⟩ ⟨rfl, trivial⟩ ?_ ?_
   ·
    refine ⟨.refl _ _, ?_⟩
    exact ⟨by omega, fun _ _ => by omega⟩
   rintro a HL3 ⟨lst3, hI⟩ KL3 hKL3
   refine .forget (fr' := [(101, some (.int .i64 (a : Int))), (0, some _), (3, some _), (4, some _), (5, some _), (99, some _), (100, some _)]) ⟨rfl, rfl, rfl, rfl, rfl, rfl, rfl, trivial⟩ ?_
   replace hle := hle.st lst3 (fun k hk => trivial)
   replace lst1 := lst1.st lst3 (fun k hk ho => by simp only [out, and_true] at ho ⊢ <;> first | exact ho | exact ho.1 | exact ho.2 | exact ho.2.1 | exact ho.2.2 | exact ho.2.2.1 | exact ho.2.2.2 | omega)
   replace h := base_h.mono hle
   clear fs ft c10 c11 c12 i2 i3 i4 hm hi c0 c1 c2 c3 c4 d1 d2 d3 d4 x0 x1 x2 x3 x4 y1 y2 y3 y4
   obtain ⟨fs, ft, c10, c11, c12, i2, i3, i4⟩ := h.get
   have hm : MemN _ _ _ _ _ := ⟨rfl, h.1⟩
   have hi := h.2
   obtain ⟨c0, c1, c2, c3, c4, d1, d2, d3, d4⟩ := fs.get
   obtain ⟨x0, x1, x2, x3, x4, y1, y2, y3, y4⟩ := ft.get
   obtain ⟨hk3, ha3⟩ := hI
   refine .seq (fun K18 hK18 => .region (.m rfl rfl rfl (.cmp rfl rfl rfl) (.nil (hK18 _ _ (.seq (fun K19 hK19 => ?_))))))
   refine .cond rfl (fun h102 => ?_) (fun h102 => ?_)
   ·
    simp only [sps] at h102
    have r1 := hC.row a (by omega)
    have r4 := hS.by (a := a) (y := y) (by omega) (by omega)
    have r2 := d4.2 a (by omega)
    have r3 := i3.2 a (by omega)
    have r5 := r3.2 y (by omega)
    refine .skip ?_
    refine hK19 _ _ (.seq (fun K20 hK20 => ?_))
    refine .block ?_
    refine .seq (fun K21 hK21 => .region (.mv rfl ?_))
    refine .m rfl rfl rfl (.idxN sl_23_B (Intss.sl (by assumption)) rfl rfl (by omega)) ?_
    refine .m rfl rfl rfl (.loadR on_22_B (by assumption) rfl (by omega)) ?_
    refine .mv rfl (.mv rfl (.nil (hK21 _ _ (.seq (fun K22 hK22 => .region (.mv rfl (.m rfl rfl rfl (.len sl_22_A rfl) (.mv rfl (.nil (hK22 _ _ ?_))))))))))
    refine .block ?_
    refine .loopR (σ := Nat) [(0, some _), (3, some _), (4, some _), (5, some _), (8, some _), (99, some _), (100, some _), (101, some _), (106, some _), (107, some _)] (fun b => [(108, some (.int .i64 (b : Int)))]) (fun b H' => St [] HL3 H' ∧ (b : Int) ≤ (m.s.comp.getD a []).length ∧ ∀ b', b' < b → 0 ≤ (m.s.comp.getD a []).getD b' 0 → (m.be.getD ((m.s.comp.getD a []).getD b' 0).toNat []).getD y [] = thenL ((m.be.getD b' []).getD y []) ((m.be.getD a []).getD y [])) (fun b => ((m.s.comp.getD a []).length - b : Int).toNat) (0) ⟨rfl, rfl, rfl, rfl, rfl, rfl, rfl, rfl, rfl, rfl, trivial⟩ ⟨rfl, trivial⟩ ?_ ?_
    ·
     refine ⟨.refl _ _, ?_⟩
     exact ⟨by omega, fun _ _ => by omega⟩
    rintro b HL4 ⟨lst4, hI⟩ KL4 hKL4
    refine .forget (fr' := [(108, some (.int .i64 (b : Int))), (0, some _), (3, some _), (4, some _), (5, some _), (8, some _), (99, some _), (100, some _), (101, some _), (106, some _), (107, some _)]) ⟨rfl, rfl, rfl, rfl, rfl, rfl, rfl, rfl, rfl, rfl, rfl, trivial⟩ ?_
    replace hle := hle.st lst4 (fun k hk => trivial)
    replace lst1 := lst1.st lst4 (fun k hk ho => by simp only [out, and_true] at ho ⊢ <;> first | exact ho | exact ho.1 | exact ho.2 | exact ho.2.1 | exact ho.2.2 | exact ho.2.2.1 | exact ho.2.2.2 | omega)
    replace lst3 := lst3.st lst4 (fun k hk ho => by simp only [out, and_true] at ho ⊢ <;> first | exact ho | exact ho.1 | exact ho.2 | exact ho.2.1 | exact ho.2.2 | exact ho.2.2.1 | exact ho.2.2.2 | omega)
    replace h := base_h.mono hle
    clear fs ft c10 c11 c12 i2 i3 i4 hm hi c0 c1 c2 c3 c4 d1 d2 d3 d4 x0 x1 x2 x3 x4 y1 y2 y3 y4
    obtain ⟨fs, ft, c10, c11, c12, i2, i3, i4⟩ := h.get
    have hm : MemN _ _ _ _ _ := ⟨rfl, h.1⟩
    have hi := h.2
    obtain ⟨c0, c1, c2, c3, c4, d1, d2, d3, d4⟩ := fs.get
    obtain ⟨x0, x1, x2, x3, x4, y1, y2, y3, y4⟩ := ft.get
    clear r2 r3 r5
    have r2 := d4.2 a (by omega)
    have r3 := i3.2 a (by omega)
    have r5 := r3.2 y (by omega)
    obtain ⟨hk4, ha4⟩ := hI
    refine .seq (fun K23 hK23 => .region (.m rfl rfl rfl (.cmp rfl rfl rfl) (.nil (hK23 _ _ (.seq (fun K24 hK24 => ?_))))))
    refine .cond rfl (fun h109 => ?_) (fun h109 => ?_)
    ·
     simp only [sps] at h109
     have t4 := hS.by (a := b) (y := y) (by omega) (by omega)
     have t3 := i3.2 b (by omega)
     have t5 := t3.2 y (by omega)
     refine .skip ?_
     refine hK24 _ _ (.seq (fun K25 hK25 => ?_))
     refine .block ?_
     refine .seq (fun K26 hK26 => .region (.mv rfl ?_))
     refine .m rfl rfl rfl (.idxN sl_22_A (by assumption) rfl rfl (by omega)) ?_
     refine .m rfl rfl rfl (.loadI on_2_A (by assumption) rfl (by omega)) ?_
     refine .mv rfl (.mv rfl (.nil (hK26 _ _ (.seq (fun K27 hK27 => ?_)))))
     refine .regionD mo_B (.q 0 (.q 1 (.q 2 (.q 3 (.q 4 (.q 5 (.q 6 (.q 7 (.q 8 (.q 9 (.q 10 (.q 11 (.q 12 (.q 13 (.q 14 (.q 15 (.q 16 (.q 17 (.q 18 (.q 19 (.q 20 (.q 21 (.q 22 (.q 23 (.q 24 (.q 25 (.q 26 (.q 27 (.q 28 (.q 29 (.q 30 (.q 31 (.q 32 (.c 33 1 (.c 34 0 (.q 35 (.q 36 (.done)))))))))))))))))))))))))))))))))))))) (by kernel_rfl) ?_
     refine .mv rfl rfl (.m rfl rfl rfl rfl (.refl _) (.cmp rfl rfl rfl) (.mv rfl rfl ?_))
     refine .split (fun h115 => ?_) (fun h115 => ?_)
     ·
      simp only [sps] at h115
      have u1 := hC.comp (a := a) (b := b) (by omega) (by omega) h115
      have u4 := hS.by (a := ((m.s.comp.getD a []).getD b 0).toNat) (y := y) (by omega) (by omega)
      have u6 : ∀ i, i < ((m.be.getD b []).getD y []).length → 0 ≤ ((m.be.getD b []).getD y []).getD i 0 ∧ ((m.be.getD b []).getD y []).getD i 0 < ((m.be.getD a []).getD y []).length := fun i hi => by
        have := t4.2.2.2.2.1 i hi
        rw [← u1.1, ← r4.2.2.2.1] at this
        exact this
      have u3 := i3.2 ((m.s.comp.getD a []).getD b 0).toNat (by omega)
      have u5 := u3.2 y (by omega)
      refine .mg rfl rfl rfl rfl rfl rfl (.refl _) (.move rfl) (.mg rfl rfl rfl rfl rfl rfl (.refl _) (.nilCheck rfl) (.mg rfl rfl rfl rfl rfl rfl (.refl _) (.fieldAddr fo_34_3_VProf rfl) ?_))
      refine .mg rfl rfl rfl rfl rfl rfl (.refl _) (.load on_26_VProf rfl (by assumption)) ?_
      refine .mg rfl rfl rfl rfl rfl rfl (.refl _) (.move rfl) ?_
      refine .mg rfl rfl rfl rfl rfl rfl (.refl _) (.idx1 sl_26_VZ (Intsss.sl (by assumption)) rfl rfl (by omega) (by omega)) ?_
      refine .mg rfl rfl rfl rfl rfl rfl (.refl _) (.loadRR on_23_B (by assumption) rfl (by omega)) ?_
      refine .mg rfl rfl rfl rfl rfl rfl (.refl _) (.move rfl) ?_
      refine .mg rfl rfl rfl rfl rfl rfl (.refl _) (.idxN sl_23_B (Intss.sl (by assumption)) rfl rfl (by omega)) ?_
      refine .mg rfl rfl rfl rfl rfl rfl (.refl _) (.loadR on_22_B (by assumption) rfl (by omega)) ?_
      refine .mg rfl rfl rfl rfl rfl rfl (.refl _) (.move rfl) (.mg rfl rfl rfl rfl rfl rfl (.refl _) (.nilCheck rfl) (.mg rfl rfl rfl rfl rfl rfl (.refl _) (.fieldAddr fo_34_3_VProf rfl) ?_))
      refine .mg rfl rfl rfl rfl rfl rfl (.refl _) (.load on_26_VProf rfl (by assumption)) ?_
      refine .mg rfl rfl rfl rfl rfl rfl (.refl _) (.move rfl) ?_
      refine .mg rfl rfl rfl rfl rfl rfl (.refl _) (.idxN sl_26_VZ (Intsss.sl (by assumption)) rfl rfl (by omega)) ?_
      refine .mg rfl rfl rfl rfl rfl rfl (.refl _) (.loadRR on_23_B (by assumption) rfl (by omega)) ?_
      refine .mg rfl rfl rfl rfl rfl rfl (.refl _) (.move rfl) ?_
      refine .mg rfl rfl rfl rfl rfl rfl (.refl _) (.idxN sl_23_B (Intss.sl (by assumption)) rfl rfl (by omega)) ?_
      refine .mg rfl rfl rfl rfl rfl rfl (.refl _) (.loadR on_22_B (by assumption) rfl (by omega)) ?_
      refine .mg rfl rfl rfl rfl rfl rfl (.refl _) (.move rfl) (.mg rfl rfl rfl rfl rfl rfl (.refl _) (.nilCheck rfl) (.mg rfl rfl rfl rfl rfl rfl (.refl _) (.fieldAddr fo_34_3_VProf rfl) ?_))
      refine .mg rfl rfl rfl rfl rfl rfl (.refl _) (.load on_26_VProf rfl (by assumption)) ?_
      refine .mg rfl rfl rfl rfl rfl rfl (.refl _) (.move rfl) ?_
      refine .mg rfl rfl rfl rfl rfl rfl (.refl _) (.idxN sl_26_VZ (Intsss.sl (by assumption)) rfl rfl (by omega)) ?_
      refine .mg rfl rfl rfl rfl rfl rfl (.refl _) (.loadRR on_23_B (by assumption) rfl (by omega)) ?_
      refine .mg rfl rfl rfl rfl rfl rfl (.refl _) (.move rfl) ?_
      refine .mg rfl rfl rfl rfl rfl rfl (.refl _) (.idxN sl_23_B (Intss.sl (by assumption)) rfl rfl (by omega)) ?_
      refine .mg rfl rfl rfl rfl rfl rfl (.refl _) (.loadR on_22_B (by assumption) rfl (by omega)) ?_
      refine .call1g rfl rfl rfl rfl rfl rfl rfl @Try.call96 rfl (implThen_c) ?_
      rintro _ H146 ⟨le146, g146, rfl, at146, ge146⟩
      have hbl := le146
      refine ⟨hbl, ?_⟩
      replace hle := hle.trans le146
      replace lst1 := lst1.le le146
      replace lst3 := lst3.le le146
      replace lst4 := lst4.le le146
      have lt_at146 := GHeap.ltg at146
      replace h := base_h.mono hle
      clear fs ft c10 c11 c12 i2 i3 i4 hm hi c0 c1 c2 c3 c4 d1 d2 d3 d4 x0 x1 x2 x3 x4 y1 y2 y3 y4
      obtain ⟨fs, ft, c10, c11, c12, i2, i3, i4⟩ := h.get
      have hm : MemN _ _ _ _ _ := ⟨rfl, h.1⟩
      have hi := h.2
      obtain ⟨c0, c1, c2, c3, c4, d1, d2, d3, d4⟩ := fs.get
      obtain ⟨x0, x1, x2, x3, x4, y1, y2, y3, y4⟩ := ft.get
      clear r2 r3 r5
      have r2 := d4.2 a (by omega)
      have r3 := i3.2 a (by omega)
      have r5 := r3.2 y (by omega)
      clear t3 t5
      have t3 := i3.2 b (by omega)
      have t5 := t3.2 y (by omega)
      clear u3 u5
      have u3 := i3.2 ((m.s.comp.getD a []).getD b 0).toNat (by omega)
      have u5 := u3.2 y (by omega)
      have i146 := Ints.of_get at146
      refine .callQ0g rfl rfl rfl rfl rfl rfl rfl @Try.call97 rfl (same_c (hy := by rw [length_thenL]; omega)) ?_
      refine .mg rfl rfl rfl rfl rfl rfl (.refl _) (.not rfl) (.m rfl rfl rfl rfl (.refl _) (.pickT rfl rfl) ?_)
      refine .done ?_
      refine hK27 _ _ ?_
      refine .cond rfl (fun h149 => ?_) (fun h149 => ?_)
      ·
       try simp only [sps] at h149
       refine .seq (fun K28 hK28 => .region (.mv rfl (.nil (hK28 _ _ ?_))))
       refine .ret ?_
       refine hret _ _ ?_
       refine ⟨_, rfl, ?_⟩
       exact ⟨congrArg _ (B_false fun hh => h149 (hh.thb y (by omega) a (by omega) b (by omega) h115)), hle⟩
      try simp only [sps] at h149
      refine .skip ?_
      refine hK25 _ _ (.region ?_)
      refine .m rfl rfl rfl (.add rfl rfl rfl (by omega) (by omega)) ?_
      refine .mv rfl (.nil ?_)
      refine hKL4 (b + 1) _ _ ?_ ?_ ⟨rfl, rfl, rfl, rfl, rfl, rfl, rfl, rfl, rfl, rfl, rfl, trivial⟩
      ·
       refine ⟨lst4, ?_⟩
       refine ⟨by omega, fun b' hx => ?_⟩
       by_cases hltq : b' < b
       · exact ha4 b' hltq
       · obtain rfl : b' = b := by omega
         first | exact fun _ => h149 | exact fun hp => absurd hp (by omega)
      omega
     try simp only [sps] at h115
     refine .sg rfl rfl rfl rfl rfl rfl (.sg rfl rfl rfl rfl rfl rfl (.sg rfl rfl rfl rfl rfl rfl (.sg rfl rfl rfl rfl rfl rfl (.sg rfl rfl rfl rfl rfl rfl (.sg rfl rfl rfl rfl rfl rfl (.sg rfl rfl rfl rfl rfl rfl (.sg rfl rfl rfl rfl rfl rfl (.sg rfl rfl rfl rfl rfl rfl (.sg rfl rfl rfl rfl rfl rfl (.sg rfl rfl rfl rfl rfl rfl (.sg rfl rfl rfl rfl rfl rfl (.sg rfl rfl rfl rfl rfl rfl (.sg rfl rfl rfl rfl rfl rfl (.sg rfl rfl rfl rfl rfl rfl (.sg rfl rfl rfl rfl rfl rfl ?_)))))))))))))))
     refine .sg rfl rfl rfl rfl rfl rfl (.sg rfl rfl rfl rfl rfl rfl (.sg rfl rfl rfl rfl rfl rfl (.sg rfl rfl rfl rfl rfl rfl (.sg rfl rfl rfl rfl rfl rfl (.sg rfl rfl rfl rfl rfl rfl (.sg rfl rfl rfl rfl rfl rfl (.sg rfl rfl rfl rfl rfl rfl (.sg rfl rfl rfl rfl rfl rfl (.sg rfl rfl rfl rfl rfl rfl (.sg rfl rfl rfl rfl rfl rfl (.sg rfl rfl rfl rfl rfl rfl (.sg rfl rfl rfl rfl rfl rfl (.sg rfl rfl rfl rfl rfl rfl (.sgc rfl rfl rfl rfl rfl rfl (.sgc rfl rfl rfl rfl rfl rfl ?_)))))))))))))))
     refine .sg rfl rfl rfl rfl rfl rfl (.m rfl rfl rfl rfl (.refl _) (.pickF rfl rfl) ?_)
     refine .done ?_
     refine hK27 _ _ ?_
     refine .condF rfl ?_
     refine .skip ?_
     refine hK25 _ _ (.region ?_)
     refine .m rfl rfl rfl (.add rfl rfl rfl (by omega) (by omega)) ?_
     refine .mv rfl (.nil ?_)
     refine hKL4 (b + 1) _ _ ?_ ?_ ⟨rfl, rfl, rfl, rfl, rfl, rfl, rfl, rfl, rfl, rfl, rfl, trivial⟩
     ·
      refine ⟨lst4, ?_⟩
      refine ⟨by omega, fun b' hx => ?_⟩
      by_cases hltq : b' < b
      · exact ha4 b' hltq
      · obtain rfl : b' = b := by omega
        first | exact fun _ => h149 | exact fun hp => absurd hp (by omega)
     omega
    try simp only [sps] at h109
    refine .exit ?_
    refine hK20 _ _ (.region ?_)
    refine .m rfl rfl rfl (.add rfl rfl rfl (by omega) (by omega)) ?_
    refine .mv rfl (.nil ?_)
    refine hKL3 (a + 1) _ _ ?_ ?_ ⟨rfl, rfl, rfl, rfl, rfl, rfl, rfl, trivial⟩
    ·
     refine ⟨lst3, ?_⟩
     refine ⟨by omega, fun a' hx => ?_⟩
     by_cases hltq : a' < a
     · exact ha3 a' hltq
     · obtain rfl : a' = a := by omega
       exact fun b hb => ha4 b (by omega)
    omega
   try simp only [sps] at h102
   refine .exit ?_
   refine hK7 _ _ (.region (.mv rfl ?_))
   refine .m rfl rfl rfl (.add rfl rfl rfl (by omega) (by omega)) ?_
   refine .mv rfl (.nil ?_)
   refine hKL1 (y + 1) _ _ ?_ ?_ ⟨rfl, rfl, rfl, rfl, trivial⟩
   ·
    refine ⟨lst1, ?_⟩
    refine ⟨by omega, fun y' hx => ?_⟩
    by_cases hltq : y' < y
    · exact ha1 y' hltq
    · obtain rfl : y' = y := by omega
      exact ⟨fun x hx => ha2 x (by omega), fun a ha => ha3 a (by omega)⟩
   omega
  try simp only [sps] at h28
  refine .exit ?_
  refine hK3 _ _ (.seq (fun K29 hK29 => .seq (fun K30 hK30 => .region (.mv rfl (.nil (hK30 _ _ ?_))))))
  refine .block ?_
  refine .loopR (σ := Nat) [(0, some _), (3, some _), (4, some _)] (fun x => [(12, some (.int .i64 (x : Int)))]) (fun x H' => St [] HL1 H' ∧ (x : Int) ≤ m.s.obj ∧ ∀ x', x' < x → ∀ a : Nat, a < m.t.comp.length → ∀ b : Nat, b < (m.t.comp.getD a []).length → 0 ≤ (m.t.comp.getD a []).getD b 0 → (m.bh.getD ((m.t.comp.getD a []).getD b 0).toNat []).getD x' [] = thenL ((m.bh.getD a []).getD x' []) ((m.bh.getD b []).getD x' [])) (fun x => (m.s.obj - x : Int).toNat) (0) ⟨rfl, rfl, rfl, trivial⟩ ⟨rfl, trivial⟩ ?_ ?_
  ·
   refine ⟨.refl _ _, ?_⟩
   exact ⟨by omega, fun _ _ => by omega⟩
  rintro x HL5 ⟨lst5, hI⟩ KL5 hKL5
  refine .forget (fr' := [(12, some (.int .i64 (x : Int))), (0, some _), (3, some _), (4, some _)]) ⟨rfl, rfl, rfl, rfl, trivial⟩ ?_
  replace hle := hle.st lst5 (fun k hk => trivial)
  replace lst1 := lst1.st lst5 (fun k hk ho => by simp only [out, and_true] at ho ⊢ <;> first | exact ho | exact ho.1 | exact ho.2 | exact ho.2.1 | exact ho.2.2 | exact ho.2.2.1 | exact ho.2.2.2 | omega)
  replace h := base_h.mono hle
  clear fs ft c10 c11 c12 i2 i3 i4 hm hi c0 c1 c2 c3 c4 d1 d2 d3 d4 x0 x1 x2 x3 x4 y1 y2 y3 y4
  obtain ⟨fs, ft, c10, c11, c12, i2, i3, i4⟩ := h.get
  have hm : MemN _ _ _ _ _ := ⟨rfl, h.1⟩
  have hi := h.2
  obtain ⟨c0, c1, c2, c3, c4, d1, d2, d3, d4⟩ := fs.get
  obtain ⟨x0, x1, x2, x3, x4, y1, y2, y3, y4⟩ := ft.get
  obtain ⟨hk5, ha5⟩ := hI
  refine .seq (fun K31 hK31 => .seq (fun K32 hK32 => .region (.mv rfl (.mv rfl (.m rfl rfl rfl (.nilCheck rfl) (.m rfl rfl rfl (.fieldAddr fo_30_0_B rfl) ?_))))))
  refine .m rfl rfl rfl (.load on_2_A rfl (by assumption)) ?_
  refine .m rfl rfl rfl (.cmp rfl rfl rfl) (.nil (hK32 _ _ ?_))
  refine .cond rfl (fun h157 => ?_) (fun h157 => ?_)
  ·
   simp only [sps] at h157
   refine .skip ?_
   refine hK31 _ _ (.seq (fun K33 hK33 => ?_))
   refine .block ?_
   refine .seq (fun K34 hK34 => .region (.mv rfl (.m rfl rfl rfl (.nilCheck rfl) (.m rfl rfl rfl (.fieldAddr fo_30_4_B rfl) ?_))))
   refine .m rfl rfl rfl (.load on_23_B rfl (by assumption)) ?_
   refine .m rfl rfl rfl (.len sl_23_B rfl) (.mv rfl (.nil (hK34 _ _ ?_)))
   refine .block ?_
   refine .loopR (σ := Nat) [(0, some _), (3, some _), (4, some _), (12, some _), (163, some _), (164, some _)] (fun a => [(165, some (.int .i64 (a : Int)))]) (fun a H' => St [] HL5 H' ∧ (a : Int) ≤ m.t.comp.length ∧ ∀ a', a' < a → ∀ b : Nat, b < (m.t.comp.getD a' []).length → 0 ≤ (m.t.comp.getD a' []).getD b 0 → (m.bh.getD ((m.t.comp.getD a' []).getD b 0).toNat []).getD x [] = thenL ((m.bh.getD a' []).getD x []) ((m.bh.getD b []).getD x [])) (fun a => (m.t.comp.length - a : Int).toNat) (0) ⟨rfl, rfl, rfl, rfl, rfl, rfl, trivial⟩ ⟨rfl, trivial⟩ ?_ ?_
   ·
    refine ⟨.refl _ _, ?_⟩
    exact ⟨by omega, fun _ _ => by omega⟩
   rintro a HL6 ⟨lst6, hI⟩ KL6 hKL6
   refine .forget (fr' := [(165, some (.int .i64 (a : Int))), (0, some _), (3, some _), (4, some _), (12, some _), (163, some _), (164, some _)]) ⟨rfl, rfl, rfl, rfl, rfl, rfl, rfl, trivial⟩ ?_
   replace hle := hle.st lst6 (fun k hk => trivial)
   replace lst1 := lst1.st lst6 (fun k hk ho => by simp only [out, and_true] at ho ⊢ <;> first | exact ho | exact ho.1 | exact ho.2 | exact ho.2.1 | exact ho.2.2 | exact ho.2.2.1 | exact ho.2.2.2 | omega)
   replace lst5 := lst5.st lst6 (fun k hk ho => by simp only [out, and_true] at ho ⊢ <;> first | exact ho | exact ho.1 | exact ho.2 | exact ho.2.1 | exact ho.2.2 | exact ho.2.2.1 | exact ho.2.2.2 | omega)
   replace h := base_h.mono hle
   clear fs ft c10 c11 c12 i2 i3 i4 hm hi c0 c1 c2 c3 c4 d1 d2 d3 d4 x0 x1 x2 x3 x4 y1 y2 y3 y4
   obtain ⟨fs, ft, c10, c11, c12, i2, i3, i4⟩ := h.get
   have hm : MemN _ _ _ _ _ := ⟨rfl, h.1⟩
   have hi := h.2
   obtain ⟨c0, c1, c2, c3, c4, d1, d2, d3, d4⟩ := fs.get
   obtain ⟨x0, x1, x2, x3, x4, y1, y2, y3, y4⟩ := ft.get
   obtain ⟨hk6, ha6⟩ := hI
   refine .seq (fun K35 hK35 => .region (.m rfl rfl rfl (.cmp rfl rfl rfl) (.nil (hK35 _ _ (.seq (fun K36 hK36 => ?_))))))
   refine .cond rfl (fun h166 => ?_) (fun h166 => ?_)
   ·
    simp only [sps] at h166
    have r1 := hD.row a (by omega)
    have r4 := hS.hx (b := a) (x := x) (by omega) (by omega)
    have r2 := y4.2 a (by omega)
    have r3 := i4.2 a (by omega)
    have r5 := r3.2 x (by omega)
    refine .skip ?_
    refine hK36 _ _ (.seq (fun K37 hK37 => ?_))
    refine .block ?_
    refine .seq (fun K38 hK38 => .region (.mv rfl ?_))
    refine .m rfl rfl rfl (.idxN sl_23_B (Intss.sl (by assumption)) rfl rfl (by omega)) ?_
    refine .m rfl rfl rfl (.loadR on_22_B (by assumption) rfl (by omega)) ?_
    refine .mv rfl (.mv rfl (.nil (hK38 _ _ (.seq (fun K39 hK39 => .region (.mv rfl (.m rfl rfl rfl (.len sl_22_A rfl) (.mv rfl (.nil (hK39 _ _ ?_))))))))))
    refine .block ?_
    refine .loopR (σ := Nat) [(0, some _), (3, some _), (4, some _), (12, some _), (13, some _), (163, some _), (164, some _), (165, some _), (170, some _), (171, some _)] (fun b => [(172, some (.int .i64 (b : Int)))]) (fun b H' => St [] HL6 H' ∧ (b : Int) ≤ (m.t.comp.getD a []).length ∧ ∀ b', b' < b → 0 ≤ (m.t.comp.getD a []).getD b' 0 → (m.bh.getD ((m.t.comp.getD a []).getD b' 0).toNat []).getD x [] = thenL ((m.bh.getD a []).getD x []) ((m.bh.getD b' []).getD x [])) (fun b => ((m.t.comp.getD a []).length - b : Int).toNat) (0) ⟨rfl, rfl, rfl, rfl, rfl, rfl, rfl, rfl, rfl, rfl, trivial⟩ ⟨rfl, trivial⟩ ?_ ?_
    ·
     refine ⟨.refl _ _, ?_⟩
     exact ⟨by omega, fun _ _ => by omega⟩
    rintro b HL7 ⟨lst7, hI⟩ KL7 hKL7
    refine .forget (fr' := [(172, some (.int .i64 (b : Int))), (0, some _), (3, some _), (4, some _), (12, some _), (13, some _), (163, some _), (164, some _), (165, some _), (170, some _), (171, some _)]) ⟨rfl, rfl, rfl, rfl, rfl, rfl, rfl, rfl, rfl, rfl, rfl, trivial⟩ ?_
    replace hle := hle.st lst7 (fun k hk => trivial)
    replace lst1 := lst1.st lst7 (fun k hk ho => by simp only [out, and_true] at ho ⊢ <;> first | exact ho | exact ho.1 | exact ho.2 | exact ho.2.1 | exact ho.2.2 | exact ho.2.2.1 | exact ho.2.2.2 | omega)
    replace lst5 := lst5.st lst7 (fun k hk ho => by simp only [out, and_true] at ho ⊢ <;> first | exact ho | exact ho.1 | exact ho.2 | exact ho.2.1 | exact ho.2.2 | exact ho.2.2.1 | exact ho.2.2.2 | omega)
    replace lst6 := lst6.st lst7 (fun k hk ho => by simp only [out, and_true] at ho ⊢ <;> first | exact ho | exact ho.1 | exact ho.2 | exact ho.2.1 | exact ho.2.2 | exact ho.2.2.1 | exact ho.2.2.2 | omega)
    replace h := base_h.mono hle
    clear fs ft c10 c11 c12 i2 i3 i4 hm hi c0 c1 c2 c3 c4 d1 d2 d3 d4 x0 x1 x2 x3 x4 y1 y2 y3 y4
    obtain ⟨fs, ft, c10, c11, c12, i2, i3, i4⟩ := h.get
    have hm : MemN _ _ _ _ _ := ⟨rfl, h.1⟩
    have hi := h.2
    obtain ⟨c0, c1, c2, c3, c4, d1, d2, d3, d4⟩ := fs.get
    obtain ⟨x0, x1, x2, x3, x4, y1, y2, y3, y4⟩ := ft.get
    clear r2 r3 r5
    have r2 := y4.2 a (by omega)
    have r3 := i4.2 a (by omega)
    have r5 := r3.2 x (by omega)
    obtain ⟨hk7, ha7⟩ := hI
    refine .seq (fun K40 hK40 => .region (.m rfl rfl rfl (.cmp rfl rfl rfl) (.nil (hK40 _ _ (.seq (fun K41 hK41 => ?_))))))
    refine .cond rfl (fun h173 => ?_) (fun h173 => ?_)
    ·
     simp only [sps] at h173
     have t4 := hS.hx (b := b) (x := x) (by omega) (by omega)
     have t3 := i4.2 b (by omega)
     have t5 := t3.2 x (by omega)
     refine .skip ?_
     refine hK41 _ _ (.seq (fun K42 hK42 => ?_))
     refine .block ?_
     refine .seq (fun K43 hK43 => .region (.mv rfl ?_))
     refine .m rfl rfl rfl (.idxN sl_22_A (by assumption) rfl rfl (by omega)) ?_
     refine .m rfl rfl rfl (.loadI on_2_A (by assumption) rfl (by omega)) ?_
     refine .mv rfl (.mv rfl (.nil (hK43 _ _ (.seq (fun K44 hK44 => ?_)))))
     refine .regionD mo_B (.q 0 (.q 1 (.q 2 (.q 3 (.q 4 (.q 5 (.q 6 (.q 7 (.q 8 (.q 9 (.q 10 (.q 11 (.q 12 (.q 13 (.q 14 (.q 15 (.q 16 (.q 17 (.q 18 (.q 19 (.q 20 (.q 21 (.q 22 (.q 23 (.q 24 (.q 25 (.q 26 (.q 27 (.q 28 (.q 29 (.q 30 (.q 31 (.q 32 (.c 33 1 (.c 34 0 (.q 35 (.q 36 (.done)))))))))))))))))))))))))))))))))))))) (by kernel_rfl) ?_
     refine .mv rfl rfl (.m rfl rfl rfl rfl (.refl _) (.cmp rfl rfl rfl) (.mv rfl rfl ?_))
     refine .split (fun h179 => ?_) (fun h179 => ?_)
     ·
      simp only [sps] at h179
      have u1 := hD.comp (a := a) (b := b) (by omega) (by omega) h179
      have u4 := hS.hx (b := ((m.t.comp.getD a []).getD b 0).toNat) (x := x) (by omega) (by omega)
      have u6 : ∀ i, i < ((m.bh.getD a []).getD x []).length → 0 ≤ ((m.bh.getD a []).getD x []).getD i 0 ∧ ((m.bh.getD a []).getD x []).getD i 0 < ((m.bh.getD b []).getD x []).length := fun i hi => by
        have := r4.2.2.2.2.2.1 i hi
        rw [u1.1, ← t4.2.2.2.2.1] at this
        exact this
      have u3 := i4.2 ((m.t.comp.getD a []).getD b 0).toNat (by omega)
      have u5 := u3.2 x (by omega)
      refine .mg rfl rfl rfl rfl rfl rfl (.refl _) (.move rfl) (.mg rfl rfl rfl rfl rfl rfl (.refl _) (.nilCheck rfl) (.mg rfl rfl rfl rfl rfl rfl (.refl _) (.fieldAddr fo_34_4_VProf rfl) ?_))
      refine .mg rfl rfl rfl rfl rfl rfl (.refl _) (.load on_26_VProf rfl (by assumption)) ?_
      refine .mg rfl rfl rfl rfl rfl rfl (.refl _) (.move rfl) ?_
      refine .mg rfl rfl rfl rfl rfl rfl (.refl _) (.idx1 sl_26_VZ (Intsss.sl (by assumption)) rfl rfl (by omega) (by omega)) ?_
      refine .mg rfl rfl rfl rfl rfl rfl (.refl _) (.loadRR on_23_B (by assumption) rfl (by omega)) ?_
      refine .mg rfl rfl rfl rfl rfl rfl (.refl _) (.move rfl) ?_
      refine .mg rfl rfl rfl rfl rfl rfl (.refl _) (.idxN sl_23_B (Intss.sl (by assumption)) rfl rfl (by omega)) ?_
      refine .mg rfl rfl rfl rfl rfl rfl (.refl _) (.loadR on_22_B (by assumption) rfl (by omega)) ?_
      refine .mg rfl rfl rfl rfl rfl rfl (.refl _) (.move rfl) (.mg rfl rfl rfl rfl rfl rfl (.refl _) (.nilCheck rfl) (.mg rfl rfl rfl rfl rfl rfl (.refl _) (.fieldAddr fo_34_4_VProf rfl) ?_))
      refine .mg rfl rfl rfl rfl rfl rfl (.refl _) (.load on_26_VProf rfl (by assumption)) ?_
      refine .mg rfl rfl rfl rfl rfl rfl (.refl _) (.move rfl) ?_
      refine .mg rfl rfl rfl rfl rfl rfl (.refl _) (.idxN sl_26_VZ (Intsss.sl (by assumption)) rfl rfl (by omega)) ?_
      refine .mg rfl rfl rfl rfl rfl rfl (.refl _) (.loadRR on_23_B (by assumption) rfl (by omega)) ?_
      refine .mg rfl rfl rfl rfl rfl rfl (.refl _) (.move rfl) ?_
      refine .mg rfl rfl rfl rfl rfl rfl (.refl _) (.idxN sl_23_B (Intss.sl (by assumption)) rfl rfl (by omega)) ?_
      refine .mg rfl rfl rfl rfl rfl rfl (.refl _) (.loadR on_22_B (by assumption) rfl (by omega)) ?_
      refine .mg rfl rfl rfl rfl rfl rfl (.refl _) (.move rfl) (.mg rfl rfl rfl rfl rfl rfl (.refl _) (.nilCheck rfl) (.mg rfl rfl rfl rfl rfl rfl (.refl _) (.fieldAddr fo_34_4_VProf rfl) ?_))
      refine .mg rfl rfl rfl rfl rfl rfl (.refl _) (.load on_26_VProf rfl (by assumption)) ?_
      refine .mg rfl rfl rfl rfl rfl rfl (.refl _) (.move rfl) ?_
      refine .mg rfl rfl rfl rfl rfl rfl (.refl _) (.idxN sl_26_VZ (Intsss.sl (by assumption)) rfl rfl (by omega)) ?_
      refine .mg rfl rfl rfl rfl rfl rfl (.refl _) (.loadRR on_23_B (by assumption) rfl (by omega)) ?_
      refine .mg rfl rfl rfl rfl rfl rfl (.refl _) (.move rfl) ?_
      refine .mg rfl rfl rfl rfl rfl rfl (.refl _) (.idxN sl_23_B (Intss.sl (by assumption)) rfl rfl (by omega)) ?_
      refine .mg rfl rfl rfl rfl rfl rfl (.refl _) (.loadR on_22_B (by assumption) rfl (by omega)) ?_
      refine .call1g rfl rfl rfl rfl rfl rfl rfl @Try.call96 rfl (implThen_c) ?_
      rintro _ H210 ⟨le210, g210, rfl, at210, ge210⟩
      have hbl := le210
      refine ⟨hbl, ?_⟩
      replace hle := hle.trans le210
      replace lst1 := lst1.le le210
      replace lst5 := lst5.le le210
      replace lst6 := lst6.le le210
      replace lst7 := lst7.le le210
      have lt_at210 := GHeap.ltg at210
      replace h := base_h.mono hle
      clear fs ft c10 c11 c12 i2 i3 i4 hm hi c0 c1 c2 c3 c4 d1 d2 d3 d4 x0 x1 x2 x3 x4 y1 y2 y3 y4
      obtain ⟨fs, ft, c10, c11, c12, i2, i3, i4⟩ := h.get
      have hm : MemN _ _ _ _ _ := ⟨rfl, h.1⟩
      have hi := h.2
      obtain ⟨c0, c1, c2, c3, c4, d1, d2, d3, d4⟩ := fs.get
      obtain ⟨x0, x1, x2, x3, x4, y1, y2, y3, y4⟩ := ft.get
      clear r2 r3 r5
      have r2 := y4.2 a (by omega)
      have r3 := i4.2 a (by omega)
      have r5 := r3.2 x (by omega)
      clear t3 t5
      have t3 := i4.2 b (by omega)
      have t5 := t3.2 x (by omega)
      clear u3 u5
      have u3 := i4.2 ((m.t.comp.getD a []).getD b 0).toNat (by omega)
      have u5 := u3.2 x (by omega)
      have i210 := Ints.of_get at210
      refine .callQ0g rfl rfl rfl rfl rfl rfl rfl @Try.call97 rfl (same_c (hy := by rw [length_thenL]; omega)) ?_
      refine .mg rfl rfl rfl rfl rfl rfl (.refl _) (.not rfl) (.m rfl rfl rfl rfl (.refl _) (.pickT rfl rfl) ?_)
      refine .done ?_
      refine hK44 _ _ ?_
      refine .cond rfl (fun h213 => ?_) (fun h213 => ?_)
      ·
       try simp only [sps] at h213
       refine .seq (fun K45 hK45 => .region (.mv rfl (.nil (hK45 _ _ ?_))))
       refine .ret ?_
       refine hret _ _ ?_
       refine ⟨_, rfl, ?_⟩
       exact ⟨congrArg _ (B_false fun hh => h213 (hh.thh x (by omega) a (by omega) b (by omega) h179)), hle⟩
      try simp only [sps] at h213
      refine .skip ?_
      refine hK42 _ _ (.region ?_)
      refine .m rfl rfl rfl (.add rfl rfl rfl (by omega) (by omega)) ?_
      refine .mv rfl (.nil ?_)
      refine hKL7 (b + 1) _ _ ?_ ?_ ⟨rfl, rfl, rfl, rfl, rfl, rfl, rfl, rfl, rfl, rfl, rfl, trivial⟩
      ·
       refine ⟨lst7, ?_⟩
       refine ⟨by omega, fun b' hx => ?_⟩
       by_cases hltq : b' < b
       · exact ha7 b' hltq
       · obtain rfl : b' = b := by omega
         first | exact fun _ => h213 | exact fun hp => absurd hp (by omega)
      omega
     try simp only [sps] at h179
     refine .sg rfl rfl rfl rfl rfl rfl (.sg rfl rfl rfl rfl rfl rfl (.sg rfl rfl rfl rfl rfl rfl (.sg rfl rfl rfl rfl rfl rfl (.sg rfl rfl rfl rfl rfl rfl (.sg rfl rfl rfl rfl rfl rfl (.sg rfl rfl rfl rfl rfl rfl (.sg rfl rfl rfl rfl rfl rfl (.sg rfl rfl rfl rfl rfl rfl (.sg rfl rfl rfl rfl rfl rfl (.sg rfl rfl rfl rfl rfl rfl (.sg rfl rfl rfl rfl rfl rfl (.sg rfl rfl rfl rfl rfl rfl (.sg rfl rfl rfl rfl rfl rfl (.sg rfl rfl rfl rfl rfl rfl (.sg rfl rfl rfl rfl rfl rfl ?_)))))))))))))))
     refine .sg rfl rfl rfl rfl rfl rfl (.sg rfl rfl rfl rfl rfl rfl (.sg rfl rfl rfl rfl rfl rfl (.sg rfl rfl rfl rfl rfl rfl (.sg rfl rfl rfl rfl rfl rfl (.sg rfl rfl rfl rfl rfl rfl (.sg rfl rfl rfl rfl rfl rfl (.sg rfl rfl rfl rfl rfl rfl (.sg rfl rfl rfl rfl rfl rfl (.sg rfl rfl rfl rfl rfl rfl (.sg rfl rfl rfl rfl rfl rfl (.sg rfl rfl rfl rfl rfl rfl (.sg rfl rfl rfl rfl rfl rfl (.sg rfl rfl rfl rfl rfl rfl (.sgc rfl rfl rfl rfl rfl rfl (.sgc rfl rfl rfl rfl rfl rfl ?_)))))))))))))))
     refine .sg rfl rfl rfl rfl rfl rfl (.m rfl rfl rfl rfl (.refl _) (.pickF rfl rfl) ?_)
     refine .done ?_
     refine hK44 _ _ ?_
     refine .condF rfl ?_
     refine .skip ?_
     refine hK42 _ _ (.region ?_)
     refine .m rfl rfl rfl (.add rfl rfl rfl (by omega) (by omega)) ?_
     refine .mv rfl (.nil ?_)
     refine hKL7 (b + 1) _ _ ?_ ?_ ⟨rfl, rfl, rfl, rfl, rfl, rfl, rfl, rfl, rfl, rfl, rfl, trivial⟩
     ·
      refine ⟨lst7, ?_⟩
      refine ⟨by omega, fun b' hx => ?_⟩
      by_cases hltq : b' < b
      · exact ha7 b' hltq
      · obtain rfl : b' = b := by omega
        first | exact fun _ => h213 | exact fun hp => absurd hp (by omega)
     omega
    try simp only [sps] at h173
    refine .exit ?_
    refine hK37 _ _ (.region ?_)
    refine .m rfl rfl rfl (.add rfl rfl rfl (by omega) (by omega)) ?_
    refine .mv rfl (.nil ?_)
    refine hKL6 (a + 1) _ _ ?_ ?_ ⟨rfl, rfl, rfl, rfl, rfl, rfl, rfl, trivial⟩
    ·
     refine ⟨lst6, ?_⟩
     refine ⟨by omega, fun a' hx => ?_⟩
     by_cases hltq : a' < a
     · exact ha6 a' hltq
     · obtain rfl : a' = a := by omega
       exact fun b hb => ha7 b (by omega)
    omega
   try simp only [sps] at h166
   refine .exit ?_
   refine hK33 _ _ (.region (.mv rfl ?_))
   refine .m rfl rfl rfl (.add rfl rfl rfl (by omega) (by omega)) ?_
   refine .mv rfl (.nil ?_)
   refine hKL5 (x + 1) _ _ ?_ ?_ ⟨rfl, rfl, rfl, rfl, trivial⟩
   ·
    refine ⟨lst5, ?_⟩
    refine ⟨by omega, fun x' hx => ?_⟩
    by_cases hltq : x' < x
    · exact ha5 x' hltq
    · obtain rfl : x' = x := by omega
      exact fun a ha => ha6 a (by omega)
   omega
  try simp only [sps] at h157
  refine .exit ?_
  refine hK29 _ _ (.seq (fun K46 hK46 => .region (.mv rfl (.nil (hK46 _ _ ?_)))))
  refine .ret ?_
  refine hret _ _ ?_
  refine ⟨_, rfl, ?_⟩
  exact ⟨congrArg _ (B_true ⟨fun y hy x hx => (ha1 y (by omega)).1 x (by omega), fun y hy a ha b hb => (ha1 y (by omega)).2 a (by omega) b (by have := hC.row a (by omega); omega), fun x hx a ha b hb => ha5 x (by omega) a (by omega) b (by have := hD.row a (by omega); omega)⟩), hle⟩
set_option maxHeartbeats 4000000 in
theorem isProfunctor_c {g o : Nat} {m : Prof} {p : ProfP} {H : GHeap} (h : Prof.At H g o m p := by assumption) (hs : m.Small := by assumption) : GCalls Try.prog 48 [.pointer (some ⟨g, o, none⟩)] H (Ret (.bool (B m.Is)) H) := by
  refine GCalls.ret rfl ?_
  refine GCalls.body (N := 111) (rs := [.tmp 2]) Try.func48 rfl rfl rfl rfl (fun Qx hret hend => ?_)
  refine .forget (fr' := [(0, some _)]) ⟨rfl, trivial⟩ ?_
  have hle := GHeap.Le.refl H
  have base_h := h
  obtain ⟨fs, ft, c10, c11, c12, i2, i3, i4⟩ := h.get
  have hm : MemN _ _ _ _ _ := ⟨rfl, h.1⟩
  have hi := h.2
  obtain ⟨c0, c1, c2, c3, c4, d1, d2, d3, d4⟩ := fs.get
  obtain ⟨x0, x1, x2, x3, x4, y1, y2, y3, y4⟩ := ft.get
  refine .seq (fun K1 hK1 => .region (.mv rfl (.nil (hK1 _ _ (.seq (fun K2 hK2 => .seq (fun K3 hK3 => .region (.mv rfl ?_))))))))
  refine .callQ rfl rfl rfl rfl @Try.call94 rfl (pfShape_c) ?_
  refine .m rfl rfl rfl (.not rfl) (.mv rfl ?_)
  refine .split (fun h12 => ?_) (fun h12 => ?_)
  ·
   try simp only [sps] at h12
   refine .sg rfl rfl rfl rfl rfl (.sg rfl rfl rfl rfl rfl (.sg rfl rfl rfl rfl rfl (.m rfl rfl rfl (.pickT rfl rfl) (.nil (hK3 _ _ ?_)))))
   refine .condT rfl ?_
   refine .seq (fun K4 hK4 => .region (.mv rfl (.nil (hK4 _ _ ?_))))
   refine .ret ?_
   refine hret _ _ ?_
   refine ⟨_, rfl, ?_⟩
   exact ⟨congrArg _ (B_false fun hh => h12 hh.1), hle⟩
  simp only [sps] at h12
  have hS := h12
  refine .mg rfl rfl rfl rfl rfl (.move rfl) ?_
  refine .callQg rfl rfl rfl rfl rfl rfl @Try.call95 rfl (pfActs_c) ?_
  refine .mg rfl rfl rfl rfl rfl (.not rfl) (.m rfl rfl rfl (.pickF rfl rfl) (.nil (hK3 _ _ ?_)))
  refine .cond rfl (fun h16 => ?_) (fun h16 => ?_)
  ·
   try simp only [sps] at h16
   refine .seq (fun K5 hK5 => .region (.mv rfl (.nil (hK5 _ _ ?_))))
   refine .ret ?_
   refine hret _ _ ?_
   refine ⟨_, rfl, ?_⟩
   exact ⟨congrArg _ (B_false fun hh => h16 hh.2.1), hle⟩
  try simp only [sps] at h16
  refine .skip ?_
  refine hK2 _ _ (.seq (fun K6 hK6 => ?_))
  refine .regionD mo_B (.q 0 (.q 1 (.q 2 (.q 3 (.q 4 (.q 5 (.q 6 (.q 7 (.done))))))))) (by kernel_rfl) ?_
  refine .mv rfl rfl (.m rfl rfl rfl rfl (.refl _) (.nilCheck rfl) (.m rfl rfl rfl rfl (.refl _) (.fieldAddr fo_34_0_VProf rfl) (.mv rfl rfl (.m rfl rfl rfl rfl (.refl _) (.nilCheck rfl) (.m rfl rfl rfl rfl (.refl _) (.fieldAddr fo_34_1_VProf rfl) (.mv rfl rfl (.mv rfl rfl ?_)))))))
  refine .done ?_
  refine hK6 _ _ (.seq (fun K7 hK7 => .seq (fun K8 hK8 => .region (.mv rfl (.m rfl rfl rfl (.nilCheck rfl) (.m rfl rfl rfl (.fieldAddr fo_34_3_VProf rfl) ?_))))))
  refine .m rfl rfl rfl (.load on_26_VProf rfl (by assumption)) ?_
  refine .m rfl rfl rfl (.len sl_26_VZ rfl) (.mv rfl (.nil (hK8 _ _ ?_)))
  refine .block ?_
  have hC := hS.s.1
  have hD := hS.t.1
  have q5 := hS.z.sl
  have q6 := hS.z.bl
  have q7 := hS.z.hl
  have q10 := hC.n40
  have q11 := hD.n40
  have q12 := hC.tl
  have q13 := hD.tl
  refine .loopR (σ := Nat) [(0, some _), (3, some _), (4, some _), (27, some _)] (fun a => [(28, some (.int .i64 (a : Int)))]) (fun a H' => St [] H H' ∧ (a : Int) ≤ m.be.length ∧ ∀ a', a' < a → ∀ b, b < m.bh.length → m.MixAt a' b) (fun a => (m.be.length - a : Int).toNat) (0) ⟨rfl, rfl, rfl, rfl, trivial⟩ ⟨rfl, trivial⟩ ?_ ?_
  ·
   refine ⟨.refl _ _, ?_⟩
   exact ⟨by omega, fun _ _ => by omega⟩
  rintro a HL1 ⟨lst1, hI⟩ KL1 hKL1
  refine .forget (fr' := [(28, some (.int .i64 (a : Int))), (0, some _), (3, some _), (4, some _), (27, some _)]) ⟨rfl, rfl, rfl, rfl, rfl, trivial⟩ ?_
  replace hle := hle.st lst1 (fun k hk => trivial)
  replace h := base_h.mono hle
  clear fs ft c10 c11 c12 i2 i3 i4 hm hi c0 c1 c2 c3 c4 d1 d2 d3 d4 x0 x1 x2 x3 x4 y1 y2 y3 y4
  obtain ⟨fs, ft, c10, c11, c12, i2, i3, i4⟩ := h.get
  have hm : MemN _ _ _ _ _ := ⟨rfl, h.1⟩
  have hi := h.2
  obtain ⟨c0, c1, c2, c3, c4, d1, d2, d3, d4⟩ := fs.get
  obtain ⟨x0, x1, x2, x3, x4, y1, y2, y3, y4⟩ := ft.get
  obtain ⟨hk1, ha1⟩ := hI
  refine .seq (fun K9 hK9 => .region (.m rfl rfl rfl (.cmp rfl rfl rfl) (.nil (hK9 _ _ (.seq (fun K10 hK10 => ?_))))))
  refine .cond rfl (fun h29 => ?_) (fun h29 => ?_)
  ·
   simp only [sps] at h29
   have r2 := hS.z.b hS.s (a := a) (by omega)
   have r1 := i3.2 a (by omega)
   refine .skip ?_
   refine hK10 _ _ (.seq (fun K11 hK11 => ?_))
   refine .block ?_
   refine .seq (fun K12 hK12 => .region (.mv rfl (.mv rfl (.nil (hK12 _ _ (.seq (fun K13 hK13 => .region (.mv rfl (.m rfl rfl rfl (.nilCheck rfl) (.m rfl rfl rfl (.fieldAddr fo_34_4_VProf rfl) ?_))))))))))
   refine .m rfl rfl rfl (.load on_26_VProf rfl (by assumption)) ?_
   refine .m rfl rfl rfl (.len sl_26_VZ rfl) (.mv rfl (.nil (hK13 _ _ ?_)))
   refine .block ?_
   refine .loopR (σ := Nat) [(0, some _), (3, some _), (4, some _), (5, some _), (27, some _), (28, some _), (35, some _)] (fun b => [(36, some (.int .i64 (b : Int)))]) (fun b H' => St [] HL1 H' ∧ (b : Int) ≤ m.bh.length ∧ ∀ b', b' < b → m.MixAt a b') (fun b => (m.bh.length - b : Int).toNat) (0) ⟨rfl, rfl, rfl, rfl, rfl, rfl, rfl, trivial⟩ ⟨rfl, trivial⟩ ?_ ?_
   ·
    refine ⟨.refl _ _, ?_⟩
    exact ⟨by omega, fun _ _ => by omega⟩
   rintro b HL2 ⟨lst2, hI⟩ KL2 hKL2
   refine .forget (fr' := [(36, some (.int .i64 (b : Int))), (0, some _), (3, some _), (4, some _), (5, some _), (27, some _), (28, some _), (35, some _)]) ⟨rfl, rfl, rfl, rfl, rfl, rfl, rfl, rfl, trivial⟩ ?_
   replace hle := hle.st lst2 (fun k hk => trivial)
   replace lst1 := lst1.st lst2 (fun k hk ho => by simp only [out, and_true] at ho ⊢ <;> first | exact ho | exact ho.1 | exact ho.2 | exact ho.2.1 | exact ho.2.2 | exact ho.2.2.1 | exact ho.2.2.2 | omega)
   replace h := base_h.mono hle
   clear fs ft c10 c11 c12 i2 i3 i4 hm hi c0 c1 c2 c3 c4 d1 d2 d3 d4 x0 x1 x2 x3 x4 y1 y2 y3 y4
   obtain ⟨fs, ft, c10, c11, c12, i2, i3, i4⟩ := h.get
   have hm : MemN _ _ _ _ _ := ⟨rfl, h.1⟩
   have hi := h.2
   obtain ⟨c0, c1, c2, c3, c4, d1, d2, d3, d4⟩ := fs.get
   obtain ⟨x0, x1, x2, x3, x4, y1, y2, y3, y4⟩ := ft.get
   clear r1
   have r1 := i3.2 a (by omega)
   obtain ⟨hk2, ha2⟩ := hI
   refine .seq (fun K14 hK14 => .region (.m rfl rfl rfl (.cmp rfl rfl rfl) (.nil (hK14 _ _ (.seq (fun K15 hK15 => ?_))))))
   refine .cond rfl (fun h37 => ?_) (fun h37 => ?_)
   ·
    simp only [sps] at h37
    have t2 := hS.z.h hS.t (b := b) (by omega)
    have v1 := hS.by (a := a) (y := (m.t.src.getD b 0).toNat) (by omega) (by omega)
    have v2 := hS.by (a := a) (y := (m.t.tgt.getD b 0).toNat) (by omega) (by omega)
    have v3 := hS.hx (b := b) (x := (m.s.src.getD a 0).toNat) (by omega) (by omega)
    have v4 := hS.hx (b := b) (x := (m.s.tgt.getD a 0).toNat) (by omega) (by omega)
    have u1 : ∀ i, i < ((m.be.getD a []).getD (m.t.src.getD b 0).toNat []).length → 0 ≤ ((m.be.getD a []).getD (m.t.src.getD b 0).toNat []).getD i 0 ∧ ((m.be.getD a []).getD (m.t.src.getD b 0).toNat []).getD i 0 < ((m.bh.getD b []).getD (m.s.src.getD a 0).toNat []).length := fun i hi => by
      have := v1.2.2.2.2.1 i hi
      rw [← v3.2.2.2.2.1] at this
      exact this
    have u2 : ∀ i, i < ((m.bh.getD b []).getD (m.s.tgt.getD a 0).toNat []).length → 0 ≤ ((m.bh.getD b []).getD (m.s.tgt.getD a 0).toNat []).getD i 0 ∧ ((m.bh.getD b []).getD (m.s.tgt.getD a 0).toNat []).getD i 0 < ((m.be.getD a []).getD (m.t.tgt.getD b 0).toNat []).length := fun i hi => by
      have := v4.2.2.2.2.2.1 i hi
      rw [← v2.2.2.2.1] at this
      exact this
    have t1 := i4.2 b (by omega)
    have w1 := r1.2 (m.t.src.getD b 0).toNat (by omega)
    have w2 := r1.2 (m.t.tgt.getD b 0).toNat (by omega)
    have w3 := t1.2 (m.s.src.getD a 0).toNat (by omega)
    have w4 := t1.2 (m.s.tgt.getD a 0).toNat (by omega)
    refine .skip ?_
    refine hK15 _ _ (.seq (fun K16 hK16 => ?_))
    refine .block ?_
    refine .seq (fun K17 hK17 => .region (.mv rfl (.mv rfl (.nil (hK17 _ _ (.seq (fun K18 hK18 => ?_)))))))
    refine .regionD mo_B (.q 0 (.q 1 (.q 2 (.q 3 (.q 4 (.q 5 (.q 6 (.q 7 (.q 8 (.q 9 (.q 10 (.q 11 (.q 12 (.q 13 (.q 14 (.q 15 (.q 16 (.q 17 (.q 18 (.q 19 (.q 20 (.q 21 (.q 22 (.q 23 (.q 24 (.q 25 (.q 26 (.q 27 (.q 28 (.q 29 (.q 30 (.q 31 (.c 32 0 (.q 33 (.done))))))))))))))))))))))))))))))))))) (by kernel_rfl) ?_
    refine .mv rfl rfl (.m rfl rfl rfl rfl (.refl _) (.nilCheck rfl) (.m rfl rfl rfl rfl (.refl _) (.fieldAddr fo_34_3_VProf rfl) ?_))
    refine .m rfl rfl rfl rfl (.refl _) (.load on_26_VProf rfl (by assumption)) ?_
    refine .mv rfl rfl ?_
    refine .m rfl rfl rfl rfl (.refl _) (.idxN sl_26_VZ (Intsss.sl (by assumption)) rfl rfl (by omega)) ?_
    refine .m rfl rfl rfl rfl (.refl _) (.loadRR on_23_B (by assumption) rfl (by omega)) ?_
    refine .mv rfl rfl (.m rfl rfl rfl rfl (.refl _) (.nilCheck rfl) (.m rfl rfl rfl rfl (.refl _) (.fieldAddr fo_30_1_B rfl) ?_))
    refine .m rfl rfl rfl rfl (.refl _) (.load on_22_B rfl (by assumption)) ?_
    refine .mv rfl rfl ?_
    refine .m rfl rfl rfl rfl (.refl _) (.idxN sl_22_A (by assumption) rfl rfl (by omega)) ?_
    refine .m rfl rfl rfl rfl (.refl _) (.loadI on_2_A (by assumption) rfl (by omega)) ?_
    refine .m rfl rfl rfl rfl (.refl _) (.idx1 sl_23_B (Intss.sl (by assumption)) rfl rfl (by omega) (by omega)) ?_
    refine .m rfl rfl rfl rfl (.refl _) (.loadR on_22_B (by assumption) rfl (by omega)) ?_
    refine .mv rfl rfl (.m rfl rfl rfl rfl (.refl _) (.nilCheck rfl) (.m rfl rfl rfl rfl (.refl _) (.fieldAddr fo_34_4_VProf rfl) ?_))
    refine .m rfl rfl rfl rfl (.refl _) (.load on_26_VProf rfl (by assumption)) ?_
    refine .mv rfl rfl ?_
    refine .m rfl rfl rfl rfl (.refl _) (.idxN sl_26_VZ (Intsss.sl (by assumption)) rfl rfl (by omega)) ?_
    refine .m rfl rfl rfl rfl (.refl _) (.loadRR on_23_B (by assumption) rfl (by omega)) ?_
    refine .mv rfl rfl (.m rfl rfl rfl rfl (.refl _) (.nilCheck rfl) (.m rfl rfl rfl rfl (.refl _) (.fieldAddr fo_30_1_B rfl) ?_))
    refine .m rfl rfl rfl rfl (.refl _) (.load on_22_B rfl (by assumption)) ?_
    refine .mv rfl rfl ?_
    refine .m rfl rfl rfl rfl (.refl _) (.idxN sl_22_A (by assumption) rfl rfl (by omega)) ?_
    refine .m rfl rfl rfl rfl (.refl _) (.loadI on_2_A (by assumption) rfl (by omega)) ?_
    refine .m rfl rfl rfl rfl (.refl _) (.idx1 sl_23_B (Intss.sl (by assumption)) rfl rfl (by omega) (by omega)) ?_
    refine .m rfl rfl rfl rfl (.refl _) (.loadR on_22_B (by assumption) rfl (by omega)) ?_
    refine .call0 rfl rfl rfl rfl rfl @Try.call96 rfl (implThen_c) ?_
    rintro _ H71 ⟨le71, g71, rfl, at71, ge71⟩
    replace hle := hle.trans le71
    replace lst1 := lst1.le le71
    replace lst2 := lst2.le le71
    have lt_at71 := GHeap.ltg at71
    replace h := base_h.mono hle
    clear fs ft c10 c11 c12 i2 i3 i4 hm hi c0 c1 c2 c3 c4 d1 d2 d3 d4 x0 x1 x2 x3 x4 y1 y2 y3 y4
    obtain ⟨fs, ft, c10, c11, c12, i2, i3, i4⟩ := h.get
    have hm : MemN _ _ _ _ _ := ⟨rfl, h.1⟩
    have hi := h.2
    obtain ⟨c0, c1, c2, c3, c4, d1, d2, d3, d4⟩ := fs.get
    obtain ⟨x0, x1, x2, x3, x4, y1, y2, y3, y4⟩ := ft.get
    clear r1
    have r1 := i3.2 a (by omega)
    clear t1 w1 w2 w3 w4
    have t1 := i4.2 b (by omega)
    have w1 := r1.2 (m.t.src.getD b 0).toNat (by omega)
    have w2 := r1.2 (m.t.tgt.getD b 0).toNat (by omega)
    have w3 := t1.2 (m.s.src.getD a 0).toNat (by omega)
    have w4 := t1.2 (m.s.tgt.getD a 0).toNat (by omega)
    have i71 := Ints.of_get at71
    refine .mv rfl rfl ?_
    refine .done ?_
    refine hK18 _ _ (.seq (fun K19 hK19 => ?_))
    refine .regionD mo_B (.q 0 (.q 1 (.q 2 (.q 3 (.q 4 (.q 5 (.q 6 (.q 7 (.q 8 (.q 9 (.q 10 (.q 11 (.q 12 (.q 13 (.q 14 (.q 15 (.q 16 (.q 17 (.q 18 (.q 19 (.q 20 (.q 21 (.q 22 (.q 23 (.q 24 (.q 25 (.q 26 (.q 27 (.q 28 (.q 29 (.q 30 (.q 31 (.c 32 0 (.q 33 (.done))))))))))))))))))))))))))))))))))) (by kernel_rfl) ?_
    refine .mv rfl rfl (.m rfl rfl rfl rfl (.refl _) (.nilCheck rfl) (.m rfl rfl rfl rfl (.refl _) (.fieldAddr fo_34_4_VProf rfl) ?_))
    refine .m rfl rfl rfl rfl (.refl _) (.load on_26_VProf rfl (by assumption)) ?_
    refine .mv rfl rfl ?_
    refine .m rfl rfl rfl rfl (.refl _) (.idxN sl_26_VZ (Intsss.sl (by assumption)) rfl rfl (by omega)) ?_
    refine .m rfl rfl rfl rfl (.refl _) (.loadRR on_23_B (by assumption) rfl (by omega)) ?_
    refine .mv rfl rfl (.m rfl rfl rfl rfl (.refl _) (.nilCheck rfl) (.m rfl rfl rfl rfl (.refl _) (.fieldAddr fo_30_2_B rfl) ?_))
    refine .m rfl rfl rfl rfl (.refl _) (.load on_22_B rfl (by assumption)) ?_
    refine .mv rfl rfl ?_
    refine .m rfl rfl rfl rfl (.refl _) (.idxN sl_22_A (by assumption) rfl rfl (by omega)) ?_
    refine .m rfl rfl rfl rfl (.refl _) (.loadI on_2_A (by assumption) rfl (by omega)) ?_
    refine .m rfl rfl rfl rfl (.refl _) (.idx1 sl_23_B (Intss.sl (by assumption)) rfl rfl (by omega) (by omega)) ?_
    refine .m rfl rfl rfl rfl (.refl _) (.loadR on_22_B (by assumption) rfl (by omega)) ?_
    refine .mv rfl rfl (.m rfl rfl rfl rfl (.refl _) (.nilCheck rfl) (.m rfl rfl rfl rfl (.refl _) (.fieldAddr fo_34_3_VProf rfl) ?_))
    refine .m rfl rfl rfl rfl (.refl _) (.load on_26_VProf rfl (by assumption)) ?_
    refine .mv rfl rfl ?_
    refine .m rfl rfl rfl rfl (.refl _) (.idxN sl_26_VZ (Intsss.sl (by assumption)) rfl rfl (by omega)) ?_
    refine .m rfl rfl rfl rfl (.refl _) (.loadRR on_23_B (by assumption) rfl (by omega)) ?_
    refine .mv rfl rfl (.m rfl rfl rfl rfl (.refl _) (.nilCheck rfl) (.m rfl rfl rfl rfl (.refl _) (.fieldAddr fo_30_2_B rfl) ?_))
    refine .m rfl rfl rfl rfl (.refl _) (.load on_22_B rfl (by assumption)) ?_
    refine .mv rfl rfl ?_
    refine .m rfl rfl rfl rfl (.refl _) (.idxN sl_22_A (by assumption) rfl rfl (by omega)) ?_
    refine .m rfl rfl rfl rfl (.refl _) (.loadI on_2_A (by assumption) rfl (by omega)) ?_
    refine .m rfl rfl rfl rfl (.refl _) (.idx1 sl_23_B (Intss.sl (by assumption)) rfl rfl (by omega) (by omega)) ?_
    refine .m rfl rfl rfl rfl (.refl _) (.loadR on_22_B (by assumption) rfl (by omega)) ?_
    refine .call0 rfl rfl rfl rfl rfl @Try.call96 rfl (implThen_c) ?_
    rintro _ H104 ⟨le104, g104, rfl, at104, ge104⟩
    replace hle := hle.trans le104
    replace lst1 := lst1.le le104
    replace lst2 := lst2.le le104
    replace at71 := le104.2 _ _ at71
    have lt_at104 := GHeap.ltg at104
    replace h := base_h.mono hle
    clear fs ft c10 c11 c12 i2 i3 i4 hm hi c0 c1 c2 c3 c4 d1 d2 d3 d4 x0 x1 x2 x3 x4 y1 y2 y3 y4
    obtain ⟨fs, ft, c10, c11, c12, i2, i3, i4⟩ := h.get
    have hm : MemN _ _ _ _ _ := ⟨rfl, h.1⟩
    have hi := h.2
    obtain ⟨c0, c1, c2, c3, c4, d1, d2, d3, d4⟩ := fs.get
    obtain ⟨x0, x1, x2, x3, x4, y1, y2, y3, y4⟩ := ft.get
    clear r1
    have r1 := i3.2 a (by omega)
    clear t1 w1 w2 w3 w4
    have t1 := i4.2 b (by omega)
    have w1 := r1.2 (m.t.src.getD b 0).toNat (by omega)
    have w2 := r1.2 (m.t.tgt.getD b 0).toNat (by omega)
    have w3 := t1.2 (m.s.src.getD a 0).toNat (by omega)
    have w4 := t1.2 (m.s.tgt.getD a 0).toNat (by omega)
    clear i71
    have i71 := Ints.of_get at71
    have i104 := Ints.of_get at104
    refine .mv rfl rfl ?_
    refine .done ?_
    refine hK19 _ _ (.seq (fun K20 hK20 => .region (.mv rfl (.mv rfl ?_))))
    refine .callQ rfl rfl rfl rfl @Try.call97 rfl (same_c (hx := by rw [length_thenL]; omega) (hy := by rw [length_thenL]; omega)) ?_
    refine .m rfl rfl rfl (.not rfl) (.nil (hK20 _ _ ?_))
    refine .cond rfl (fun h108 => ?_) (fun h108 => ?_)
    ·
     try simp only [sps] at h108
     refine .seq (fun K21 hK21 => .region (.mv rfl (.nil (hK21 _ _ ?_))))
     refine .ret ?_
     refine hret _ _ ?_
     refine ⟨_, rfl, ?_⟩
     exact ⟨congrArg _ (B_false fun hh => h108 (hh.2.2 a (by omega) b (by omega))), hle⟩
    try simp only [sps] at h108
    refine .skip ?_
    refine hK16 _ _ (.region ?_)
    refine .m rfl rfl rfl (.add rfl rfl rfl (by omega) (by omega)) ?_
    refine .mv rfl (.nil ?_)
    refine hKL2 (b + 1) _ _ ?_ ?_ ⟨rfl, rfl, rfl, rfl, rfl, rfl, rfl, rfl, trivial⟩
    ·
     refine ⟨lst2, ?_⟩
     refine ⟨by omega, fun b' hx => ?_⟩
     by_cases hltq : b' < b
     · exact ha2 b' hltq
     · obtain rfl : b' = b := by omega
       exact h108
    omega
   try simp only [sps] at h37
   refine .exit ?_
   refine hK11 _ _ (.region ?_)
   refine .m rfl rfl rfl (.add rfl rfl rfl (by omega) (by omega)) ?_
   refine .mv rfl (.nil ?_)
   refine hKL1 (a + 1) _ _ ?_ ?_ ⟨rfl, rfl, rfl, rfl, rfl, trivial⟩
   ·
    refine ⟨lst1, ?_⟩
    refine ⟨by omega, fun a' hx => ?_⟩
    by_cases hltq : a' < a
    · exact ha1 a' hltq
    · obtain rfl : a' = a := by omega
      exact fun b hb => ha2 b (by omega)
   omega
  try simp only [sps] at h29
  refine .exit ?_
  refine hK7 _ _ (.seq (fun K22 hK22 => .region (.mv rfl (.nil (hK22 _ _ ?_)))))
  refine .ret ?_
  refine hret _ _ ?_
  refine ⟨_, rfl, ?_⟩
  exact ⟨congrArg _ (B_true ⟨hS, h16, fun a ha b hb => ha1 a (by omega) b (by omega)⟩), hle⟩
end Go.Proofs.Ytdjodpdmbklfhaa
namespace Go.GL
open Go.RowKit
theorem CDo.appendL {P : Program} {H : GHeap} {fr : Slots} {o : Oper} {t tx e e' : TypeId} {s x : Operand} {g n bytes : Nat} {a : Option Addr} {z : List Value} {ys xs : List Int} (ho : o.op = .call { callee := .builtin .append, args := #[s, x], argTypes := #[t, tx] }) (ht : sliceT P t = some (e, 1)) (hz : zeroT P e = some (z, 1)) (hzn : z.length = 1)
    (hb : (P.info? e).map (·.bytes) = some bytes) (htx : sliceT P tx = some (e', 1)) (hsv : ev fr s = some (.slice (some ⟨g, 0, none⟩) n n)) (hx : ev fr x = some (.slice a xs.length xs.length)) (hg : H.get g = some (.row (ints ys) e true)) (hxs : Ints H a xs) (hend : n = ys.length)
    (hN : n + xs.length ≤ 16777216) (hB : (n + xs.length) * bytes ≤ 140737488355328) :
    CDo P o fr H (fun r H' => ∃ g', r = some (.slice (some ⟨g', 0, none⟩) (n + xs.length) (n + xs.length)) ∧ St [g] H H' ∧ H.next ≤ g' ∧ H'.get g' = some (.row (ints (ys ++ xs)) e true)) := by
  have e1 : ints (ys ++ xs) = (ints ys).drop 0 ++ ints xs := by simp [ints]
  rw [e1]
  refine .appendR (off := 0) (cs := ints ys) (news := ints xs) ho ht hz hzn hb hsv hg (by simp; omega) ?_ hN hB
  rcases hxs with h0 | ⟨g', off, rfl, hc⟩
  · obtain rfl : xs = [] := List.eq_nil_of_length_eq_zero h0
    exact .empty htx hx
  · exact .slice htx hx (by simp) (fun i v hv => by
      have hi : i < xs.length := by have := (List.getElem?_eq_some_iff.1 hv).1; simpa using this
      rw [ints_get hi] at hv
      cases hv
      exact hc i hi) (fun v hv => by
      simp only [ints, List.mem_map] at hv
      obtain ⟨m, _, rfl⟩ := hv
      rfl)

section
variable {P : Program} {B : Nat} {w0 : World} {ρ : Place} {H : GHeap} {w : World} {fr : Slots} {o : Oper} {R : Option Value → GHeap → Prop}
end
end Go.GL
namespace Go.GL
def least (K : Nat → Nat → Bool) (i : Nat) : Nat := ((List.range i).find? fun j => K j i).getD i
def reps (K : Nat → Nat → Bool) (m : Nat) : Nat := ((List.range m).filter fun j => least K j == j).length
def clsAt (K : Nat → Nat → Bool) (i : Nat) : Int := (reps K (least K i) : Int)
def clsL (K : Nat → Nat → Bool) (n : Nat) : List Int := (List.range n).map (clsAt K)
@[simp] theorem length_clsL (K : Nat → Nat → Bool) (n : Nat) : (clsL K n).length = n := by simp [clsL]
structure Eqv (K : Nat → Nat → Bool) (n : Nat) : Prop where
  rf : ∀ a, a < n → K a a = true
  sy : ∀ a b, a < n → b < n → K a b = true → K b a = true
  tr : ∀ a b c, a < n → b < n → c < n → K a b = true → K b c = true → K a c = true
theorem find_range {p : Nat → Bool} {i : Nat} : (∃ j, (List.range i).find? p = some j ∧ j < i ∧ p j = true ∧ ∀ k, k < j → p k = false) ∨ ((List.range i).find? p = none ∧ ∀ k, k < i → p k = false) := by
  cases h : (List.range i).find? p with
  | none =>
    rw [List.find?_range_eq_none] at h
    exact .inr ⟨rfl, fun k hk => by simpa using h k hk⟩
  | some j =>
    rw [List.find?_range_eq_some] at h
    exact .inl ⟨j, rfl, List.mem_range.1 h.2.1, h.1, fun k hk => by simpa using h.2.2 k hk⟩
theorem least_le (K : Nat → Nat → Bool) (i : Nat) : least K i ≤ i := by
  unfold least
  rcases find_range (p := fun j => K j i) (i := i) with ⟨j, h, hl, _⟩ | ⟨h, _⟩
  · rw [h]; exact Nat.le_of_lt hl
  · rw [h]; exact Nat.le_refl _
theorem least_mate {K : Nat → Nat → Bool} {n i : Nat} (e : Eqv K n) (h : i < n) : K (least K i) i = true ∧ ∀ j, j < least K i → K j i = false := by
  unfold least
  rcases find_range (p := fun j => K j i) (i := i) with ⟨j, hj, hl, hp, hb⟩ | ⟨hj, hb⟩
  · rw [hj]; exact ⟨hp, hb⟩
  · rw [hj]; exact ⟨e.rf i h, hb⟩
theorem least_eq {K : Nat → Nat → Bool} {n i j : Nat} (e : Eqv K n) (hi : i < n) (hk : K j i = true) (hm : ∀ k, k < j → K k i = false) : least K i = j := by
  obtain ⟨h1, h2⟩ := least_mate e hi
  rcases Nat.lt_trichotomy (least K i) j with h | h | h
  · rw [hm _ h] at h1; cases h1
  · exact h
  · rw [h2 _ h] at hk; cases hk
theorem least_congr_mate {K : Nat → Nat → Bool} {n i j : Nat} (e : Eqv K n) (hi : i < n) (hj : j < n) : least K i = least K j ↔ K i j = true := by
  obtain ⟨h1, h2⟩ := least_mate e hi
  obtain ⟨k1, k2⟩ := least_mate e hj
  have li := least_le K i
  have lj := least_le K j
  constructor
  · intro h
    rw [← h] at k1
    exact e.tr i _ j hi (by omega) hj (e.sy _ _ (by omega) hi h1) k1
  · intro h
    refine least_eq e hi (e.tr _ j i (by omega) hj hi k1 (e.sy _ _ hi hj h)) fun k hk => ?_
    cases hh : K k i with
    | false => rfl
    | true => rw [← k2 k hk]; exact (e.tr k i j (by omega) hi hj hh h).symm
theorem least_idem {K : Nat → Nat → Bool} {n i : Nat} (e : Eqv K n) (hi : i < n) : least K (least K i) = least K i := by
  have := least_le K i
  exact (least_congr_mate e (by omega) hi).2 (least_mate e hi).1
theorem least_congr {K K' : Nat → Nat → Bool} {n i : Nat} (h : ∀ a b, a < n → b < n → K a b = K' a b) (hi : i < n) : least K i = least K' i := by
  unfold least
  have : ∀ l : List Nat, (∀ j ∈ l, j < n) → l.find? (fun j => K j i) = l.find? (fun j => K' j i) := by
    intro l
    induction l with
    | nil => intro _; rfl
    | cons a l ih =>
      intro hl
      simp only [List.find?_cons]
      rw [h a i (hl a (by simp)) hi, ih fun j hj => hl j (by simp [hj])]
  rw [this _ fun j hj => by have := List.mem_range.1 hj; omega]
theorem reps_congr {K K' : Nat → Nat → Bool} {n m : Nat} (h : ∀ a b, a < n → b < n → K a b = K' a b) (hm : m ≤ n) : reps K m = reps K' m := by
  unfold reps
  congr 1
  refine List.filter_congr fun j hj => ?_
  rw [least_congr h (by have := List.mem_range.1 hj; omega)]
theorem clsL_congr {K K' : Nat → Nat → Bool} {n : Nat} (h : ∀ a b, a < n → b < n → K a b = K' a b) : clsL K n = clsL K' n := by
  refine List.map_congr_left fun i hi => ?_
  have hi' := List.mem_range.1 hi
  unfold clsAt
  rw [least_congr h hi', reps_congr h (by have := least_le K' i; omega)]
theorem reps_succ (K : Nat → Nat → Bool) (m : Nat) : reps K (m + 1) = reps K m + (if least K m = m then 1 else 0) := by
  unfold reps
  rw [List.range_succ, List.filter_append, List.length_append]
  congr 1
  by_cases h : least K m = m <;> simp [h]
theorem reps_mono {K : Nat → Nat → Bool} {a b : Nat} (h : a ≤ b) : reps K a ≤ reps K b := by
  induction b with
  | zero => obtain rfl : a = 0 := by omega
            exact Nat.le_refl _
  | succ b ih =>
    by_cases e : a = b + 1
    · subst e; exact Nat.le_refl _
    · have := ih (by omega)
      rw [reps_succ]
      omega

def kerB (xs : List Int) (a b : Nat) : Bool := xs.getD a 0 == xs.getD b 0
theorem kerB_eqv (xs : List Int) (n : Nat) : Eqv (kerB xs) n := ⟨fun a _ => by simp [kerB], fun a b _ _ h => by simp only [kerB, beq_iff_eq] at h ⊢; exact h.symm, fun a b c _ _ _ h h' => by simp only [kerB, beq_iff_eq] at h h' ⊢; exact h.trans h'⟩
def seenL (xs : List Int) (i : Nat) : List Int := ((List.range i).filter fun j => least (kerB xs) j == j).map fun j => xs.getD j 0
@[simp] theorem length_seenL (xs : List Int) (i : Nat) : (seenL xs i).length = reps (kerB xs) i := by simp [seenL, reps]
theorem seenL_new {xs : List Int} {i : Nat} (h : least (kerB xs) i = i) : seenL xs (i + 1) = seenL xs i ++ [xs.getD i 0] := by simp [seenL, List.range_succ, List.filter_append, h]
theorem seenL_old {xs : List Int} {i : Nat} (h : least (kerB xs) i ≠ i) : seenL xs (i + 1) = seenL xs i := by simp [seenL, List.range_succ, List.filter_append, h]
theorem seenL_at {xs : List Int} {i m : Nat} (h : m < (seenL xs i).length) : ∃ j, j < i ∧ least (kerB xs) j = j ∧ reps (kerB xs) j = m ∧ (seenL xs i).getD m 0 = xs.getD j 0 := by
  induction i with
  | zero => simp [seenL] at h
  | succ i ih =>
    by_cases hi : least (kerB xs) i = i
    · rw [seenL_new hi] at h ⊢
      by_cases e : m < (seenL xs i).length
      · obtain ⟨j, h1, h2, h3, h4⟩ := ih e
        refine ⟨j, by omega, h2, h3, ?_⟩
        rw [List.getD_eq_getElem?_getD, List.getElem?_append_left e, ← List.getD_eq_getElem?_getD]
        exact h4
      · have hm : m = (seenL xs i).length := by simp at h; rw [length_seenL] at *; omega
        refine ⟨i, by omega, hi, by rw [hm, length_seenL], ?_⟩
        rw [hm, List.getD_eq_getElem?_getD, List.getElem?_append_right (Nat.le_refl _)]
        simp
    · rw [seenL_old hi] at h ⊢
      obtain ⟨j, h1, h2, h3, h4⟩ := ih h
      exact ⟨j, by omega, h2, h3, h4⟩
def idxL (xs : List Int) (v : Int) : Int := match firstN xs.length fun i => xs.getD i 0 == v with | some i => (i : Int) | none => -1
def seenE (xs : List Int) (k : Nat) : List (Int × Int) := (List.range (seenL xs k).length).map fun i => ((seenL xs k).getD i 0, (i : Int))
@[simp] theorem length_seenE (xs : List Int) (k : Nat) : (seenE xs k).length = (seenL xs k).length := by simp [seenE]
def part0 (n : Nat) (f : Nat → Int) (k : Nat) : List Int := (List.range n).map fun i => bif decide (i < k) then f i else 0
@[simp] theorem length_part0 (n : Nat) (f : Nat → Int) (k : Nat) : (part0 n f k).length = n := by simp [part0]
def stepK (K : Nat → Nat → Bool) (p q : Nat) : Nat → Nat → Bool := fun a b => K a b || (K a p && K q b) || (K a q && K p b)
def joinK (ps : List (Nat × Nat)) : Nat → Nat → Bool := ps.foldl (fun K p => stepK K p.1 p.2) (fun a b => a == b)
theorem joinK_nil : joinK [] = fun a b => a == b := rfl
def Ker (lab : List Int) (K : Nat → Nat → Bool) (n : Nat) : Prop := ∀ a b, a < n → b < n → kerB lab a b = K a b
theorem Ker.start {lab : List Int} {n : Nat} (h : ∀ i, i < n → lab.getD i 0 = (i : Int)) : Ker lab (joinK []) n := fun a b ha hb => by
  unfold kerB
  rw [h a ha, h b hb, joinK_nil, Bool.eq_iff_iff]
  simp only [beq_iff_eq]
  omega
theorem Ker.step {lab lab' : List Int} {K : Nat → Nat → Bool} {n p q : Nat} (h : Ker lab K n) (hp : p < n) (hq : q < n) (hs : ∀ i, i < n → lab'.getD i 0 = if lab.getD i 0 = lab.getD q 0 then lab.getD p 0 else lab.getD i 0) : Ker lab' (stepK K p q) n := fun a b ha hb => by
  unfold stepK
  rw [← h a b ha hb, ← h a p ha hp, ← h q b hq hb, ← h a q ha hq, ← h p b hp hb, Bool.eq_iff_iff]
  unfold kerB
  rw [hs a ha, hs b hb]
  simp only [beq_iff_eq, Bool.or_eq_true, Bool.and_eq_true]
  generalize lab.getD a 0 = x at *
  generalize lab.getD b 0 = y at *
  generalize lab.getD p 0 = u at *
  generalize lab.getD q 0 = v at *
  by_cases h1 : x = v
  · by_cases h2 : y = v
    · rw [if_pos h1, if_pos h2]; omega
    · rw [if_pos h1, if_neg h2]; omega
  · by_cases h2 : y = v
    · rw [if_neg h1, if_pos h2]; omega
    · rw [if_neg h1, if_neg h2]; omega
def relab (xs : List Int) (a b : Int) (k : Nat) : List Int := (xs.take k).map (fun z => if z = b then a else z) ++ xs.drop k
@[simp] theorem length_relab (xs : List Int) (a b : Int) (k : Nat) : (relab xs a b k).length = xs.length := by simp [relab]; omega
theorem relab_getD {xs : List Int} {a b : Int} {k i : Nat} (hi : i < xs.length) : (relab xs a b k).getD i 0 = if i < k then (if xs.getD i 0 = b then a else xs.getD i 0) else xs.getD i 0 := by
  unfold relab
  by_cases h : i < k
  · rw [if_pos h, List.getD_eq_getElem?_getD, List.getElem?_append_left (by simp; omega)]
    simp only [List.getElem?_map, List.getElem?_take, h, if_true, List.getD_eq_getElem?_getD]
    rw [List.getElem?_eq_getElem hi]
    simp
  · rw [if_neg h, List.getD_eq_getElem?_getD, List.getElem?_append_right (by simp; omega)]
    simp only [List.length_map, List.length_take, List.getElem?_drop, List.getD_eq_getElem?_getD]
    congr 2
    omega
theorem Ker.relab {lab : List Int} {K : Nat → Nat → Bool} {n p q e : Nat} (h : Ker lab K n) (hl : lab.length = n) (hp : p < n) (hq : q < n) (he : e = n ∨ lab.getD p 0 = lab.getD q 0) : Ker (Go.GL.relab lab (lab.getD p 0) (lab.getD q 0) e) (stepK K p q) n := by
  refine h.step hp hq fun i hi => ?_
  rw [relab_getD (by omega)]
  rcases he with rfl | he
  · rw [if_pos hi]
  · by_cases hie : i < e
    · rw [if_pos hie]
    · rw [if_neg hie]
      by_cases hx : lab.getD i 0 = lab.getD q 0
      · rw [if_pos hx, he, hx]
      · rw [if_neg hx]

structure Forest (j : List Int) : Prop where
  up : ∀ x, x < j.length → 0 ≤ j.getD x 0 ∧ j.getD x 0 ≤ (x : Int)
def rootF (j : List Int) : Nat → Nat → Nat
  | 0, x => x
  | f + 1, x => if (j.getD x 0).toNat < x then rootF j f (j.getD x 0).toNat else x
def rootOf (j : List Int) (x : Nat) : Nat := rootF j (x + 1) x
theorem rootF_enough (j : List Int) : ∀ {f g x : Nat}, x < f → x < g → rootF j f x = rootF j g x
  | 0, _, _, h, _ => by omega
  | _, 0, _, _, h => by omega
  | f + 1, g + 1, x, hf, hg => by
    unfold rootF
    by_cases h : (j.getD x 0).toNat < x
    · rw [if_pos h, if_pos h]; exact rootF_enough j (by omega) (by omega)
    · rw [if_neg h, if_neg h]
theorem rootOf_step {j : List Int} {x : Nat} (h : (j.getD x 0).toNat < x) : rootOf j x = rootOf j (j.getD x 0).toNat := by
  unfold rootOf
  rw [show rootF j (x + 1) x = rootF j x (j.getD x 0).toNat by conv => lhs; unfold rootF; rw [if_pos h]]
  exact rootF_enough j h (by omega)
theorem rootOf_end {j : List Int} {x : Nat} (h : ¬ (j.getD x 0).toNat < x) : rootOf j x = x := by
  unfold rootOf rootF; rw [if_neg h]
theorem rootOf_le (j : List Int) (x : Nat) : rootOf j x ≤ x := by
  induction x using Nat.strongRecOn with
  | _ x ih =>
    by_cases h : (j.getD x 0).toNat < x
    · rw [rootOf_step h]; have := ih _ h; omega
    · rw [rootOf_end h]; exact Nat.le_refl _
theorem rootOf_root {j : List Int} (hF : Forest j) {x : Nat} (hx : x < j.length) : j.getD (rootOf j x) 0 = (rootOf j x : Int) := by
  induction x using Nat.strongRecOn with
  | _ x ih =>
    by_cases h : (j.getD x 0).toNat < x
    · rw [rootOf_step h]; exact ih _ h (by omega)
    · rw [rootOf_end h]; have := hF.up x hx; omega
theorem rootOf_fix {j : List Int} {x : Nat} (h : j.getD x 0 = (x : Int)) : rootOf j x = x := rootOf_end (by omega)
theorem rootOf_join {j : List Int} (hF : Forest j) {x y : Nat} (hx : x < j.length) (hr : j.getD x 0 = (x : Int)) (hry : j.getD y 0 = (y : Int)) (hy : y ≤ x) : Forest (j.set x (y : Int)) ∧ ∀ z, z < j.length → rootOf (j.set x (y : Int)) z = if rootOf j z = x then y else rootOf j z := by
  have hF' : Forest (j.set x (y : Int)) := ⟨fun z hz => by
    rw [List.length_set] at hz
    rw [getD_set hx]
    by_cases e : z = x
    · subst e; simp; omega
    · rw [if_neg e]; exact hF.up z hz⟩
  refine ⟨hF', fun z => ?_⟩
  induction z using Nat.strongRecOn with
  | _ z ih =>
    intro hz
    have hg : (j.set x (y : Int)).getD z 0 = if z = x then (y : Int) else j.getD z 0 := getD_set hx
    by_cases e : z = x
    · subst e
      rw [if_pos rfl] at hg
      rw [rootOf_fix hr, if_pos rfl]
      by_cases e2 : y = z
      · subst e2; exact rootOf_fix (by rw [hg])
      · rw [rootOf_step (by rw [hg]; simp; omega), hg, Int.toNat_natCast, ih y (by omega) (by omega), rootOf_fix hry, if_neg e2]
    · rw [if_neg e] at hg
      by_cases h : (j.getD z 0).toNat < z
      · rw [rootOf_step (by rw [hg]; exact h), hg, ih _ h (by omega), rootOf_step h]
      · rw [rootOf_end (by rw [hg]; exact h), rootOf_end h, if_neg e]
def RootK (j : List Int) (K : Nat → Nat → Bool) (n : Nat) : Prop := j.length = n ∧ Forest j ∧ ∀ a b, a < n → b < n → ((rootOf j a == rootOf j b) = K a b)
theorem RootK.start {j : List Int} {n : Nat} (hn : j.length = n) (h : ∀ i, i < n → j.getD i 0 = (i : Int)) : RootK j (joinK []) n := by
  refine ⟨hn, ⟨fun x hx => by rw [h x (by omega)]; omega⟩, fun a b ha hb => ?_⟩
  rw [rootOf_fix (h a ha), rootOf_fix (h b hb), joinK_nil]
theorem RootK.same {j j' : List Int} {K : Nat → Nat → Bool} {n : Nat} (h : RootK j K n) (hl : j'.length = j.length) (hF : Forest j') (hr : ∀ z, z < j.length → rootOf j' z = rootOf j z) : RootK j' K n :=
  ⟨by rw [hl]; exact h.1, hF, fun a b ha hb => by rw [hr a (by have := h.1; omega), hr b (by have := h.1; omega)]; exact h.2.2 a b ha hb⟩
theorem RootK.join {j : List Int} {K : Nat → Nat → Bool} {n p q : Nat} (h : RootK j K n) (hp : p < n) (hq : q < n) : RootK (j.set (max (rootOf j p) (rootOf j q)) ((min (rootOf j p) (rootOf j q) : Nat) : Int)) (stepK K p q) n := by
  obtain ⟨hl, hF, hk⟩ := h
  have lp := rootOf_le j p
  have lq := rootOf_le j q
  have rp := rootOf_root hF (x := p) (by omega)
  have rq := rootOf_root hF (x := q) (by omega)
  have hmx : j.getD (max (rootOf j p) (rootOf j q)) 0 = ((max (rootOf j p) (rootOf j q) : Nat) : Int) := by
    rcases Nat.le_total (rootOf j p) (rootOf j q) with h | h
    · rw [Nat.max_eq_right h]; exact rq
    · rw [Nat.max_eq_left h]; exact rp
  have hmn : j.getD (min (rootOf j p) (rootOf j q)) 0 = ((min (rootOf j p) (rootOf j q) : Nat) : Int) := by
    rcases Nat.le_total (rootOf j p) (rootOf j q) with h | h
    · rw [Nat.min_eq_left h]; exact rp
    · rw [Nat.min_eq_right h]; exact rq
  obtain ⟨k1, k2⟩ := rootOf_join hF (x := max (rootOf j p) (rootOf j q)) (y := min (rootOf j p) (rootOf j q)) (by omega) hmx hmn (by omega)
  refine ⟨by simpa using hl, k1, fun a b ha hb => ?_⟩
  rw [k2 a (by omega), k2 b (by omega)]
  unfold stepK
  rw [← hk a b ha hb, ← hk a p ha hp, ← hk q b hq hb, ← hk a q ha hq, ← hk p b hp hb, Bool.eq_iff_iff]
  simp only [beq_iff_eq, Bool.or_eq_true, Bool.and_eq_true]
  generalize rootOf j a = ra at *
  generalize rootOf j b = rb at *
  generalize rootOf j p = x at *
  generalize rootOf j q = y at *
  rcases Nat.le_total x y with h | h
  · rw [Nat.max_eq_right h, Nat.min_eq_left h]
    by_cases h1 : ra = y
    · by_cases h2 : rb = y
      · rw [if_pos h1, if_pos h2]; omega
      · rw [if_pos h1, if_neg h2]; omega
    · by_cases h2 : rb = y
      · rw [if_neg h1, if_pos h2]; omega
      · rw [if_neg h1, if_neg h2]; omega
  · rw [Nat.max_eq_left h, Nat.min_eq_right h]
    by_cases h1 : ra = x
    · by_cases h2 : rb = x
      · rw [if_pos h1, if_pos h2]; omega
      · rw [if_pos h1, if_neg h2]; omega
    · by_cases h2 : rb = x
      · rw [if_neg h1, if_pos h2]; omega
      · rw [if_neg h1, if_neg h2]; omega
theorem Ker.cls {lab : List Int} {K : Nat → Nat → Bool} {n : Nat} (h : Ker lab K n) : clsL (kerB lab) n = clsL K n := clsL_congr h
def joinL (n : Nat) (ps : List (Nat × Nat)) : List Int := clsL (joinK ps) n
@[simp] theorem length_joinL (n : Nat) (ps : List (Nat × Nat)) : (joinL n ps).length = n := by simp [joinL]
end Go.GL
namespace Go.Proofs.Ytdjodpdmbklfhaa
open Go Go.GL Go.RowKit Go.Proofs
theorem l01Own_c {a : Option Addr} {xs : List Int} {H : GHeap} (h : Ints H a xs := by assumption) (hl : xs.length ≤ 1048576 := by omega) :
    GCalls Try.prog 152 [.slice a xs.length xs.length] H (NewInts 2 H xs) := by
  refine GCalls.body (N := 6) (rs := [.tmp 2]) Try.func152 rfl rfl rfl rfl (fun Qx hret hend => ?_)
  refine .forget (fr' := [(0, some _)]) ⟨rfl, trivial⟩ ?_
  have hle := GHeap.Le.refl H
  have base_h := h
  refine .seq (fun K1 hK1 => .region (.mv rfl (.nil (hK1 _ _ (.seq (fun K2 hK2 => .region ?_))))))
  refine .r rfl rfl rfl (.litR rfl sl_22_A ze_2_E rfl rfl (by omega) (by omega) rfl rfl) ?_
  rintro _ H3 ⟨g3, rfl, le3, ge3, at3⟩
  have nx_H3 := le3.1
  replace hle := hle.trans le3
  have lt_at3 := GHeap.ltg at3
  replace h := base_h.mono hle
  replace at3 : GHeap.get H3 g3 = some (.row (ints []) 2 true) := at3
  refine .mv rfl ?_
  refine .r rfl rfl rfl (.appendL rfl sl_22_A ze_2_E rfl by_2_E sl_22_A rfl rfl (by assumption) (by first | assumption | exact Ints.of_get (by assumption)) (by first | omega | (simp <;> omega)) (by omega) (by omega)) ?_
  rintro _ H5 ⟨g5, rfl, st5, ge5, at5⟩
  have nx_H5 := st5.nx
  replace hle := hle.st st5 (fun k hk => ⟨by omega, trivial⟩)
  have lt_at5 := GHeap.ltg at5
  replace h := base_h.mono hle
  refine .mv rfl (.nil (hK2 _ _ ?_))
  refine .ret ?_
  refine hret _ _ ?_
  refine ⟨_, rfl, ?_⟩
  exact ⟨hle, _, by rw [Nat.zero_add], by simpa using at5, by omega⟩
theorem clone_c {a : Option Addr} {xs : List Int} {H : GHeap} (h : Ints H a xs := by assumption) (hl : xs.length ≤ 1048576 := by omega) :
    GCalls Try.prog 51 [.slice a xs.length xs.length] H (NewInts 2 H xs) := by
  refine GCalls.body (N := 6) (rs := [.tmp 2]) Try.func51 rfl rfl rfl rfl (fun Qx hret hend => ?_)
  refine .forget (fr' := [(0, some _)]) ⟨rfl, trivial⟩ ?_
  have hle := GHeap.Le.refl H
  have base_h := h
  refine .seq (fun K1 hK1 => .region (.mv rfl (.nil (hK1 _ _ (.seq (fun K2 hK2 => .region ?_))))))
  refine .r rfl rfl rfl (.litR rfl sl_22_A ze_2_E rfl rfl (by omega) (by omega) rfl rfl) ?_
  rintro _ H3 ⟨g3, rfl, le3, ge3, at3⟩
  have nx_H3 := le3.1
  replace hle := hle.trans le3
  have lt_at3 := GHeap.ltg at3
  replace h := base_h.mono hle
  replace at3 : GHeap.get H3 g3 = some (.row (ints []) 2 true) := at3
  refine .mv rfl ?_
  refine .r rfl rfl rfl (.appendL rfl sl_22_A ze_2_E rfl by_2_E sl_22_A rfl rfl (by assumption) (by first | assumption | exact Ints.of_get (by assumption)) (by first | omega | (simp <;> omega)) (by omega) (by omega)) ?_
  rintro _ H5 ⟨g5, rfl, st5, ge5, at5⟩
  have nx_H5 := st5.nx
  replace hle := hle.st st5 (fun k hk => ⟨by omega, trivial⟩)
  have lt_at5 := GHeap.ltg at5
  replace h := base_h.mono hle
  refine .mv rfl (.nil (hK2 _ _ ?_))
  refine .ret ?_
  refine hret _ _ ?_
  refine ⟨_, rfl, ?_⟩
  exact ⟨hle, _, by rw [Nat.zero_add], by simpa using at5, by omega⟩
end Go.Proofs.Ytdjodpdmbklfhaa
namespace Go.GL
structure Net where
  cand : Nat → List Int
  A : Nat
  sr : Nat → Nat
  tg : Nat → Nat
  sq : Nat → Int → Int → Bool
namespace Net
def ok (n : Net) (j : Nat) (q : List Int) : Bool := allN n.A fun a => !(max (n.sr a) (n.tg a) == j) || n.sq a (q.getD (n.sr a) 0) (q.getD (n.tg a) 0)
def fits (n : Net) (q : List Int) (x : Nat) : Bool := allN n.A fun a => (n.sr a != x && n.tg a != x) || decide (q.getD (n.sr a) 0 < 0) || decide (q.getD (n.tg a) 0 < 0) || n.sq a (q.getD (n.sr a) 0) (q.getD (n.tg a) 0)
def choices (n : Net) (c : List Int) (x : Nat) : List Int := (n.cand x).filter fun h => n.fits (c.set x h) x
end Net
def firstU (c : List Int) : Option Nat := firstN c.length fun i => c.getD i 0 == -1
def cntU (c : List Int) : Nat := ((List.range c.length).filter fun i => c.getD i 0 == -1).length
def Net.stuck (n : Net) (c : List Int) : Bool := (List.range c.length).any fun y => c.getD y 0 == -1 && (n.choices c y).isEmpty
def Net.goF (n : Net) : Nat → List Int → List (List Int)
  | 0, c => [c]
  | f + 1, c => match firstU c with
    | none => [c]
    | some x => bif n.stuck c then [] else (n.choices c x).flatMap fun h => n.goF f (c.set x h)
def Net.go (n : Net) (c : List Int) : List (List Int) := n.goF (cntU c) c
theorem firstU_some {c : List Int} {x : Nat} (h : firstU c = some x) : x < c.length ∧ c.getD x 0 = -1 ∧ ∀ j, j < x → ¬ c.getD j 0 = -1 := by
  unfold firstU firstN at h
  rw [List.find?_range_eq_some] at h
  exact ⟨List.mem_range.1 h.2.1, by simpa using h.1, fun j hj => by simpa using h.2.2 j hj⟩
theorem firstU_none {c : List Int} (h : firstU c = none) : ∀ j, j < c.length → ¬ c.getD j 0 = -1 := by
  unfold firstU firstN at h
  rw [List.find?_range_eq_none] at h
  intro j hj; simpa using h j hj
theorem firstU_of {c : List Int} {x : Nat} (hx : x < c.length) (h : c.getD x 0 = -1) (hb : ∀ j, j < x → ¬ c.getD j 0 = -1) : firstU c = some x := firstN_some hx (by simpa using h) fun j hj => by simpa using hb j hj
theorem firstU_no {c : List Int} (h : ∀ j, j < c.length → ¬ c.getD j 0 = -1) : firstU c = none := firstN_none fun j hj => by simpa using h j hj
theorem filter_length_lt {p q : Nat → Bool} {n x : Nat} (hx : x < n) (hp : p x = false) (hq : q x = true) (h : ∀ i, i < n → i ≠ x → p i = q i) : ((List.range n).filter p).length + 1 = ((List.range n).filter q).length := by
  induction n with
  | zero => omega
  | succ n ih =>
    rw [List.range_succ, List.filter_append, List.filter_append, List.length_append, List.length_append]
    by_cases e : x = n
    · subst e
      have : (List.range x).filter p = (List.range x).filter q := List.filter_congr fun i hi => by have := List.mem_range.1 hi; exact h i (by omega) (by omega)
      rw [this]
      simp [hp, hq]
    · have ih' := ih (by omega) fun i hi hne => h i (by omega) hne
      have e2 : p n = q n := h n (by omega) (Ne.symm e)
      have e3 : (List.filter p [n]).length = (List.filter q [n]).length := by simp [List.filter_cons, e2]
      omega
theorem cntU_set {c : List Int} {x : Nat} {h : Int} (hx : x < c.length) (hc : c.getD x 0 = -1) (hh : h ≠ -1) : cntU (c.set x h) + 1 = cntU c := by
  unfold cntU
  rw [List.length_set]
  refine filter_length_lt hx ?_ (by simpa using hc) fun i hi hne => ?_
  · rw [getD_set hx, if_pos rfl]; simpa using hh
  · rw [getD_set hx, if_neg hne]
theorem cntU_pos {c : List Int} {x : Nat} (hx : x < c.length) (hc : c.getD x 0 = -1) : 0 < cntU c := by
  have : x ∈ (List.range c.length).filter fun i => c.getD i 0 == -1 := List.mem_filter.2 ⟨List.mem_range.2 hx, by simpa using hc⟩
  exact List.length_pos_of_mem this
theorem flatMap_congr' {α β : Type} {l : List α} {f g : α → List β} (h : ∀ x ∈ l, f x = g x) : l.flatMap f = l.flatMap g := by
  induction l with
  | nil => rfl
  | cons a l ih => rw [List.flatMap_cons, List.flatMap_cons, h a (by simp), ih fun x hx => h x (by simp [hx])]
theorem Net.goF_eq {n : Net} (hc : ∀ x, ∀ h ∈ n.cand x, 0 ≤ h) : ∀ {f : Nat} {c : List Int}, cntU c ≤ f → n.goF f c = n.goF (cntU c) c
  | 0, c, h => by rw [Nat.le_zero.1 h]
  | f + 1, c, h => by
    cases hu : firstU c with
    | none =>
      have : cntU c = 0 := by
        unfold cntU
        rw [List.length_eq_zero_iff, List.filter_eq_nil_iff]
        intro i hi
        simpa using firstU_none hu i (List.mem_range.1 hi)
      rw [this]
      unfold goF
      rw [hu]
    | some x =>
      obtain ⟨h1, h2, h3⟩ := firstU_some hu
      have hp := cntU_pos h1 h2
      obtain ⟨m, hm⟩ : ∃ m, cntU c = m + 1 := ⟨cntU c - 1, by omega⟩
      rw [hm]
      unfold goF
      rw [hu]
      simp only
      congr 1
      refine flatMap_congr' fun y hy => ?_
      have hy0 : 0 ≤ y := hc x y (List.mem_filter.1 hy).1
      have hs := cntU_set h1 h2 (h := y) (by omega)
      rw [goF_eq hc (f := f) (by omega), goF_eq hc (f := m) (by omega)]
theorem Net.go_eq {n : Net} (hc : ∀ x, ∀ h ∈ n.cand x, 0 ≤ h) {c : List Int} : n.go c = match firstU c with
    | none => [c]
    | some x => bif n.stuck c then [] else (n.choices c x).flatMap fun h => n.go (c.set x h) := by
  have h0 : n.go c = n.goF (cntU c + 1) c := (Net.goF_eq hc (Nat.le_succ _)).symm
  rw [h0]
  unfold goF
  cases hu : firstU c with
  | none => rfl
  | some x =>
    obtain ⟨h1, h2, h3⟩ := firstU_some hu
    simp only
    congr 1
    refine flatMap_congr' fun y hy => ?_
    have hy0 : 0 ≤ y := hc x y (List.mem_filter.1 hy).1
    have hs := cntU_set h1 h2 (h := y) (by omega)
    rw [Net.goF_eq hc (f := cntU c) (by omega)]
    rfl
theorem Net.stuck_iff {n : Net} {c : List Int} : n.stuck c = true ↔ ∃ y, y < c.length ∧ c.getD y 0 = -1 ∧ n.choices c y = [] := by
  unfold stuck
  rw [List.any_eq_true]
  simp only [List.mem_range, Bool.and_eq_true, beq_iff_eq, List.isEmpty_iff]
structure Net.Good (n : Net) (N : Nat) : Prop where
  pos : ∀ x, ∀ h ∈ n.cand x, 0 ≤ h
  sr : ∀ a, a < n.A → n.sr a < N
  tg : ∀ a, a < n.A → n.tg a < N
end Go.GL
namespace Go.GL

structure StM (lo hi : Nat) (H H' : GHeap) : Prop where
  nx : H.next ≤ H'.next
  same : ∀ k o, ¬ (lo ≤ k ∧ k < hi) → H.get k = some o → H'.get k = some o
  ins : ∀ k o, H.get k = some o → ∃ o', H'.get k = some o' ∧ (o' = o ∨ ∃ xs ys e, o = .row (ints xs) e true ∧ o' = .row (ints ys) e true ∧ ys.length = xs.length)
theorem StM.refl (lo hi : Nat) (H : GHeap) : StM lo hi H H := ⟨Nat.le_refl _, fun _ _ _ h => h, fun _ o h => ⟨o, h, .inl rfl⟩⟩
theorem StM.of_le {lo hi : Nat} {H H' : GHeap} (h : H.Le H') : StM lo hi H H' := ⟨h.1, fun k o _ ho => h.2 k o ho, fun _ o ho => ⟨o, h.2 _ _ ho, .inl rfl⟩⟩
theorem ints_inj {xs ys : List Int} (h : ints xs = ints ys) : xs = ys := by
  unfold ints at h
  exact (List.map_inj_right (fun a b hab => by cases hab; rfl)).1 h
theorem StM.trans {lo hi : Nat} {A B C : GHeap} (h : StM lo hi A B) (k : StM lo hi B C) : StM lo hi A C where
  nx := Nat.le_trans h.nx k.nx
  same g o hg ho := k.same g o hg (h.same g o hg ho)
  ins g o ho := by
    obtain ⟨o1, h1, h2⟩ := h.ins g o ho
    obtain ⟨o2, k1, k2⟩ := k.ins g o1 h1
    refine ⟨o2, k1, ?_⟩
    rcases h2 with rfl | ⟨xs, ys, e, rfl, rfl, hl⟩
    · exact k2
    · rcases k2 with rfl | ⟨us, vs, e', h3, rfl, hl'⟩
      · exact .inr ⟨xs, ys, e, rfl, rfl, hl⟩
      · injection h3 with h3 h4 h5
        have := ints_inj h3
        subst this
        subst h4
        exact .inr ⟨xs, vs, _, rfl, rfl, by rw [hl', hl]⟩
theorem StM.le_left {lo hi : Nat} {A B C : GHeap} (h : A.Le B) (k : StM lo hi B C) (hA : A.next ≤ lo) : A.Le C :=
  ⟨Nat.le_trans h.1 k.nx, fun g o ho => k.same g o (by have := GHeap.ltg ho; omega) (h.2 g o ho)⟩
theorem Keep.stM {b lo hi : Nat} {H0 H H' : GHeap} (k : Keep b H0 H) (h : StM lo hi H H') (hg : ∀ k, b ≤ k → k < H0.next → ¬ (lo ≤ k ∧ k < hi)) : Keep b H0 H' := fun g o hb h1 => h.same g o (hg g hb (GHeap.ltg h1)) (k g o hb h1)

def IntsW (lo hi : Nat) (H : GHeap) (a : Option Addr) (n : Nat) : Prop := n = 0 ∨ ∃ g e xs, a = some ⟨g, 0, none⟩ ∧ lo ≤ g ∧ g < hi ∧ H.get g = some (.row (ints xs) e true) ∧ xs.length = n
theorem IntsW.stm {lo hi : Nat} {H H' : GHeap} {a : Option Addr} {n : Nat} (h : IntsW lo hi H a n) (s : StM lo hi H H') : IntsW lo hi H' a n := by
  rcases h with h | ⟨g, e, xs, h1, h2, h3, h4, h5⟩
  · exact .inl h
  · obtain ⟨o', k1, k2⟩ := s.ins g _ h4
    rcases k2 with rfl | ⟨us, vs, e', h6, rfl, hl⟩
    · exact .inr ⟨g, e, xs, h1, h2, h3, k1, h5⟩
    · injection h6 with h6 h7 h8
      have := ints_inj h6
      subst this
      exact .inr ⟨g, e', vs, h1, h2, h3, k1, by rw [hl, h5]⟩
theorem IntsW.of_at {b : Nat} {H0 H : GHeap} {a : Option Addr} {xs : List Int} (h : IntsAt b H0 a xs) (k : Keep b H0 H) : IntsW b H0.next H a xs.length := by
  obtain ⟨g, e, h1, h2, h3⟩ := h
  exact .inr ⟨g, e, xs, h1, h2, GHeap.ltg h3, k g _ h2 h3, rfl⟩
def HdGe (b : Nat) (a : Option Addr) (n : Nat) : Prop := n = 0 ∨ ∃ g o, a = some ⟨g, o, none⟩ ∧ b ≤ g
theorem HdGe.le {b b' : Nat} {a : Option Addr} {n : Nat} (h : HdGe b a n) (hb : b' ≤ b) : HdGe b' a n := h.imp id fun ⟨g, o, h1, h2⟩ => ⟨g, o, h1, Nat.le_trans hb h2⟩
theorem SlA.keep {b b' : Nat} {H H' : GHeap} {a : Option Addr} {n : Nat} {f : Nat → Value} (h : SlA H a n f) (hd : HdGe b a n) (k : Keep b' H H') (hb : b' ≤ b) : SlA H' a n f := by
  rcases hd with h0 | ⟨g, o, rfl, hg⟩
  · exact .inl h0
  · rcases h with h0 | ⟨g', o', e, hc⟩
    · exact .inl h0
    · cases e
      refine .inr ⟨g, o, rfl, fun i hi => ?_⟩
      have h1 := hc i hi
      unfold GHeap.cell at h1 ⊢
      cases hx : H.get g with
      | none => rw [hx] at h1; cases h1
      | some x => rw [hx] at h1; rw [k g x (by omega) hx]; exact h1
def IntssW (lo hi : Nat) (H : GHeap) (a : Option Addr) (xss : List (List Int)) (r : Nat → Option Addr) : Prop :=
  SlA H a xss.length (fun i => .slice (r i) (xss.getD i []).length (xss.getD i []).length) ∧ (∀ i, i < xss.length → IntsW lo hi H (r i) (xss.getD i []).length) ∧ HdGe lo a xss.length
theorem SlA.stm {lo hi : Nat} {H H' : GHeap} {a : Option Addr} {n : Nat} {f : Nat → Value} (h : SlA H a n f) (s : StM lo hi H H') (hf : ∀ i m, f i ≠ .int .i64 m) : SlA H' a n f := by
  rcases h with h | ⟨g, o, e, h⟩
  · exact .inl h
  · refine .inr ⟨g, o, e, fun i hi => ?_⟩
    have hc := h i hi
    unfold GHeap.cell at hc ⊢
    split at hc
    · rename_i cs el own hg
      obtain ⟨o', k1, k2⟩ := s.ins g _ hg
      rw [k1]
      rcases k2 with rfl | ⟨us, vs, e', h6, rfl, hl⟩
      · exact hc
      · injection h6 with h6 h7 h8
        subst h6
        exfalso
        simp only [ints, List.getElem?_map, Option.map_eq_some_iff] at hc
        obtain ⟨m, _, hm⟩ := hc
        exact hf i m hm.symm
    · cases hc
theorem IntssW.stm {lo hi : Nat} {H H' : GHeap} {a : Option Addr} {xss : List (List Int)} {r : Nat → Option Addr} (h : IntssW lo hi H a xss r) (s : StM lo hi H H') : IntssW lo hi H' a xss r :=
  ⟨h.1.stm s fun i m e => (by cases e), fun i hi => (h.2.1 i hi).stm s, h.2.2⟩
theorem IntssW.of_at {b : Nat} {H0 H : GHeap} {a : Option Addr} {xss : List (List Int)} {r : Nat → Option Addr} (h : IntssAt b H0 a xss r) (k : Keep b H0 H) : IntssW b H0.next H a xss r :=
  ⟨(h.keep k (Nat.le_refl _)).intss.1, fun i hi => by obtain ⟨g, e, cs, _, _, _, _, _, h6⟩ := h; exact .of_at (h6 i hi) k, by obtain ⟨g, e, cs, h1, h2, _⟩ := h; exact .inr ⟨g, 0, h1, h2⟩⟩
def sumL : List (List Int) → Nat
  | [] => 0
  | xs :: r => xs.length + sumL r
theorem sumL_take_succ {xss : List (List Int)} {k : Nat} (h : k < xss.length) : sumL (xss.take (k + 1)) = sumL (xss.take k) + (xss.getD k []).length := by
  induction xss generalizing k with
  | nil => simp at h
  | cons x r ih =>
    cases k with
    | zero => simp [sumL]
    | succ k =>
      have := ih (k := k) (by simpa using h)
      simp only [List.take_succ_cons, sumL, List.getD_cons_succ]
      omega
theorem sumL_le {m : Nat} : ∀ {xss : List (List Int)}, (∀ i, (xss.getD i []).length ≤ m) → sumL xss ≤ xss.length * m
  | [], _ => by simp [sumL]
  | x :: r, h => by
    have h0 := h 0
    have := sumL_le (xss := r) fun i => by simpa using h (i + 1)
    simp only [sumL, List.length_cons, Nat.add_mul]
    simp at h0
    omega
theorem sumL_take_le {xss : List (List Int)} {k : Nat} : sumL (xss.take k) ≤ sumL xss := by
  induction xss generalizing k with
  | nil => simp
  | cons x r ih =>
    cases k with
    | zero => simp [sumL]
    | succ k => simp only [List.take_succ_cons, sumL]; have := ih (k := k); omega
def Cat.total (c : Cat) : Nat := c.src.length + (c.tgt.length + (c.idn.length + sumL c.comp))
def CatW (lo hi : Nat) (H : GHeap) (c : Cat) (p : CatP) : Prop := IntsW lo hi H p.a1 c.src.length ∧ IntsW lo hi H p.a2 c.tgt.length ∧ IntsW lo hi H p.a3 c.idn.length ∧ IntssW lo hi H p.a4 c.comp p.r
theorem CatW.stm {lo hi : Nat} {H H' : GHeap} {c : Cat} {p : CatP} (h : CatW lo hi H c p) (s : StM lo hi H H') : CatW lo hi H' c p := ⟨h.1.stm s, h.2.1.stm s, h.2.2.1.stm s, h.2.2.2.stm s⟩
theorem CatW.of_at {b : Nat} {H0 H : GHeap} {c : Cat} {p : CatP} (h : CatAt b H0 c p) (k : Keep b H0 H) : CatW b H0.next H c p := ⟨.of_at h.1 k, .of_at h.2.1 k, .of_at h.2.2.1 k, .of_at h.2.2.2 k⟩
def Fun.total (f : Fun) : Nat := f.s.total + (f.t.total + (f.ob.length + f.ar.length))
def FunW (lo hi : Nat) (H : GHeap) (f : Fun) (p : FunP) : Prop := CatW lo hi H f.s p.s ∧ CatW lo hi H f.t p.t ∧ IntsW lo hi H p.b1 f.ob.length ∧ IntsW lo hi H p.b2 f.ar.length
theorem FunW.stm {lo hi : Nat} {H H' : GHeap} {c : Fun} {p : FunP} (h : FunW lo hi H c p) (s : StM lo hi H H') : FunW lo hi H' c p := ⟨h.1.stm s, h.2.1.stm s, h.2.2.1.stm s, h.2.2.2.stm s⟩
theorem FunW.of_at {b : Nat} {H0 H : GHeap} {c : Fun} {p : FunP} (h : FunAt b H0 c p) (k : Keep b H0 H) : FunW b H0.next H c p := ⟨.of_at h.1 k, .of_at h.2.1 k, .of_at h.2.2.1 k, .of_at h.2.2.2 k⟩
def Con.total (c : Con) : Nat := c.lg.length
def ConW (lo hi : Nat) (H : GHeap) (c : Con) (p : ConP) : Prop := IntsW lo hi H p.a1 c.lg.length
theorem ConW.stm {lo hi : Nat} {H H' : GHeap} {c : Con} {p : ConP} (h : ConW lo hi H c p) (s : StM lo hi H H') : ConW lo hi H' c p := IntsW.stm h s
theorem ConW.of_at {b : Nat} {H0 H : GHeap} {c : Con} {p : ConP} (h : ConAt b H0 c p) (k : Keep b H0 H) : ConW b H0.next H c p := IntsW.of_at h k

def seqL (k : Int) (n : Nat) : List Int := (List.range n).map fun (i : Nat) => k + (i : Int)
@[simp] theorem length_seqL (k : Int) (n : Nat) : (seqL k n).length = n := by simp [seqL]
theorem seqL_get {k : Int} {n i : Nat} (h : i < n) : (seqL k n).getD i 0 = k + i := by simp [seqL, List.getD_eq_getElem?_getD, h]
abbrev Leaf := Option Addr × Nat
def lvBlk : Leaf → List Nat
  | (some a, _ + 1) => [a.block]
  | _ => []
def lvBlks (ls : List Leaf) : List Nat := ls.flatMap lvBlk
def lvSum : List Leaf → Nat
  | [] => 0
  | l :: r => l.2 + lvSum r
def Live1 (b : Nat) (H : GHeap) (l : Leaf) : Prop := l.2 = 0 ∨ ∃ g e xs, l.1 = some ⟨g, 0, none⟩ ∧ b ≤ g ∧ H.get g = some (.row (ints xs) e true) ∧ xs.length = l.2
def Lives (b : Nat) (H : GHeap) (ls : List Leaf) : Prop := ∀ l ∈ ls, Live1 b H l
def Held (b : Nat) (H : GHeap) : List Leaf → Int → Prop
  | [], _ => True
  | l :: r, k => (l.2 = 0 ∨ ∃ g e, l.1 = some ⟨g, 0, none⟩ ∧ b ≤ g ∧ H.get g = some (.row (ints (seqL k l.2)) e true)) ∧ Held b H r (k + l.2)
theorem Held.keep0 {b : Nat} {H H' : GHeap} : ∀ {ls : List Leaf} {k : Int}, Held b H ls k → Keep b H H' → Held b H' ls k
  | [], _, _, _ => trivial
  | _ :: _, _, h, hk => ⟨h.1.imp id fun ⟨g, e, h1, h2, h3⟩ => ⟨g, e, h1, h2, hk g _ h2 h3⟩, Held.keep0 h.2 hk⟩
theorem Held.append {b : Nat} {H : GHeap} : ∀ {ls ms : List Leaf} {k : Int}, Held b H ls k → Held b H ms (k + lvSum ls) → Held b H (ls ++ ms) k
  | [], _, _, _, h => by simpa [lvSum] using h
  | l :: r, ms, k, h, h' => ⟨h.1, Held.append h.2 (by rw [show k + (l.2 : Int) + (lvSum r : Int) = k + (lvSum (l :: r) : Int) by simp [lvSum]; omega]; exact h')⟩
structure StB (bs : List Nat) (H H' : GHeap) : Prop where
  nx : H.next ≤ H'.next
  same : ∀ k o, ¬ k ∈ bs → H.get k = some o → H'.get k = some o
theorem StB.refl (bs : List Nat) (H : GHeap) : StB bs H H := ⟨Nat.le_refl _, fun _ _ _ h => h⟩
theorem StB.trans {bs cs : List Nat} {A B C : GHeap} (h : StB bs A B) (k : StB cs B C) : StB (bs ++ cs) A C :=
  ⟨Nat.le_trans h.nx k.nx, fun g o hg ho => k.same g o (fun hc => hg (List.mem_append_right _ hc)) (h.same g o (fun hc => hg (List.mem_append_left _ hc)) ho)⟩
theorem Live1.blk {b : Nat} {H : GHeap} {l : Leaf} (h : Live1 b H l) {g : Nat} {e : TypeId} {xs : List Int} (h1 : l.1 = some ⟨g, 0, none⟩) (hn : l.2 ≠ 0) : g ∈ lvBlk l := by
  obtain ⟨a, n⟩ := l
  simp only at h1 hn
  subst h1
  cases n with
  | zero => exact absurd rfl hn
  | succ n => simp [lvBlk]
theorem Lives.stB {b : Nat} {H H' : GHeap} {ls : List Leaf} {bs : List Nat} (h : Lives b H ls) (s : StB bs H H') (hd : ∀ g ∈ lvBlks ls, ¬ g ∈ bs) : Lives b H' ls := fun l hl => by
  by_cases hn : l.2 = 0
  · exact .inl hn
  · rcases h l hl with h0 | ⟨g, e, xs, h1, h2, h3, h4⟩
    · exact .inl h0
    · exact .inr ⟨g, e, xs, h1, h2, s.same g _ (hd g (List.mem_flatMap.2 ⟨l, hl, (h l hl).blk (e := e) (xs := xs) h1 hn⟩)) h3, h4⟩
theorem Live1.keep {b : Nat} {H H' : GHeap} {l : Leaf} (h : Live1 b H l) (k : Keep b H H') : Live1 b H' l := h.imp id fun ⟨g, e, xs, h1, h2, h3, h4⟩ => ⟨g, e, xs, h1, h2, k g _ h2 h3, h4⟩
theorem Lives.keep {b : Nat} {H H' : GHeap} {ls : List Leaf} (h : Lives b H ls) (k : Keep b H H') : Lives b H' ls := fun l hl => (h l hl).keep k
theorem Held.stB {b : Nat} {H H' : GHeap} {bs : List Nat} (s : StB bs H H') : ∀ {ls : List Leaf} {k : Int}, Held b H ls k → (∀ g ∈ lvBlks ls, ¬ g ∈ bs) → Held b H' ls k
  | [], _, _, _ => trivial
  | l :: r, k, h, hd => by
    refine ⟨?_, Held.stB s h.2 fun g hg => hd g (by simp only [lvBlks, List.flatMap_cons, List.mem_append]; exact .inr hg)⟩
    by_cases hn : l.2 = 0
    · exact .inl hn
    · rcases h.1 with h0 | ⟨g, e, h1, h2, h3⟩
      · exact .inl h0
      · have hl : Live1 b H l := .inr ⟨g, e, _, h1, h2, h3, by simp⟩
        exact .inr ⟨g, e, h1, h2, s.same g _ (hd g (by simp only [lvBlks, List.flatMap_cons, List.mem_append]; exact .inl (hl.blk (e := e) (xs := seqL k l.2) h1 hn))) h3⟩
theorem Lives.app {b : Nat} {H : GHeap} {ls ms : List Leaf} (h : Lives b H ls) (h' : Lives b H ms) : Lives b H (ls ++ ms) := fun l hl => (List.mem_append.1 hl).elim (h l) (h' l)
theorem lvBlks_append (ls ms : List Leaf) : lvBlks (ls ++ ms) = lvBlks ls ++ lvBlks ms := by simp [lvBlks]
theorem lvSum_append : ∀ (ls ms : List Leaf), lvSum (ls ++ ms) = lvSum ls + lvSum ms
  | [], ms => by simp [lvSum]
  | l :: r, ms => by simp only [List.cons_append, lvSum, lvSum_append r ms]; omega

def IntsR (b : Nat) (H : GHeap) (a : Option Addr) (xs : List Int) : Prop := (xs = [] ∧ a = none) ∨ IntsAt b H a xs
theorem IntsR.keep {b b' : Nat} {H H' : GHeap} {a : Option Addr} {xs : List Int} (h : IntsR b H a xs) (k : Keep b' H H') (hb : b' ≤ b) : IntsR b' H' a xs := h.imp id fun h => h.keep k hb
theorem IntsR.ints {b : Nat} {H : GHeap} {a : Option Addr} {xs : List Int} (h : IntsR b H a xs) : Ints H a xs := by
  rcases h with ⟨rfl, _⟩ | h
  · exact .inl rfl
  · exact h.ints
theorem IntsR.live {b : Nat} {H : GHeap} {a : Option Addr} {xs : List Int} (h : IntsR b H a xs) : Live1 b H (a, xs.length) := by
  rcases h with ⟨rfl, _⟩ | ⟨g, e, h1, h2, h3⟩
  · exact .inl rfl
  · exact .inr ⟨g, e, xs, h1, h2, h3, rfl⟩
def Con.leaves (c : Con) (p : ConP) : List Leaf := [(p.a1, c.lg.length)]
def ConR (b : Nat) (H : GHeap) (c : Con) (p : ConP) : Prop := IntsR b H p.a1 c.lg
theorem ConR.keep {b b' : Nat} {H H' : GHeap} {c : Con} {p : ConP} (h : ConR b H c p) (k : Keep b' H H') (hb : b' ≤ b) : ConR b' H' c p := IntsR.keep h k hb
theorem ConR.inn {b : Nat} {H : GHeap} {c : Con} {p : ConP} (h : ConR b H c p) : c.In H p := IntsR.ints h
theorem Held.keep {b b' : Nat} {H H' : GHeap} {ls : List Leaf} {k : Int} (h : Held b H ls k) (hk : Keep b' H H') (hb : b' ≤ b) : Held b H' ls k := h.keep0 fun g o hg ho => hk g o (by omega) ho
theorem Held.app {b : Nat} {H : GHeap} : ∀ {ls ms : List Leaf} {k : Int}, Held b H (ls ++ ms) k → Held b H ls k ∧ Held b H ms (k + lvSum ls)
  | [], ms, k, h => ⟨trivial, by simpa [lvSum] using h⟩
  | l :: r, ms, k, h => by
    obtain ⟨h1, h2⟩ := Held.app (ls := r) h.2
    exact ⟨⟨h.1, h1⟩, by rw [show k + (lvSum (l :: r) : Int) = k + (l.2 : Int) + (lvSum r : Int) by simp [lvSum]; omega]; exact h2⟩
theorem Held.ints {b : Nat} {H : GHeap} {a : Option Addr} {n : Nat} {k : Int} (h : Held b H [(a, n)] k) : Ints H a (seqL k n) := by
  rcases h.1 with h0 | ⟨g, e, h1, h2, h3⟩
  · simp only at h0; subst h0; exact .inl (by simp)
  · simp only at h1 h3; subst h1; exact Ints.of_get h3

structure Marked (lo hi : Nat) (H H' : GHeap) (ls : List Leaf) (k : Int) : Prop where
  stm : StM lo hi H H'
  stb : StB (lvBlks ls) H H'
  held : (lvBlks ls).Nodup → Held lo H' ls k
theorem Marked.nil (lo hi : Nat) (H : GHeap) (k : Int) : Marked lo hi H H [] k := ⟨.refl _ _ _, .refl _ _, fun _ => trivial⟩
theorem Marked.app {lo hi : Nat} {A B C : GHeap} {ls ms : List Leaf} {k : Int} (h : Marked lo hi A B ls k) (h' : Marked lo hi B C ms (k + lvSum ls)) : Marked lo hi A C (ls ++ ms) k where
  stm := h.stm.trans h'.stm
  stb := by rw [lvBlks_append]; exact h.stb.trans h'.stb
  held := fun nd => by
    rw [lvBlks_append, List.nodup_append] at nd
    exact ((h.held nd.1).stB h'.stb fun g hg hg' => nd.2.2 g hg g hg' rfl).append (h'.held nd.2.1)
theorem Marked.le_left {lo hi : Nat} {A B C : GHeap} {ls : List Leaf} {k : Int} (h : A.Le B) (m : Marked lo hi B C ls k) : Marked lo hi A C ls k :=
  ⟨⟨Nat.le_trans h.1 m.stm.nx, fun g o hg ho => m.stm.same g o hg (h.2 g o ho), fun g o ho => m.stm.ins g o (h.2 g o ho)⟩, ⟨Nat.le_trans h.1 m.stb.nx, fun g o hg ho => m.stb.same g o hg (h.2 g o ho)⟩, m.held⟩
theorem Marked.one {lo hi g : Nat} {H H' : GHeap} {e : TypeId} {xs : List Int} {k : Int} (hlo : lo ≤ g) (hhi : g < hi) (h0 : H.get g = some (.row (ints xs) e true)) (s : St [g] H H') (h1 : H'.get g = some (.row (ints (seqL k xs.length)) e true)) (hn : xs.length ≠ 0) :
    Marked lo hi H H' [(some ⟨g, 0, none⟩, xs.length)] k where
  stm := ⟨s.nx, fun i o hi ho => s.same i o ⟨by omega, trivial⟩ ho, fun i o ho => by
    by_cases hi : i = g
    · subst hi
      rw [h0] at ho; cases ho
      exact ⟨_, h1, .inr ⟨xs, seqL k xs.length, e, rfl, rfl, by simp⟩⟩
    · exact ⟨o, s.same i o ⟨hi, trivial⟩ ho, .inl rfl⟩⟩
  stb := ⟨s.nx, fun i o hi ho => s.same i o ⟨fun e' => hi (by
    subst e'
    cases hx : xs.length with
    | zero => exact absurd hx hn
    | succ m => simp [lvBlks, lvBlk]), trivial⟩ ho⟩
  held := fun _ => ⟨.inr ⟨g, e, rfl, hlo, h1⟩, trivial⟩
def rowsL (r : Nat → Option Addr) (xss : List (List Int)) (n : Nat) : List Leaf := (List.range n).map fun i => (r i, (xss.getD i []).length)
theorem rowsL_succ (r : Nat → Option Addr) (xss : List (List Int)) (n : Nat) : rowsL r xss (n + 1) = rowsL r xss n ++ [(r n, (xss.getD n []).length)] := by simp [rowsL, List.range_succ]
theorem lvSum_rowsL (r : Nat → Option Addr) (xss : List (List Int)) : ∀ n, n ≤ xss.length → lvSum (rowsL r xss n) = sumL (xss.take n)
  | 0, _ => by simp [rowsL, lvSum, sumL]
  | n + 1, h => by rw [rowsL_succ, lvSum_append, lvSum_rowsL r xss n (by omega), sumL_take_succ (by omega)]; simp [lvSum]
def Cat.leaves (c : Cat) (p : CatP) : List Leaf := [(p.a1, c.src.length)] ++ ([(p.a2, c.tgt.length)] ++ ([(p.a3, c.idn.length)] ++ rowsL p.r c.comp c.comp.length))
theorem Cat.lvSum_leaves (c : Cat) (p : CatP) : lvSum (c.leaves p) = c.total := by
  simp only [Cat.leaves, lvSum_append, lvSum, lvSum_rowsL p.r c.comp _ (Nat.le_refl _), List.take_length, Cat.total, Nat.add_zero]
def Fun.leaves (f : Fun) (p : FunP) : List Leaf := f.s.leaves p.s ++ (f.t.leaves p.t ++ ([(p.b1, f.ob.length)] ++ [(p.b2, f.ar.length)]))
theorem Fun.lvSum_leaves (c : Fun) (p : FunP) : lvSum (c.leaves p) = c.total := by
  simp only [Fun.leaves, lvSum_append, lvSum, Cat.lvSum_leaves, Fun.total, Nat.add_zero]
theorem Con.lvSum_leaves (c : Con) (p : ConP) : lvSum (c.leaves p) = c.total := by simp [Con.leaves, lvSum, Con.total]
theorem Cat.total_le {c : Cat} (h : c.Small) : c.total ≤ 3 * 1048576 + 1048576 * 1048576 := by
  obtain ⟨h1, h2, h3, h4, h5, _⟩ := h
  have := sumL_le (m := 1048576) h5
  have h6 : c.comp.length * 1048576 ≤ 1048576 * 1048576 := Nat.mul_le_mul_right _ h4
  unfold Cat.total
  omega
theorem Marked.app' {lo hi : Nat} {A B C : GHeap} {ls ms : List Leaf} {k k' : Int} (h : Marked lo hi A B ls k) (h' : Marked lo hi B C ms k') (e : k' = k + lvSum ls) : Marked lo hi A C (ls ++ ms) k := by subst e; exact h.app h'
theorem IntsW.of_r {b : Nat} {H0 H : GHeap} {a : Option Addr} {xs : List Int} (h : IntsR b H0 a xs) (k : Keep b H0 H) : IntsW b H0.next H a xs.length := by
  rcases h with ⟨rfl, _⟩ | h
  · exact .inl rfl
  · exact .of_at h k
theorem ConW.of_r {b : Nat} {H0 H : GHeap} {c : Con} {p : ConP} (h : ConR b H0 c p) (k : Keep b H0 H) : ConW b H0.next H c p := IntsW.of_r h k
theorem IntsW.keep {lo lo' hi : Nat} {H H' : GHeap} {a : Option Addr} {n : Nat} (h : IntsW lo hi H a n) (k : Keep lo' H H') (hb : lo' ≤ lo) : IntsW lo hi H' a n := h.imp id fun ⟨g, e, xs, h1, h2, h3, h4, h5⟩ => ⟨g, e, xs, h1, h2, h3, k g _ (by omega) h4, h5⟩
theorem IntssW.keep {lo lo' hi : Nat} {H H' : GHeap} {a : Option Addr} {xss : List (List Int)} {r : Nat → Option Addr} (h : IntssW lo hi H a xss r) (k : Keep lo' H H') (hb : lo' ≤ lo) : IntssW lo hi H' a xss r := ⟨h.1.keep h.2.2 k hb, fun i hi => (h.2.1 i hi).keep k hb, h.2.2⟩
theorem CatW.keep {lo lo' hi : Nat} {H H' : GHeap} {c : Cat} {p : CatP} (h : CatW lo hi H c p) (k : Keep lo' H H') (hb : lo' ≤ lo) : CatW lo hi H' c p := ⟨h.1.keep k hb, h.2.1.keep k hb, h.2.2.1.keep k hb, h.2.2.2.keep k hb⟩
theorem FunW.keep {lo lo' hi : Nat} {H H' : GHeap} {c : Fun} {p : FunP} (h : FunW lo hi H c p) (k : Keep lo' H H') (hb : lo' ≤ lo) : FunW lo hi H' c p := ⟨h.1.keep k hb, h.2.1.keep k hb, h.2.2.1.keep k hb, h.2.2.2.keep k hb⟩
theorem ConW.keep {lo lo' hi : Nat} {H H' : GHeap} {c : Con} {p : ConP} (h : ConW lo hi H c p) (k : Keep lo' H H') (hb : lo' ≤ lo) : ConW lo hi H' c p := IntsW.keep h k hb
theorem Cat.Small.tot {c : Cat} (h : c.Small) : c.total ≤ 3 * 1048576 + 1048576 * 1048576 := Cat.total_le h
theorem Fun.Small.tot {c : Fun} (h : c.Small) : c.total ≤ 8 * 1048576 + 2 * 1048576 * 1048576 := by
  obtain ⟨h1, h2, h3, h4⟩ := h
  have := h1.tot
  have := h2.tot
  unfold Fun.total
  omega
theorem Con.Small.tot {c : Con} (h : c.Small) : c.total ≤ 1048576 := by
  obtain ⟨_, h2⟩ := h
  unfold Con.total
  omega
end Go.GL
namespace Go.GL

structure Fun.Cone (d : Fun) (p : Con) : Prop where
  ap : 0 ≤ p.ap ∧ p.ap < d.t.obj
  ll : p.lg.length = d.ob.length
  lg : ∀ j, j < p.lg.length → 0 ≤ p.lg.getD j 0 ∧ p.lg.getD j 0 < d.t.src.length
  ends : ∀ j, j < p.lg.length → d.t.src.getD (p.lg.getD j 0).toNat 0 = p.ap ∧ d.t.tgt.getD (p.lg.getD j 0).toNat 0 = d.ob.getD j 0
  tri : ∀ a, a < d.ar.length → d.t.th (p.lg.getD (d.s.src.getD a 0).toNat 0) (d.ar.getD a 0) = p.lg.getD (d.s.tgt.getD a 0).toNat 0
theorem Fun.Is.arr {f : Fun} (h : f.Is) {a : Nat} (ha : a < f.ar.length) : 0 ≤ f.s.src.getD a 0 ∧ f.s.src.getD a 0 < f.ob.length ∧ 0 ≤ f.s.tgt.getD a 0 ∧ f.s.tgt.getD a 0 < f.ob.length ∧ 0 ≤ f.ar.getD a 0 ∧ f.ar.getD a 0 < f.t.src.length ∧
    f.t.src.getD (f.ar.getD a 0).toNat 0 = f.ob.getD (f.s.src.getD a 0).toNat 0 ∧ f.t.tgt.getD (f.ar.getD a 0).toNat 0 = f.ob.getD (f.s.tgt.getD a 0).toNat 0 := by
  have hS := h.1.1
  have q0 := h.2.2.al
  have q1 := hS.src a (by omega)
  have q2 := hS.tgt a (by have := hS.tl; omega)
  have q3 := h.2.2.ol
  have q4 := h.2.2.ar a ha
  have q5 := h.2.2.ends a ha
  omega
def Con.zero : Con := ⟨0, []⟩
end Go.GL
namespace Go.GL

def Rising (xs : List Int) : Prop := ∀ i, 1 ≤ i → i < xs.length → xs.getD (i - 1) 0 < xs.getD i 0
structure SFun.Part (f : SFun) (me : List (List Int)) : Prop where
  pl : me.length = f.sz.length
  rs : ∀ x, x < me.length → Rising (me.getD x []) ∧ allIn (me.getD x []) (f.sz.getD x 0) = true
  cl : ∀ a, a < f.ac.length → ∀ i, i < (me.getD (f.sh.src.getD a 0).toNat []).length → (me.getD (f.sh.tgt.getD a 0).toNat []).contains ((f.ac.getD a []).getD ((me.getD (f.sh.src.getD a 0).toNat []).getD i 0).toNat 0) = true
end Go.GL
namespace Go.GL

def SFun.total (f : SFun) : Nat := f.sh.total + (f.sz.length + sumL f.ac)
def SFunW (lo hi : Nat) (H : GHeap) (f : SFun) (p : SFunP) : Prop := CatW lo hi H f.sh p.sh ∧ IntsW lo hi H p.a1 f.sz.length ∧ IntssW lo hi H p.a2 f.ac p.r2
theorem SFunW.stm {lo hi : Nat} {H H' : GHeap} {c : SFun} {p : SFunP} (h : SFunW lo hi H c p) (s : StM lo hi H H') : SFunW lo hi H' c p := ⟨h.1.stm s, h.2.1.stm s, h.2.2.stm s⟩
theorem SFunW.of_at {b : Nat} {H0 H : GHeap} {c : SFun} {p : SFunP} (h : SFunAt b H0 c p) (k : Keep b H0 H) : SFunW b H0.next H c p := ⟨.of_at h.1 k, .of_at h.2.1 k, .of_at h.2.2 k⟩
def SFun.leaves (f : SFun) (p : SFunP) : List Leaf := f.sh.leaves p.sh ++ ([(p.a1, f.sz.length)] ++ rowsL p.r2 f.ac f.ac.length)
theorem SFun.lvSum_leaves (c : SFun) (p : SFunP) : lvSum (c.leaves p) = c.total := by
  simp only [SFun.leaves, lvSum_append, lvSum, Cat.lvSum_leaves, lvSum_rowsL p.r2 c.ac _ (Nat.le_refl _), List.take_length, SFun.total, Nat.add_zero]
theorem sumL_tot {xss : List (List Int)} (h : xss.length ≤ 1048576) (h' : ∀ i, (xss.getD i []).length ≤ 1048576) : sumL xss ≤ 1048576 * 1048576 := by
  have := sumL_le (m := 1048576) h'
  have h6 : xss.length * 1048576 ≤ 1048576 * 1048576 := Nat.mul_le_mul_right _ h
  exact Nat.le_trans this h6
theorem SFun.Small.tot {c : SFun} (h : c.Small) : c.total ≤ 4 * 1048576 + 2 * 1048576 * 1048576 := by
  obtain ⟨h1, h2, h3, h4⟩ := h
  have := h1.tot
  have := sumL_tot h3 h4
  unfold SFun.total
  omega
def SMap.total (f : SMap) : Nat := f.s.total + (f.t.total + sumL f.pa)
def SMapW (lo hi : Nat) (H : GHeap) (f : SMap) (p : SMapP) : Prop := SFunW lo hi H f.s p.s ∧ SFunW lo hi H f.t p.t ∧ IntssW lo hi H p.a2 f.pa p.r2
theorem SMapW.stm {lo hi : Nat} {H H' : GHeap} {c : SMap} {p : SMapP} (h : SMapW lo hi H c p) (s : StM lo hi H H') : SMapW lo hi H' c p := ⟨h.1.stm s, h.2.1.stm s, h.2.2.stm s⟩
theorem SMapW.of_at {b : Nat} {H0 H : GHeap} {c : SMap} {p : SMapP} (h : SMapAt b H0 c p) (k : Keep b H0 H) : SMapW b H0.next H c p := ⟨.of_at h.1 k, .of_at h.2.1 k, .of_at h.2.2 k⟩
def SMap.leaves (f : SMap) (p : SMapP) : List Leaf := f.s.leaves p.s ++ (f.t.leaves p.t ++ rowsL p.r2 f.pa f.pa.length)
theorem SMap.lvSum_leaves (c : SMap) (p : SMapP) : lvSum (c.leaves p) = c.total := by
  simp only [SMap.leaves, lvSum_append, SFun.lvSum_leaves, lvSum_rowsL p.r2 c.pa _ (Nat.le_refl _), List.take_length, SMap.total]
theorem SMap.Small.tot {c : SMap} (h : c.Small) : c.total ≤ 8 * 1048576 + 5 * 1048576 * 1048576 := by
  obtain ⟨h1, h2, h3, h4⟩ := h
  have := h1.tot
  have := h2.tot
  have := sumL_tot h3 h4
  unfold SMap.total
  omega
def Prt.total (f : Prt) : Nat := sumL f.me
def PrtW (lo hi : Nat) (H : GHeap) (f : Prt) (p : PrtP) : Prop := IntssW lo hi H p.a0 f.me p.r0
theorem PrtW.stm {lo hi : Nat} {H H' : GHeap} {c : Prt} {p : PrtP} (h : PrtW lo hi H c p) (s : StM lo hi H H') : PrtW lo hi H' c p := IntssW.stm h s
theorem PrtW.keep {lo lo' hi : Nat} {H H' : GHeap} {c : Prt} {p : PrtP} (h : PrtW lo hi H c p) (k : Keep lo' H H') (hb : lo' ≤ lo) : PrtW lo hi H' c p := IntssW.keep h k hb
theorem SFunW.keep {lo lo' hi : Nat} {H H' : GHeap} {c : SFun} {p : SFunP} (h : SFunW lo hi H c p) (k : Keep lo' H H') (hb : lo' ≤ lo) : SFunW lo hi H' c p := ⟨h.1.keep k hb, h.2.1.keep k hb, h.2.2.keep k hb⟩
theorem SMapW.keep {lo lo' hi : Nat} {H H' : GHeap} {c : SMap} {p : SMapP} (h : SMapW lo hi H c p) (k : Keep lo' H H') (hb : lo' ≤ lo) : SMapW lo hi H' c p := ⟨h.1.keep k hb, h.2.1.keep k hb, h.2.2.keep k hb⟩
theorem PrtW.of_at {b : Nat} {H0 H : GHeap} {c : Prt} {p : PrtP} (h : PrtAt b H0 c p) (k : Keep b H0 H) : PrtW b H0.next H c p := IntssW.of_at h k
def Prt.leaves (f : Prt) (p : PrtP) : List Leaf := rowsL p.r0 f.me f.me.length
theorem Prt.lvSum_leaves (c : Prt) (p : PrtP) : lvSum (c.leaves p) = c.total := by
  simp only [Prt.leaves, lvSum_rowsL p.r0 c.me _ (Nat.le_refl _), List.take_length, Prt.total]
theorem Prt.Small.tot {c : Prt} (h : c.Small) : c.total ≤ 1048576 * 1048576 := sumL_tot h.1 h.2

def NoTwo (xss : List (List Int)) (r : Nat → Option Addr) : Prop := (lvBlks (rowsL r xss xss.length)).Nodup
def IntssR (b : Nat) (H : GHeap) (a : Option Addr) (xss : List (List Int)) (r : Nat → Option Addr) : Prop := ((xss = [] ∧ a = none) ∨ IntssAt b H a xss r) ∧ NoTwo xss r
theorem IntssR.keep {b b' : Nat} {H H' : GHeap} {a : Option Addr} {xs : List (List Int)} {r : Nat → Option Addr} (h : IntssR b H a xs r) (k : Keep b' H H') (hb : b' ≤ b) : IntssR b' H' a xs r := ⟨h.1.imp id fun h => h.keep k hb, h.2⟩
theorem IntssR.intss {b : Nat} {H : GHeap} {a : Option Addr} {xs : List (List Int)} {r : Nat → Option Addr} (h : IntssR b H a xs r) : Intss H a xs r := by
  rcases h.1 with ⟨rfl, rfl⟩ | h
  · exact ⟨.inl rfl, fun i hi => by simp at hi⟩
  · exact h.intss
theorem IntssR.nil (b : Nat) (H : GHeap) (r : Nat → Option Addr) : IntssR b H none [] r := ⟨.inl ⟨rfl, rfl⟩, by simp [NoTwo, lvBlks, rowsL]⟩
def PrtR (b : Nat) (H : GHeap) (c : Prt) (p : PrtP) : Prop := IntssR b H p.a0 c.me p.r0
theorem PrtR.keep {b b' : Nat} {H H' : GHeap} {c : Prt} {p : PrtP} (h : PrtR b H c p) (k : Keep b' H H') (hb : b' ≤ b) : PrtR b' H' c p := IntssR.keep h k hb
theorem PrtR.inn {b : Nat} {H : GHeap} {c : Prt} {p : PrtP} (h : PrtR b H c p) : c.In H p := IntssR.intss h
theorem IntssW.of_r {b : Nat} {H0 H : GHeap} {a : Option Addr} {xs : List (List Int)} {r : Nat → Option Addr} (h : IntssR b H0 a xs r) (k : Keep b H0 H) : IntssW b H0.next H a xs r := by
  rcases h.1 with ⟨rfl, rfl⟩ | h
  · exact ⟨.inl rfl, fun i hi => by simp at hi, .inl rfl⟩
  · exact .of_at h k
theorem PrtW.of_r {b : Nat} {H0 H : GHeap} {c : Prt} {p : PrtP} (h : PrtR b H0 c p) (k : Keep b H0 H) : PrtW b H0.next H c p := IntssW.of_r h k

def slsOf (r : Nat → Option Addr) (X : Nat → List Int) (k : Nat) : List Value := (List.range k).map fun i => .slice (r i) (X i).length (X i).length
@[simp] theorem length_slsOf (r : Nat → Option Addr) (X : Nat → List Int) (k : Nat) : (slsOf r X k).length = k := by simp [slsOf]
def upd (r : Nat → Option Addr) (k : Nat) (a : Option Addr) : Nat → Option Addr := fun i => if i = k then a else r i
theorem upd_eq (r : Nat → Option Addr) (k : Nat) (a : Option Addr) : upd r k a k = a := by simp [upd]
theorem upd_ne {r : Nat → Option Addr} {k i : Nat} {a : Option Addr} (h : i ≠ k) : upd r k a i = r i := by simp [upd, h]
theorem slsOf_succ {r : Nat → Option Addr} {X : Nat → List Int} {k : Nat} {a : Option Addr} : slsOf (upd r k a) X (k + 1) = slsOf r X k ++ [.slice a (X k).length (X k).length] := by
  unfold slsOf
  rw [List.range_succ, List.map_append]
  congr 1
  · refine List.map_congr_left fun i hi => ?_
    rw [upd_ne (by have := List.mem_range.1 hi; omega)]
  · simp [upd_eq]
structure OwnRows (b : Nat) (H : GHeap) (e : TypeId) (r : Nat → Option Addr) (X : Nat → List Int) (k : Nat) : Prop where
  row : ∀ i, i < k → ∃ g, r i = some ⟨g, 0, none⟩ ∧ b ≤ g ∧ H.get g = some (.row (ints (X i)) e true)
  inj : ∀ i j, i < k → j < k → r i = r j → i = j
theorem OwnRows.zero (b : Nat) (H : GHeap) (e : TypeId) (r : Nat → Option Addr) (X : Nat → List Int) : OwnRows b H e r X 0 := ⟨fun i hi => by omega, fun i j hi => by omega⟩
def Lasts (e : TypeId) (H H' : GHeap) : Prop := ∀ x xs, H.get x = some (.row (ints xs) e true) → H'.get x = some (.row (ints xs) e true)
theorem St.lasts1 {g0 : Nat} {H H' : GHeap} {e e' : TypeId} {cs : List Value} (s : St [g0] H H') (h0 : H.get g0 = some (.row cs e' true)) (hne : (e != e') = true) : Lasts e H H' := fun x xs hx => by
  simp only [bne_iff_ne, ne_eq] at hne
  refine s.same x _ ⟨fun ex => ?_, trivial⟩ hx
  subst ex
  rw [h0] at hx
  cases hx
  exact hne rfl
theorem OwnRows.keep {b k : Nat} {H H' : GHeap} {e : TypeId} {r : Nat → Option Addr} {X : Nat → List Int} (h : OwnRows b H e r X k) (s : Lasts e H H') : OwnRows b H' e r X k := ⟨fun i hi => by
  obtain ⟨x, h1, h2, h3⟩ := h.row i hi
  exact ⟨x, h1, h2, s x _ h3⟩, h.inj⟩
theorem OwnRows.succ' {b g k : Nat} {H H' : GHeap} {e : TypeId} {r : Nat → Option Addr} {X : Nat → List Int} (h : OwnRows b H e r X k) (s : Lasts e H H')
    (hg : H'.get g = some (.row (ints (X k)) e true)) (hn : H.next ≤ g) (hb : b ≤ g) : OwnRows b H' e (upd r k (some ⟨g, 0, none⟩)) X (k + 1) := by
  refine ⟨fun i hi => ?_, fun i j hi hj hij => ?_⟩
  · by_cases ek : i = k
    · subst ek; exact ⟨g, upd_eq _ _ _, hb, hg⟩
    · obtain ⟨x, h1, h2, h3⟩ := h.row i (by omega)
      exact ⟨x, by rw [upd_ne ek]; exact h1, h2, s x _ h3⟩
  · by_cases ei : i = k
    · by_cases ej : j = k
      · omega
      · subst ei
        rw [upd_eq, upd_ne ej] at hij
        obtain ⟨x, h1, _, h3⟩ := h.row j (by omega)
        rw [h1] at hij
        cases hij
        have := GHeap.ltg h3
        omega
    · by_cases ej : j = k
      · subst ej
        rw [upd_eq, upd_ne ei] at hij
        obtain ⟨x, h1, _, h3⟩ := h.row i (by omega)
        rw [h1] at hij
        cases hij
        have := GHeap.ltg h3
        omega
      · rw [upd_ne ei, upd_ne ej] at hij
        exact h.inj i j (by omega) (by omega) hij
theorem OwnRows.succ {b g g0 k : Nat} {H H' : GHeap} {e e' : TypeId} {r : Nat → Option Addr} {X : Nat → List Int} {cs : List Value} (h : OwnRows b H e r X k) (s : St [g0] H H') (h0 : H.get g0 = some (.row cs e' true)) (hne : (e != e') = true)
    (hg : H'.get g = some (.row (ints (X k)) e true)) (hn : H.next ≤ g) (hb : b ≤ g) : OwnRows b H' e (upd r k (some ⟨g, 0, none⟩)) X (k + 1) := h.succ' (s.lasts1 h0 hne) hg hn hb
theorem mem_lvBlk {g n x : Nat} (h : x ∈ lvBlk (some ⟨g, 0, none⟩, n)) : x = g := by
  cases n with
  | zero => simp [lvBlk] at h
  | succ n => simpa [lvBlk] using h
theorem lvBlks_rowsL {r : Nat → Option Addr} {xss : List (List Int)} (hr : ∀ i, i < xss.length → ∃ g, r i = some ⟨g, 0, none⟩) (hi : ∀ i j, i < xss.length → j < xss.length → r i = r j → i = j) : ∀ {n}, n ≤ xss.length →
    (lvBlks (rowsL r xss n)).Nodup ∧ ∀ g ∈ lvBlks (rowsL r xss n), ∃ i, i < n ∧ r i = some ⟨g, 0, none⟩
  | 0, _ => by simp [rowsL, lvBlks]
  | n + 1, hn => by
    obtain ⟨h1, h2⟩ := lvBlks_rowsL hr hi (n := n) (by omega)
    obtain ⟨g, hg⟩ := hr n (by omega)
    have h3 : ∀ x ∈ lvBlk (r n, (xss.getD n []).length), x = g := fun x hx => by rw [hg] at hx; exact mem_lvBlk hx
    have h4 : (lvBlk (r n, (xss.getD n []).length)).Nodup := by unfold lvBlk; split <;> simp
    have e1 : lvBlks (rowsL r xss (n + 1)) = lvBlks (rowsL r xss n) ++ lvBlk (r n, (xss.getD n []).length) := by rw [rowsL_succ, lvBlks_append]; simp [lvBlks]
    rw [e1]
    refine ⟨List.nodup_append.2 ⟨h1, h4, fun x hx y hy hxy => ?_⟩, fun x hx => ?_⟩
    · obtain ⟨i, i1, i2⟩ := h2 x hx
      have := h3 y hy
      subst hxy this
      have := hi i n (by omega) (by omega) (by rw [i2, hg])
      omega
    · rcases List.mem_append.1 hx with hx | hx
      · obtain ⟨i, i1, i2⟩ := h2 x hx
        exact ⟨i, by omega, i2⟩
      · exact ⟨n, by omega, by rw [h3 x hx]; exact hg⟩
def rowsOf (X : Nat → List Int) (n : Nat) : List (List Int) := (List.range n).map X
@[simp] theorem length_rowsOf (X : Nat → List Int) (n : Nat) : (rowsOf X n).length = n := by simp [rowsOf]
theorem rowsOf_get {X : Nat → List Int} {n i : Nat} (h : i < n) : (rowsOf X n).getD i [] = X i := by simp [rowsOf, List.getD_eq_getElem?_getD, h]
theorem OwnRows.done {b g n : Nat} {H : GHeap} {e e' : TypeId} {r : Nat → Option Addr} {X : Nat → List Int} (h : OwnRows b H e r X n) (hg : H.get g = some (.row (slsOf r X n) e' true)) (hb : b ≤ g) : IntssR b H (some ⟨g, 0, none⟩) (rowsOf X n) r := by
  refine ⟨.inr ⟨g, e', slsOf r X n, rfl, hb, hg, by simp, fun i hi => ?_, fun i hi => ?_⟩, ?_⟩
  · rw [length_rowsOf] at hi
    rw [rowsOf_get hi]
    simp [slsOf, hi]
  · rw [length_rowsOf] at hi
    rw [rowsOf_get hi]
    obtain ⟨x, h1, h2, h3⟩ := h.row i hi
    exact ⟨x, e, h1, h2, h3⟩
  · exact (lvBlks_rowsL (fun i hi => by rw [length_rowsOf] at hi; obtain ⟨x, h1, _⟩ := h.row i hi; exact ⟨x, h1⟩) (fun i j hi hj => by rw [length_rowsOf] at hi hj; exact h.inj i j hi hj) (Nat.le_refl _)).1

def NilOr (b : Nat) (H : GHeap) (a : Option Addr) (g : Nat) (cs : List Value) (e : TypeId) (k : Nat) : Prop := (a = none ∧ k = 0) ∨ (a = some ⟨g, 0, none⟩ ∧ 0 < k ∧ b ≤ g ∧ H.get g = some (.row cs e true))
theorem NilOr.st {b g g0 k : Nat} {H H' : GHeap} {a : Option Addr} {cs : List Value} {e : TypeId} (h : NilOr b H a g cs e k) (s : St [g0] H H') (hn : g0 < b) : NilOr b H' a g cs e k := h.imp id fun ⟨h1, h0, h2, h3⟩ => ⟨h1, h0, h2, s.same g _ ⟨by omega, trivial⟩ h3⟩
theorem Lasts.trans {e : TypeId} {A B C : GHeap} (h : Lasts e A B) (h' : Lasts e B C) : Lasts e A C := fun x xs hx => h' x xs (h x xs hx)
section
variable {P : Program} {o : Oper} {fr : Slots} {H : GHeap}
end
def SMap.backX (m : SMap) (me : List (List Int)) (x : Nat) : List Int := filtN (m.pa.getD x []).length fun e => (me.getD x []).contains ((m.pa.getD x []).getD e 0)
def SMap.backR (m : SMap) (me : List (List Int)) : List (List Int) := rowsOf (m.backX me) m.pa.length
noncomputable def SMap.back (m : SMap) (me : List (List Int)) : Prt := ⟨bif B (m.Is ∧ m.t.Part me) then m.backR me else []⟩
def SFun.pick (f : SFun) (Y : Nat → Nat → Bool) : Prt := ⟨rowsOf (fun x => filtN (f.sz.getD x 0).toNat (Y x)) f.sz.length⟩
end Go.GL
namespace Go.GL
def slsL (r : Nat → Option Addr) (xss : List (List Int)) : List Value := slsOf r (fun i => xss.getD i []) xss.length
@[simp] theorem length_slsL (r : Nat → Option Addr) (xss : List (List Int)) : (slsL r xss).length = xss.length := by simp [slsL]
theorem slsOf_congr {r : Nat → Option Addr} {X Y : Nat → List Int} {k : Nat} (h : ∀ i, i < k → X i = Y i) : slsOf r X k = slsOf r Y k := List.map_congr_left fun i hi => by rw [h i (List.mem_range.1 hi)]
theorem getD_snoc {α : Type} {xs : List α} {x d : α} {i : Nat} : (xs ++ [x]).getD i d = if i < xs.length then xs.getD i d else if i = xs.length then x else d := by
  rw [List.getD_eq_getElem?_getD, List.getD_eq_getElem?_getD]
  by_cases h : i < xs.length
  · rw [if_pos h, List.getElem?_append_left h]
  · rw [if_neg h, List.getElem?_append_right (by omega)]
    by_cases e : i = xs.length
    · subst e; simp
    · rw [if_neg e, List.getElem?_eq_none (by simp; omega)]; rfl
theorem slsL_snoc {r : Nat → Option Addr} {xss : List (List Int)} {x : List Int} {a : Option Addr} : slsL (upd r xss.length a) (xss ++ [x]) = slsL r xss ++ [.slice a x.length x.length] := by
  unfold slsL
  rw [List.length_append, List.length_singleton]
  rw [slsOf_succ]
  congr 1
  · refine slsOf_congr fun i hi => ?_
    rw [getD_snoc, if_pos hi]
  · rw [getD_snoc, if_neg (by omega), if_pos rfl]
def OwnL (b : Nat) (H : GHeap) (e : TypeId) (r : Nat → Option Addr) (xss : List (List Int)) : Prop := OwnRows b H e r (fun i => xss.getD i []) xss.length
theorem OwnL.nil (b : Nat) (H : GHeap) (e : TypeId) (r : Nat → Option Addr) : OwnL b H e r [] := OwnRows.zero _ _ _ _ _
theorem OwnRows.congr {b : Nat} {H : GHeap} {e : TypeId} {r : Nat → Option Addr} {X Y : Nat → List Int} {k : Nat} (h : OwnRows b H e r X k) (hx : ∀ i, i < k → X i = Y i) : OwnRows b H e r Y k := ⟨fun i hi => by rw [← hx i hi]; exact h.row i hi, h.inj⟩
theorem OwnL.snoc {b g : Nat} {H H' : GHeap} {e : TypeId} {r : Nat → Option Addr} {xss : List (List Int)} {x : List Int} (h : OwnL b H e r xss) (s : Lasts e H H') (hg : H'.get g = some (.row (ints x) e true)) (hn : H.next ≤ g) (hb : b ≤ g) : OwnL b H' e (upd r xss.length (some ⟨g, 0, none⟩)) (xss ++ [x]) := by
  unfold OwnL at h ⊢
  rw [List.length_append, List.length_singleton]
  have h' : OwnRows b H e r (fun i => (xss ++ [x]).getD i []) xss.length := h.congr fun i hi => by rw [getD_snoc, if_pos hi]
  exact h'.succ' s (by rw [getD_snoc, if_neg (by omega), if_pos rfl]; exact hg) hn hb
theorem OwnL.keep {b : Nat} {H H' : GHeap} {e : TypeId} {r : Nat → Option Addr} {xss : List (List Int)} (h : OwnL b H e r xss) (s : Lasts e H H') : OwnL b H' e r xss := OwnRows.keep h s
theorem rowsOf_self (xss : List (List Int)) : rowsOf (fun i => xss.getD i []) xss.length = xss := by
  apply List.ext_getElem (by simp)
  intro i h1 h2
  simp only [rowsOf, List.getElem_map, List.getElem_range, List.getD_eq_getElem?_getD, List.getElem?_eq_getElem h2, Option.getD_some]
theorem OwnL.done {b g : Nat} {H : GHeap} {e e' : TypeId} {r : Nat → Option Addr} {xss : List (List Int)} (h : OwnL b H e r xss) (hg : H.get g = some (.row (slsL r xss) e' true)) (hb : b ≤ g) : IntssR b H (some ⟨g, 0, none⟩) xss r := by
  have := OwnRows.done (X := fun i => xss.getD i []) h hg hb
  rwa [rowsOf_self] at this
theorem OwnL.intss {b g : Nat} {H : GHeap} {e e' : TypeId} {r : Nat → Option Addr} {xss : List (List Int)} (h : OwnL b H e r xss) (hg : H.get g = some (.row (slsL r xss) e' true)) (hb : b ≤ g) : Intss H (some ⟨g, 0, none⟩) xss r := (h.done hg hb).intss
theorem IntsR.of_at {b : Nat} {H : GHeap} {g : Nat} {e : TypeId} {xs : List Int} (h : H.get g = some (.row (Go.GL.ints xs) e true)) (hb : b ≤ g) : IntsR b H (some ⟨g, 0, none⟩) xs := .inr ⟨g, e, rfl, hb, h⟩

def nestL {α : Type} (pr : Nat → Nat → α) (sz : Nat → Nat) (k t : Nat) : List α := (List.range k).flatMap (fun a => (List.range (sz a)).map (pr a)) ++ (List.range t).map (pr k)
theorem nestL_zero {α : Type} (pr : Nat → Nat → α) (sz : Nat → Nat) : nestL pr sz 0 0 = [] := rfl
theorem nestL_snoc {α : Type} {pr : Nat → Nat → α} {sz : Nat → Nat} {k t : Nat} : nestL pr sz k (t + 1) = nestL pr sz k t ++ [pr k t] := by
  unfold nestL
  rw [List.range_succ, List.map_append, ← List.append_assoc]
  rfl
theorem nestL_next {α : Type} {pr : Nat → Nat → α} {sz : Nat → Nat} {k : Nat} : nestL pr sz (k + 1) 0 = nestL pr sz k (sz k) := by
  unfold nestL
  rw [List.range_succ, List.flatMap_append]
  simp
theorem nestL_mem {α : Type} {pr : Nat → Nat → α} {sz : Nat → Nat} {k : Nat} {x : α} (h : x ∈ nestL pr sz k 0) : ∃ a t, a < k ∧ t < sz a ∧ x = pr a t := by
  simp only [nestL, List.range_zero, List.map_nil, List.append_nil, List.mem_flatMap, List.mem_range, List.mem_map] at h
  obtain ⟨a, ha, t, ht, e⟩ := h
  exact ⟨a, t, ha, ht, e.symm⟩
theorem nestL_length {α : Type} {pr : Nat → Nat → α} {sz : Nat → Nat} {c : Nat} : ∀ {k}, (∀ a, a < k → sz a ≤ c) → (nestL pr sz k 0).length ≤ k * c
  | 0, _ => by simp [nestL]
  | k + 1, h => by
    have ih := nestL_length (pr := pr) (sz := sz) (c := c) (k := k) fun a ha => h a (by omega)
    have := h k (by omega)
    rw [nestL_next]
    simp only [nestL, List.length_append, List.length_map, List.length_range, List.range_zero, List.map_nil, List.append_nil] at ih ⊢
    rw [Nat.add_mul]
    omega
theorem nestL_le {α : Type} {pr : Nat → Nat → α} {sz : Nat → Nat} {c k t n : Nat} (h : ∀ a, a < n → sz a ≤ c) (hk : k < n) (ht : t ≤ sz k) : (nestL pr sz k t).length ≤ n * c := by
  have h1 := nestL_length (pr := pr) (sz := sz) (c := c) (k := k) fun a ha => h a (by omega)
  have h2 := h k hk
  have h3 : (k + 1) * c ≤ n * c := Nat.mul_le_mul_right _ hk
  rw [Nat.add_mul] at h3
  simp only [nestL, List.length_append, List.length_map, List.length_range, List.range_zero, List.map_nil, List.append_nil] at h1 ⊢
  omega
def nest3 {α : Type} (pr : Nat → Nat → Nat → α) (s1 : Nat → Nat) (s2 : Nat → Nat → Nat) (k t u : Nat) : List α := (List.range k).flatMap (fun a => nestL (pr a) (s2 a) (s1 a) 0) ++ nestL (pr k) (s2 k) t u
theorem nest3_zero {α : Type} (pr : Nat → Nat → Nat → α) (s1 : Nat → Nat) (s2 : Nat → Nat → Nat) : nest3 pr s1 s2 0 0 0 = [] := rfl
theorem nest3_snoc {α : Type} {pr : Nat → Nat → Nat → α} {s1 : Nat → Nat} {s2 : Nat → Nat → Nat} {k t u : Nat} : nest3 pr s1 s2 k t (u + 1) = nest3 pr s1 s2 k t u ++ [pr k t u] := by
  unfold nest3
  rw [nestL_snoc, List.append_assoc]
theorem nest3_next2 {α : Type} {pr : Nat → Nat → Nat → α} {s1 : Nat → Nat} {s2 : Nat → Nat → Nat} {k t : Nat} : nest3 pr s1 s2 k (t + 1) 0 = nest3 pr s1 s2 k t (s2 k t) := by
  unfold nest3
  rw [nestL_next]
theorem nest3_next1 {α : Type} {pr : Nat → Nat → Nat → α} {s1 : Nat → Nat} {s2 : Nat → Nat → Nat} {k : Nat} : nest3 pr s1 s2 (k + 1) 0 0 = nest3 pr s1 s2 k (s1 k) 0 := by
  unfold nest3
  rw [List.range_succ, List.flatMap_append]
  simp [nestL_zero]
theorem nest3_mem {α : Type} {pr : Nat → Nat → Nat → α} {s1 : Nat → Nat} {s2 : Nat → Nat → Nat} {k : Nat} {x : α} (h : x ∈ nest3 pr s1 s2 k 0 0) : ∃ a b t, a < k ∧ b < s1 a ∧ t < s2 a b ∧ x = pr a b t := by
  unfold nest3 at h
  rw [nestL_zero, List.append_nil, List.mem_flatMap] at h
  obtain ⟨a, ha, hx⟩ := h
  obtain ⟨b, t, hb, ht, e⟩ := nestL_mem hx
  exact ⟨a, b, t, List.mem_range.1 ha, hb, ht, e⟩
theorem flatMap_len {α : Type} {f : Nat → List α} {c : Nat} : ∀ {k}, (∀ a, a < k → (f a).length ≤ c) → ((List.range k).flatMap f).length ≤ k * c
  | 0, _ => by simp
  | k + 1, h => by
    have ih := flatMap_len (f := f) (c := c) (k := k) fun a ha => h a (by omega)
    have := h k (by omega)
    rw [List.range_succ, List.flatMap_append, List.length_append, Nat.add_mul]
    simp only [List.flatMap_cons, List.flatMap_nil, List.append_nil]
    omega
theorem nest3_le {α : Type} {pr : Nat → Nat → Nat → α} {s1 : Nat → Nat} {s2 : Nat → Nat → Nat} {c d k t u n : Nat} (h1 : ∀ a, a < n → s1 a ≤ d) (h2 : ∀ a, a < n → ∀ b, b < s1 a → s2 a b ≤ c) (hk : k < n) (ht : t < s1 k) (hu : u ≤ s2 k t) : (nest3 pr s1 s2 k t u).length ≤ n * (d * c) := by
  unfold nest3
  rw [List.length_append]
  have q1 := flatMap_len (f := fun a => nestL (pr a) (s2 a) (s1 a) 0) (c := d * c) (k := k) fun a ha => by
    have r1 := nestL_length (pr := pr a) (sz := s2 a) (c := c) (k := s1 a) fun b hb => h2 a (by omega) b hb
    exact Nat.le_trans r1 (Nat.mul_le_mul_right _ (h1 a (by omega)))
  have q2 := nestL_le (pr := pr k) (sz := s2 k) (c := c) (k := t) (t := u) (n := s1 k) (fun b hb => h2 k hk b hb) ht hu
  have q3 : s1 k * c ≤ d * c := Nat.mul_le_mul_right _ (h1 k hk)
  have q4 : (k + 1) * (d * c) ≤ n * (d * c) := Nat.mul_le_mul_right _ hk
  rw [Nat.add_mul] at q4
  omega
theorem nest3_all {α : Type} {pr : Nat → Nat → Nat → α} {s1 : Nat → Nat} {s2 : Nat → Nat → Nat} {c d n : Nat} (h1 : ∀ a, a < n → s1 a ≤ d) (h2 : ∀ a, a < n → ∀ b, b < s1 a → s2 a b ≤ c) : (nest3 pr s1 s2 n 0 0).length ≤ n * (d * c) := by
  unfold nest3
  rw [nestL_zero, List.append_nil]
  exact flatMap_len fun a ha => by
    have r1 := nestL_length (pr := pr a) (sz := s2 a) (c := c) (k := s1 a) fun b hb => h2 a ha b hb
    exact Nat.le_trans r1 (Nat.mul_le_mul_right _ (h1 a ha))
theorem getD_mem_list {α : Type} {xs : List α} {d : α} {i : Nat} (h : i < xs.length) : xs.getD i d ∈ xs := by
  rw [List.getD_eq_getElem?_getD, List.getElem?_eq_getElem h]
  exact List.getElem_mem h

def CatR (b : Nat) (H : GHeap) (c : Cat) (p : CatP) : Prop := (IntsR b H p.a1 c.src ∧ IntsR b H p.a2 c.tgt ∧ IntsR b H p.a3 c.idn ∧ IntssR b H p.a4 c.comp p.r) ∧ (lvBlks (c.leaves p)).Nodup
theorem CatR.keep {b b' : Nat} {H H' : GHeap} {c : Cat} {p : CatP} (h : CatR b H c p) (k : Keep b' H H') (hb : b' ≤ b) : CatR b' H' c p := ⟨⟨h.1.1.keep k hb, h.1.2.1.keep k hb, h.1.2.2.1.keep k hb, h.1.2.2.2.keep k hb⟩, h.2⟩
theorem CatR.inn {b : Nat} {H : GHeap} {c : Cat} {p : CatP} (h : CatR b H c p) : c.In H p := ⟨h.1.1.ints, h.1.2.1.ints, h.1.2.2.1.ints, h.1.2.2.2.intss⟩
theorem CatW.of_r {b : Nat} {H0 H : GHeap} {c : Cat} {p : CatP} (h : CatR b H0 c p) (k : Keep b H0 H) : CatW b H0.next H c p := ⟨.of_r h.1.1 k, .of_r h.1.2.1 k, .of_r h.1.2.2.1 k, .of_r h.1.2.2.2 k⟩
def Cat.zero : Cat := ⟨0, [], [], [], []⟩
def CatP.zero : CatP := ⟨none, none, none, none, fun _ => none⟩
theorem CatR.zero (b : Nat) (H : GHeap) : CatR b H .zero .zero := ⟨⟨.inl ⟨rfl, rfl⟩, .inl ⟨rfl, rfl⟩, .inl ⟨rfl, rfl⟩, .nil _ _ _⟩, by simp [Cat.leaves, Cat.zero, CatP.zero, lvBlks, lvBlk, rowsL]⟩
theorem mem_lvBlk1 {a : Option Addr} {n x : Nat} (h : x ∈ lvBlk (a, n)) : ∃ o s, a = some ⟨x, o, s⟩ := by
  unfold lvBlk at h
  split at h
  · rename_i a' m e
    cases e
    rw [List.mem_singleton] at h
    subst h
    exact ⟨_, _, rfl⟩
  · cases h
theorem lvBlk_nodup (l : Leaf) : (lvBlk l).Nodup := by unfold lvBlk; split <;> simp
theorem CatR.mk {b : Nat} {H : GHeap} {c : Cat} {p : CatP} (h1 : IntsR b H p.a1 c.src) (h2 : IntsR b H p.a2 c.tgt) (h3 : IntsR b H p.a3 c.idn) (h4 : IntssR b H p.a4 c.comp p.r) {g1 g2 g3 : Nat} (k1 : p.a1 = none ∨ p.a1 = some ⟨g1, 0, none⟩) (k2 : p.a2 = none ∨ p.a2 = some ⟨g2, 0, none⟩) (k3 : p.a3 = none ∨ p.a3 = some ⟨g3, 0, none⟩)
    (n12 : g1 ≠ g2) (n13 : g1 ≠ g3) (n23 : g2 ≠ g3) (n4 : ∀ i, i < c.comp.length → p.r i ≠ some ⟨g1, 0, none⟩ ∧ p.r i ≠ some ⟨g2, 0, none⟩ ∧ p.r i ≠ some ⟨g3, 0, none⟩) : CatR b H c p := by
  have one : ∀ {a : Option Addr} {g n x : Nat}, (a = none ∨ a = some ⟨g, 0, none⟩) → x ∈ lvBlk (a, n) → x = g := by
    intro a g n x hk hx
    obtain ⟨o, s, e⟩ := mem_lvBlk1 hx
    rcases hk with h | h
    · rw [h] at e; cases e
    · rw [h] at e; cases e; rfl
  have rows : ∀ x ∈ lvBlks (rowsL p.r c.comp c.comp.length), x ≠ g1 ∧ x ≠ g2 ∧ x ≠ g3 := by
    intro x hx
    obtain ⟨l, hl, hxl⟩ := List.mem_flatMap.1 hx
    obtain ⟨i, hi, rfl⟩ := List.mem_map.1 hl
    have hi' := List.mem_range.1 hi
    have hlen : 0 < (c.comp.getD i []).length := by
      unfold lvBlk at hxl
      split at hxl
      · rename_i e; have := congrArg Prod.snd e; simp only at this; omega
      · cases hxl
    obtain ⟨o, s, e⟩ := mem_lvBlk1 hxl
    have hrow : ∃ g, p.r i = some ⟨g, 0, none⟩ := by
      rcases h4.1 with ⟨h, _⟩ | ⟨g, e', cs, _, _, _, _, _, h6⟩
      · rw [h] at hi'; simp at hi'
      · obtain ⟨g', _, hg', _⟩ := h6 i hi'
        exact ⟨g', hg'⟩
    obtain ⟨g, hg⟩ := hrow
    rw [hg] at e
    cases e
    obtain ⟨q1, q2, q3⟩ := n4 i hi'
    rw [hg] at q1 q2 q3
    exact ⟨fun h => q1 (by rw [h]), fun h => q2 (by rw [h]), fun h => q3 (by rw [h])⟩
  refine ⟨⟨h1, h2, h3, h4⟩, ?_⟩
  unfold Cat.leaves
  rw [lvBlks_append, lvBlks_append, lvBlks_append]
  have s1 : lvBlks [(p.a1, c.src.length)] = lvBlk (p.a1, c.src.length) := by simp [lvBlks]
  have s2 : lvBlks [(p.a2, c.tgt.length)] = lvBlk (p.a2, c.tgt.length) := by simp [lvBlks]
  have s3 : lvBlks [(p.a3, c.idn.length)] = lvBlk (p.a3, c.idn.length) := by simp [lvBlks]
  rw [s1, s2, s3]
  refine List.nodup_append.2 ⟨lvBlk_nodup _, List.nodup_append.2 ⟨lvBlk_nodup _, List.nodup_append.2 ⟨lvBlk_nodup _, h4.2, ?_⟩, ?_⟩, ?_⟩
  · intro x hx y hy hxy
    have e1 := one k3 hx
    have e2 := rows y hy
    omega
  · intro x hx y hy hxy
    have e1 := one k2 hx
    rcases List.mem_append.1 hy with hy | hy
    · have e2 := one k3 hy; omega
    · have e2 := rows y hy; omega
  · intro x hx y hy hxy
    have e1 := one k1 hx
    rcases List.mem_append.1 hy with hy | hy
    · have e2 := one k2 hy; omega
    · rcases List.mem_append.1 hy with hy | hy
      · have e2 := one k3 hy; omega
      · have e2 := rows y hy; omega
end Go.GL
namespace Go.GL
section
variable {P : Program} {N : Nat} {ops : Array Oper} {Q : Slots → GHeap → Prop} {L : List (Oper × Nat)} {fr : Slots} {H Hb : GHeap} {o : Oper} {i : Nat} {t : Tree}
end
end Go.GL
namespace Go.GL
end Go.GL
namespace Go.GL
def Off (r : Nat → Option Addr) (n : Nat) (gs : List Nat) : Prop := ∀ i, i < n → ∀ g, r i = some ⟨g, 0, none⟩ → out gs g
theorem Off.nil (r : Nat → Option Addr) (n : Nat) : Off r n [] := fun _ _ _ _ => trivial
theorem Off.cons {r : Nat → Option Addr} {n g : Nat} {gs : List Nat} (h : ∀ i, i < n → r i ≠ some ⟨g, 0, none⟩) (h' : Off r n gs) : Off r n (g :: gs) := fun i hi k hk => ⟨fun e => h i hi (by rw [hk, e]), h' i hi k hk⟩
theorem Off.zero (r : Nat → Option Addr) (gs : List Nat) : Off r 0 gs := fun _ hi => by omega
theorem OwnRows.st {b k : Nat} {bs : List Nat} {H H' : GHeap} {e : TypeId} {r : Nat → Option Addr} {X : Nat → List Int} (h : OwnRows b H e r X k) (s : St bs H H') (ho : Off r k bs) : OwnRows b H' e r X k := ⟨fun i hi => by
  obtain ⟨x, h1, h2, h3⟩ := h.row i hi
  exact ⟨x, h1, h2, s.same x _ (ho i hi x h1) h3⟩, h.inj⟩
theorem OwnL.st {b : Nat} {bs : List Nat} {H H' : GHeap} {e : TypeId} {r : Nat → Option Addr} {xss : List (List Int)} (h : OwnL b H e r xss) (s : St bs H H') (ho : Off r xss.length bs) : OwnL b H' e r xss := OwnRows.st h s ho
theorem OwnL.ne {b g : Nat} {H : GHeap} {e : TypeId} {r : Nat → Option Addr} {xss : List (List Int)} (h : OwnL b H e r xss) (hg : H.next ≤ g) : ∀ i, i < xss.length → r i ≠ some ⟨g, 0, none⟩ := fun i hi e => by
  obtain ⟨x, h1, _, h3⟩ := h.row i hi
  rw [h1] at e
  cases e
  have := GHeap.ltg h3
  omega
theorem OwnL.neT {b g : Nat} {H : GHeap} {e e' : TypeId} {cs : List Value} {r : Nat → Option Addr} {xss : List (List Int)} (h : OwnL b H e r xss) (hg : H.get g = some (.row cs e' true)) (hne : (e != e') = true) : ∀ i, i < xss.length → r i ≠ some ⟨g, 0, none⟩ := fun i hi ei => by
  obtain ⟨x, h1, _, h3⟩ := h.row i hi
  rw [h1] at ei
  cases ei
  rw [hg] at h3
  cases h3
  simp at hne
theorem OwnL.lowNe {b g : Nat} {H : GHeap} {e : TypeId} {r : Nat → Option Addr} {xss : List (List Int)} (h : OwnL b H e r xss) (hg : g < b) : ∀ i, i < xss.length → r i ≠ some ⟨g, 0, none⟩ := fun i hi ei => by
  obtain ⟨x, h1, h2, _⟩ := h.row i hi
  rw [h1] at ei
  cases ei
  omega
theorem ne_snoc {g k : Nat} {r : Nat → Option Addr} {xss : List (List Int)} {x : List Int} (h : ∀ i, i < xss.length → r i ≠ some ⟨g, 0, none⟩) (hk : k ≠ g) : ∀ i, i < (xss ++ [x]).length → upd r xss.length (some ⟨k, 0, none⟩) i ≠ some ⟨g, 0, none⟩ := fun i hi => by
  rw [List.length_append, List.length_singleton] at hi
  by_cases e : i = xss.length
  · subst e
    rw [upd_eq]
    intro e
    cases e
    exact hk rfl
  · rw [upd_ne e]
    exact h i (by omega)
theorem OwnL.snoc2 {b g : Nat} {H : GHeap} {e : TypeId} {r : Nat → Option Addr} {xss : List (List Int)} {x : List Int} (h : OwnL b H e r xss) (hg : H.get g = some (.row (ints x) e true)) (hne : ∀ i, i < xss.length → r i ≠ some ⟨g, 0, none⟩) (hb : b ≤ g) :
    OwnL b H e (upd r xss.length (some ⟨g, 0, none⟩)) (xss ++ [x]) := by
  have key : ∀ i, i < xss.length + 1 → (i = xss.length ∧ upd r xss.length (some ⟨g, 0, none⟩) i = some ⟨g, 0, none⟩ ∧ (xss ++ [x]).getD i [] = x) ∨ (i < xss.length ∧ upd r xss.length (some ⟨g, 0, none⟩) i = r i ∧ (xss ++ [x]).getD i [] = xss.getD i []) := by
    intro i hi
    by_cases e : i = xss.length
    · subst e
      exact .inl ⟨rfl, upd_eq _ _ _, by rw [getD_snoc, if_neg (by omega), if_pos rfl]⟩
    · exact .inr ⟨by omega, upd_ne e, by rw [getD_snoc, if_pos (by omega)]⟩
  unfold OwnL
  rw [List.length_append, List.length_singleton]
  refine ⟨fun i hi => ?_, fun i j hi hj hij => ?_⟩
  · rcases key i hi with ⟨_, h2, h3⟩ | ⟨h1, h2, h3⟩
    · exact ⟨g, h2, hb, by rw [h3]; exact hg⟩
    · obtain ⟨y, y1, y2, y3⟩ := h.row i h1
      exact ⟨y, by rw [h2]; exact y1, y2, by rw [h3]; exact y3⟩
  · rcases key i hi with ⟨h1, h2, _⟩ | ⟨h1, h2, _⟩
    · rcases key j hj with ⟨k1, k2, _⟩ | ⟨k1, k2, _⟩
      · omega
      · rw [h2, k2] at hij
        exact absurd hij.symm (hne j k1)
    · rcases key j hj with ⟨k1, k2, _⟩ | ⟨k1, k2, _⟩
      · rw [h2, k2] at hij
        exact absurd hij (hne i h1)
      · rw [h2, k2] at hij
        exact h.inj i j h1 k1 hij
theorem take_map_snoc {α β : Type} {f : α → β} {l : List α} {i : Nat} {d : α} (h : i < l.length) : (l.take (i + 1)).map f = (l.take i).map f ++ [f (l.getD i d)] := by
  rw [List.take_add_one, List.getElem?_eq_getElem h, List.map_append, List.getD_eq_getElem?_getD, List.getElem?_eq_getElem h]; rfl

theorem Ints.slN {H : GHeap} {a : Option Addr} {xs : List Int} {n : Nat} (h : Ints H a xs) (hn : xs.length = n) : SlA H a n (fun i => .int .i64 (xs.getD i 0)) := by subst hn; exact h
def fillS (r : Nat → Option Addr) (n k : Nat) : List Value := (List.range n).map fun i => if i < k then .slice (r i) n n else .slice none 0 0
@[simp] theorem length_fillS (r : Nat → Option Addr) (n k : Nat) : (fillS r n k).length = n := by simp [fillS]
theorem fillS_zero (r : Nat → Option Addr) (n : Nat) : fillS r n 0 = List.replicate n (.slice none 0 0) := by
  apply List.ext_getElem (by simp)
  intro i h1 h2
  simp [fillS]
theorem fillS_set {r : Nat → Option Addr} {n k : Nat} {a : Option Addr} (h : k < n) : (fillS r n k).set k (.slice a n n) = fillS (upd r k a) n (k + 1) := by
  apply List.ext_getElem (by simp)
  intro i h1 h2
  simp only [length_fillS, List.length_set] at h1
  simp only [fillS, List.getElem_set, List.getElem_map, List.getElem_range]
  by_cases e : i = k
  · subst e
    rw [if_pos rfl, if_pos (by omega), upd_eq]
  · rw [if_neg (Ne.symm e), upd_ne e]
    by_cases e2 : i < k
    · rw [if_pos e2, if_pos (by omega)]
    · rw [if_neg e2, if_neg (by omega)]
theorem fillS_cell {r : Nat → Option Addr} {H : GHeap} {g n k i : Nat} {e : TypeId} {own : Bool} (h : H.get g = some (.row (fillS r n k) e own)) (hi : i < k) (hn : i < n) : H.cell g (0 + i) = some (.slice (r i) n n) := by
  rw [GHeap.cell_of h, Nat.zero_add]
  simp [fillS, hi, hn]
theorem fillS_all {r : Nat → Option Addr} {X : Nat → List Int} {n : Nat} (h : ∀ i, i < n → (X i).length = n) : fillS r n n = slsOf r X n := by
  unfold fillS slsOf
  refine List.map_congr_left fun i hi => ?_
  have := List.mem_range.1 hi
  rw [if_pos this, h i this]
def fillI (c : Nat → Int) (n k : Nat) : List Int := (List.range n).map fun i => if i < k then c i else 0
@[simp] theorem length_fillI (c : Nat → Int) (n k : Nat) : (fillI c n k).length = n := by simp [fillI]
theorem fillI_zero (c : Nat → Int) (n : Nat) : fillI c n 0 = List.replicate n 0 := by
  apply List.ext_getElem (by simp)
  intro i h1 h2
  simp [fillI]
theorem fillI_set {c : Nat → Int} {n k : Nat} {v : Int} (h : k < n) (hv : v = c k) : (fillI c n k).set k v = fillI c n (k + 1) := by
  apply List.ext_getElem (by simp)
  intro i h1 h2
  simp only [length_fillI, List.length_set] at h1
  simp only [fillI, List.getElem_set, List.getElem_map, List.getElem_range]
  by_cases e : i = k
  · subst e
    rw [if_pos rfl, if_pos (by omega), hv]
  · rw [if_neg (Ne.symm e)]
    by_cases e2 : i < k
    · rw [if_pos e2, if_pos (by omega)]
    · rw [if_neg e2, if_neg (by omega)]
theorem fillI_all {c : Nat → Int} {n : Nat} : fillI c n n = (List.range n).map c := List.map_congr_left fun i hi => by rw [if_pos (List.mem_range.1 hi)]
def tabC (src tgt : List Int) (X : Nat → Nat → Int) (i j : Nat) : Int := if tgt.getD i 0 = src.getD j 0 then X i j else -1
def tabR (src tgt : List Int) (X : Nat → Nat → Int) (n i : Nat) : List Int := (List.range n).map (tabC src tgt X i)
@[simp] theorem length_tabR (src tgt : List Int) (X : Nat → Nat → Int) (n i : Nat) : (tabR src tgt X n i).length = n := by simp [tabR]
theorem tabC_T {src tgt : List Int} {X : Nat → Nat → Int} {i j : Nat} (h : tgt.getD i 0 = src.getD j 0) : tabC src tgt X i j = X i j := if_pos h
theorem tabC_F {src tgt : List Int} {X : Nat → Nat → Int} {i j : Nat} (h : ¬ tgt.getD i 0 = src.getD j 0) : tabC src tgt X i j = -1 := if_neg h
def tabL (src tgt : List Int) (X : Nat → Nat → Int) (n : Nat) : List (List Int) := rowsOf (tabR src tgt X n) n
theorem eq_of_getD2 {xss yss : List (List Int)} (hl : xss.length = yss.length) (h : ∀ i, i < xss.length → xss.getD i [] = yss.getD i []) : xss = yss := by
  apply List.ext_getElem hl
  intro i h1 h2
  have := h i h1
  simpa [List.getD_eq_getElem?_getD, List.getElem?_eq_getElem h1, List.getElem?_eq_getElem h2] using this
end Go.GL
namespace Go.GL
structure Fun.Par (f g : Fun) : Prop where
  fi : f.Is
  gi : g.Is
  ps : f.s = g.s
  pt : f.t = g.t
def stCells (f : Fun) (p : FunP) (g : Fun) (q : FunP) (iso : Bool) (most : Int) (a : Option Addr) (n : Nat) : List Value := f.cells p ++ (g.cells q ++ [.bool iso, .int .i64 most, .slice a n n])
end Go.GL
namespace Go.GL
def SlO (b : Nat) (H : GHeap) (a : Option Addr) (g : Nat) (cs : List Value) (e : TypeId) (k : Nat) : Prop := (a = none ∧ k = 0 ∧ cs = []) ∨ (a = some ⟨g, 0, none⟩ ∧ b ≤ g ∧ H.get g = some (.row cs e true))
theorem SlO.mono {b g k : Nat} {H H' : GHeap} {a : Option Addr} {cs : List Value} {e : TypeId} (h : SlO b H a g cs e k) (s : H.Le H') : SlO b H' a g cs e k := h.imp id fun ⟨h1, h2, h3⟩ => ⟨h1, h2, s.2 _ _ h3⟩
theorem SlO.st {b g k : Nat} {bs : List Nat} {H H' : GHeap} {a : Option Addr} {cs : List Value} {e : TypeId} (h : SlO b H a g cs e k) (s : St bs H H') (ho : out bs g) : SlO b H' a g cs e k := h.imp id fun ⟨h1, h2, h3⟩ => ⟨h1, h2, s.same _ _ ho h3⟩
section
variable {P : Program} {o : Oper} {fr : Slots} {H : GHeap}
end
structure FoundAt (T e e' : TypeId) (b : Nat) (H : GHeap) (gs gF : Nat) (f : Fun) (p : FunP) (k : Fun) (q : FunP) (iso : Bool) (M : Nat) (fs : List (List Int)) : Prop where
  ex : ∃ a r, H.get gs = some (.row (stCells f p k q iso (M : Int) a fs.length) T true) ∧ SlO b H a gF (slsL r fs) e fs.length ∧ OwnL b H e' r fs
theorem OwnL.mono {b : Nat} {H H' : GHeap} {e : TypeId} {r : Nat → Option Addr} {xss : List (List Int)} (h : OwnL b H e r xss) (s : H.Le H') : OwnL b H' e r xss := h.keep fun x xs hx => s.2 x _ hx
theorem FoundAt.mono {T e e' : TypeId} {b gs gF : Nat} {H H' : GHeap} {f k : Fun} {p q : FunP} {iso : Bool} {M : Nat} {fs : List (List Int)} (h : FoundAt T e e' b H gs gF f p k q iso M fs) (s : H.Le H') : FoundAt T e e' b H' gs gF f p k q iso M fs := by
  obtain ⟨a, r, h1, h2, h3⟩ := h.ex
  exact ⟨a, r, s.2 _ _ h1, h2.mono s, h3.mono s⟩
structure SeenU (n : Net) (co : List Int) (y : Nat) (x : Int) : Prop where
  fst : (x = -1 ∧ ∀ j, y ≤ j → j < co.length → ¬ co.getD j 0 = -1) ∨ (∃ m : Nat, x = m ∧ y ≤ m ∧ m < co.length ∧ co.getD m 0 = -1 ∧ ∀ j, y ≤ j → j < m → ¬ co.getD j 0 = -1)
  cho : ∀ j, y ≤ j → j < co.length → co.getD j 0 = -1 → n.choices co j ≠ []
theorem SeenU.start (n : Net) (co : List Int) : SeenU n co co.length (-1) := ⟨.inl ⟨rfl, fun j h1 h2 => by omega⟩, fun j h1 h2 => by omega⟩
theorem SeenU.none {n : Net} {co : List Int} {x : Int} (h : SeenU n co 0 x) (hx : x < 0) (hc : ∀ x, ∀ h ∈ n.cand x, 0 ≤ h) : n.go co = [co] := by
  rcases h.fst with ⟨_, h2⟩ | ⟨m, h1, _⟩
  · rw [Net.go_eq hc, firstU_no fun j hj => h2 j (Nat.zero_le _) hj]
  · omega
theorem SeenU.some {n : Net} {co : List Int} {x : Int} (h : SeenU n co 0 x) (hx : ¬ x < 0) (hc : ∀ x, ∀ h ∈ n.cand x, 0 ≤ h) : ∃ m : Nat, x = m ∧ m < co.length ∧ co.getD m 0 = -1 ∧ n.go co = (n.choices co m).flatMap fun h => n.go (co.set m h) := by
  rcases h.fst with ⟨h1, _⟩ | ⟨m, h1, _, h3, h4, h5⟩
  · omega
  · refine ⟨m, h1, h3, h4, ?_⟩
    have hs : n.stuck co = false := by
      rw [← Bool.not_eq_true, Net.stuck_iff]
      rintro ⟨y, y1, y2, y3⟩
      exact h.cho y (Nat.zero_le _) y1 y2 y3
    rw [Net.go_eq hc, firstU_of h3 h4 fun j hj => h5 j (Nat.zero_le _) hj]
    simp only [hs, cond_false]
theorem GT.regionDB {P : Program} {N : Nat} {Q : Exit → Slots → GHeap → Prop} {fr : Slots} {Hb H : GHeap} {id : Nat} {ops : Array Oper} (hm : P.follows .mixedOrders = true) (t : Tree) (hok : (ctxOf ops).ok [] false t = true) (hb : Hb.Le H) (h : GTree P N ops (fun fr' H' => Q .normal fr' H') t fr Hb H) :
    GT P N (.region id ops true) Q fr H := fun B w0 ρ a w hs hf => by
  refine wp_region_any hm ?_
  refine tree_sound (ρ0 := ρ) (fun ρ' fr' H' a' w' hQ he hs' hf' => ⟨ρ', fr', H', hQ, he, hs', hf'⟩) ops.size t [] fr Hb H ρ _ a _ ⟨hok, h, hb, .refl ρ, hs.drew, hf.1, hf.2.1, by simp, fun i hi => ?_, fun i hi => ?_, .nil, (fun i hi => by cases hi), (fun i hi => by cases hi), fun s v hv _ => hf.2.2 s v hv, (fun j hj => by cases hj)⟩ ?_
  · unfold lis at hi
    simp [Array.getD_eq_getD_getElem?, Array.getElem?_replicate] at hi
    split at hi <;> simp at hi
  · unfold lis at hi
    simp [Array.getD_eq_getD_getElem?, Array.getElem?_replicate] at hi
    split at hi <;> simp at hi
  · unfold left
    exact Nat.le_trans (List.length_filter_le _ _) (by simp)
theorem GHeap.get_erase {H : GHeap} {g k : Nat} {o : GObj} (h : (H.set g none).get k = some o) : k ≠ g ∧ H.get k = some o := by
  by_cases e : g = k
  · subst e
    by_cases hl : g < H.next
    · rw [GHeap.get_set_eq hl] at h; cases h
    · have := GHeap.ltg h
      rw [GHeap.next_set] at this
      exact absurd this hl
  · rw [GHeap.get_set_ne e] at h
    exact ⟨Ne.symm e, h⟩
theorem GHeap.le_erase (H : GHeap) (g : Nat) : (H.set g none).Le H := ⟨by rw [GHeap.next_set]; exact Nat.le_refl _, fun _ _ h => (GHeap.get_erase h).2⟩
theorem GHeap.Le.erase_st {H0 H1 H2 : GHeap} {g : Nat} (h : (H0.set g none).Le H1) (s : St [g] H1 H2) : (H0.set g none).Le H2 := ⟨Nat.le_trans h.1 s.nx, fun k o hk => s.same k o ⟨(GHeap.get_erase hk).1, trivial⟩ (h.2 k o hk)⟩
theorem GHeap.get_erase_of {H : GHeap} {g k : Nat} {o : GObj} (h : H.get k = some o) (hk : k ≠ g) : (H.set g none).get k = some o := by rw [GHeap.get_set_ne (Ne.symm hk)]; exact h
def Cat.endL (c : Cat) (n : Nat) : List (List Int) := (List.range n).map fun a => [c.src.getD a 0, c.tgt.getD a 0]
@[simp] theorem Cat.length_endL (c : Cat) (n : Nat) : (c.endL n).length = n := by simp [endL]
def startL (cls : List Int) (x y : Nat) : List Int := (List.range y).map fun i => if cls.getD i 0 = (x : Int) then -1 else -2
@[simp] theorem length_startL (cls : List Int) (x y : Nat) : (startL cls x y).length = y := by simp [startL]
end Go.GL
namespace Go.GL
structure Hears (P : Program) (fn : Nat) (cap : Array Value) (e0 g1 most : Nat) (T : TypeId) (A : Nat → List (List Int) → Nat → GHeap → Prop) : Prop where
  code : ∀ (xs : Array Value) (w : World), (callFunc fn xs).run P w = .ok (.enter fn xs) w
  le : ∀ {b : Nat} {fs : List (List Int)} {gF : Nat} {H H' : GHeap}, A b fs gF H → H.Le H' → A b fs gF H'
  st : ∀ {b : Nat} {fs : List (List Int)} {gF gc : Nat} {H H' : GHeap}, A b fs gF H → e0 ≤ gc → gc < b → gc ≠ gF → St [gc] H H' → A b fs gF H'
  run : ∀ {b : Nat} {fs : List (List Int)} {gF gc : Nat} {q : List Int} {H : GHeap}, A b fs gF H → e0 ≤ gc → gc < b → gc ≠ gF → b ≤ H.next → H.get gc = some (.row (ints q) T true) → fs.length ≤ most → q.length ≤ 8 → gF < H.next →
    GCalls P fn ([.slice (some ⟨gc, 0, none⟩) q.length q.length] ++ cap.toList) H (fun v H' => v = .bool (decide (fs.length + 1 ≤ most)) ∧ ∃ gF', (gF' = gF ∨ H.next ≤ gF') ∧ gF' < H'.next ∧ St [g1, gF] H H' ∧ A b (fs ++ [q]) gF' H')
end Go.GL
namespace Go.GL
structure GathL (T1 T2 e : TypeId) (go gm most : Nat) (Tm : TypeId) (b : Nat) (fs : List (List Int)) (gF : Nat) (H : GHeap) : Prop where
  hd : H.get go = some (.row [.slice (some ⟨gF, 0, none⟩) fs.length fs.length] T1 true)
  most : H.get gm = some (.row [.int .i64 (most : Int)] Tm true)
  rows : ∃ r, H.get gF = some (.row (slsL r fs) T2 true) ∧ OwnL b H e r fs
theorem GathL.le {T1 T2 e : TypeId} {go gm most : Nat} {Tm : TypeId} {b : Nat} {fs : List (List Int)} {gF : Nat} {H H' : GHeap} (h : GathL T1 T2 e go gm most Tm b fs gF H) (s : H.Le H') : GathL T1 T2 e go gm most Tm b fs gF H' := by
  obtain ⟨r, h1, h2⟩ := h.rows
  exact ⟨s.2 _ _ h.hd, s.2 _ _ h.most, r, s.2 _ _ h1, h2.mono s⟩
theorem GathL.st {T1 T2 e : TypeId} {go gm most : Nat} {Tm : TypeId} {b : Nat} {fs : List (List Int)} {gF gc : Nat} {H H' : GHeap} (h : GathL T1 T2 e go gm most Tm b fs gF H) (s : St [gc] H H') (h1 : go ≠ gc) (h2 : gm ≠ gc) (h3 : gc ≠ gF) (h4 : gc < b) : GathL T1 T2 e go gm most Tm b fs gF H' := by
  obtain ⟨r, k1, k2⟩ := h.rows
  exact ⟨s.same _ _ ⟨h1, trivial⟩ h.hd, s.same _ _ ⟨h2, trivial⟩ h.most, r, s.same _ _ ⟨Ne.symm h3, trivial⟩ k1, k2.st s (.cons (k2.lowNe h4) (.nil _ _))⟩
theorem row_ne {H : GHeap} {g g' : Nat} {cs cs' : List Value} {e e' : TypeId} (h : H.get g = some (.row cs e true)) (h' : H.get g' = some (.row cs' e' true)) (hne : (e != e') = true) : g ≠ g' := fun ei => by
  subst ei
  rw [h] at h'
  cases h'
  simp at hne
structure GathI (T e : TypeId) (go : Nat) (b : Nat) (fs : List (List Int)) (gF : Nat) (H : GHeap) : Prop where
  ex : ∃ x, (fs = [] ∧ x = [] ∨ fs = [x]) ∧ H.get go = some (.row [.slice (some ⟨gF, 0, none⟩) x.length x.length] T true) ∧ H.get gF = some (.row (ints x) e true)
theorem GathI.le {T e : TypeId} {go b : Nat} {fs : List (List Int)} {gF : Nat} {H H' : GHeap} (h : GathI T e go b fs gF H) (s : H.Le H') : GathI T e go b fs gF H' := by
  obtain ⟨x, h1, h2, h3⟩ := h.ex
  exact ⟨x, h1, s.2 _ _ h2, s.2 _ _ h3⟩
theorem GathI.st {T e : TypeId} {go b : Nat} {fs : List (List Int)} {gF gc : Nat} {H H' : GHeap} (h : GathI T e go b fs gF H) (s : St [gc] H H') (h1 : go ≠ gc) (h3 : gc ≠ gF) : GathI T e go b fs gF H' := by
  obtain ⟨x, k1, k2, k3⟩ := h.ex
  exact ⟨x, k1, s.same _ _ ⟨h1, trivial⟩ k2, s.same _ _ ⟨Ne.symm h3, trivial⟩ k3⟩
end Go.GL
namespace Go.GL
end Go.GL
namespace Go.GL
def Con.z : Con := ⟨0, []⟩
def conV (r : Nat → Option Addr) (cs : List Con) : List Value := (List.range cs.length).flatMap fun i => (cs.getD i .z).cells ⟨r i⟩
@[simp] theorem length_conV (r : Nat → Option Addr) (cs : List Con) : (conV r cs).length = cs.length * 2 := by
  unfold conV
  generalize cs.length = n
  induction n with
  | zero => rfl
  | succ n ih => rw [List.range_succ, List.flatMap_append, List.length_append, ih]; simp [Con.cells]; omega
structure ConsAt (T e : TypeId) (b0 : Nat) (H : GHeap) (g : Nat) (r : Nat → Option Addr) (cs : List Con) : Prop where
  hd : H.get g = some (.row (conV r cs) T true)
  rows : OwnL b0 H e r (cs.map Con.lg)
structure GathC (T1 T2 Tx e : TypeId) (go gx b0 e0 : Nat) (x : Int) (pre : List Con) (b : Nat) (fs : List (List Int)) (gF : Nat) (H : GHeap) : Prop where
  hd : H.get go = some (.row [.slice (some ⟨gF, 0, none⟩) (pre ++ fs.map fun l => (⟨x, l⟩ : Con)).length (pre ++ fs.map fun l => (⟨x, l⟩ : Con)).length] T1 true)
  ix : H.get gx = some (.row [.int .i64 x] Tx true)
  rows : ∃ r, H.get gF = some (.row (conV r (pre ++ fs.map fun l => (⟨x, l⟩ : Con))) T2 true) ∧ OwnL b0 H e r ((pre ++ fs.map fun l => (⟨x, l⟩ : Con)).map Con.lg) ∧ ∀ i, i < (pre ++ fs.map fun l => (⟨x, l⟩ : Con)).length → ∀ g, r i = some ⟨g, 0, none⟩ → g < e0 ∨ b ≤ g
theorem GathC.le {T1 T2 Tx e : TypeId} {go gx b0 e0 : Nat} {x : Int} {pre : List Con} {b : Nat} {fs : List (List Int)} {gF : Nat} {H H' : GHeap} (h : GathC T1 T2 Tx e go gx b0 e0 x pre b fs gF H) (s : H.Le H') : GathC T1 T2 Tx e go gx b0 e0 x pre b fs gF H' := by
  obtain ⟨r, h1, h2, h3⟩ := h.rows
  exact ⟨s.2 _ _ h.hd, s.2 _ _ h.ix, r, s.2 _ _ h1, h2.mono s, h3⟩
theorem GathC.st {T1 T2 Tx e : TypeId} {go gx b0 e0 : Nat} {x : Int} {pre : List Con} {b : Nat} {fs : List (List Int)} {gF gc : Nat} {H H' : GHeap} (h : GathC T1 T2 Tx e go gx b0 e0 x pre b fs gF H) (s : St [gc] H H') (h1 : go ≠ gc) (h2 : gx ≠ gc) (h3 : gc ≠ gF) (h4 : e0 ≤ gc) (h5 : gc < b) : GathC T1 T2 Tx e go gx b0 e0 x pre b fs gF H' := by
  obtain ⟨r, k1, k2, k3⟩ := h.rows
  refine ⟨s.same _ _ ⟨h1, trivial⟩ h.hd, s.same _ _ ⟨h2, trivial⟩ h.ix, r, s.same _ _ ⟨Ne.symm h3, trivial⟩ k1, k2.st s (.cons (fun i hi ei => ?_) (.nil _ _)), k3⟩
  rw [List.length_map] at hi
  have := k3 i hi gc ei
  omega
theorem take_snocZ {l : List (List Int)} {i : Nat} (h : i < l.length) : l.take (i + 1) = l.take i ++ [l.getD i []] := by
  rw [List.take_add_one, List.getElem?_eq_getElem h, List.getD_eq_getElem?_getD, List.getElem?_eq_getElem h]; rfl
end Go.GL
namespace Go.Proofs.Ytdjodpdmbklfhaa
open Go Go.GL Go.RowKit Go.Proofs
theorem bt_30_Hj : buildT Try.prog 30 = some ([.int .i64 0, .slice none 0 0, .slice none 0 0, .slice none 0 0, .slice none 0 0], [(0, 1), (1, 1), (2, 1), (3, 1), (4, 1)]) := by kernel_rfl
end Go.Proofs.Ytdjodpdmbklfhaa
