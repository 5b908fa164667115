/- Profunctors, in the program. No condition but those of each statement. -/
import Derived.Test.YtihkbggaaopebaaP
import Derived.Test.YtihkbggaaopebaaN
import Derived.Test.YtihkbggaaopebaaVProf
import Derived.Test.YtihkbggaaopebaaGlPr
namespace Go.Proofs.Ytihkbggaaopebaa
open Go Go.GL Go.RowKit Go.Proofs
theorem ze_68_O : zeroT Try.prog 68 = some ([.pointer none], 1) := by kernel_rfl
theorem numbersN_c {n : Nat} {H : GHeap} (hn : n ≤ 1048576) : GCalls Try.prog 60 [.int .i64 (n : Int)] H (NewInts 2 H (numsL n)) := by
  refine GCalls.body (N := 18) (rs := [.tmp 2]) Try.func60 rfl rfl rfl rfl (fun Qx hret hend => ?_)
  refine .forget (fr' := [(0, some _)]) ⟨rfl, trivial⟩ ?_
  have hle := GHeap.Le.refl H
  refine .seq (fun K1 hK1 => ?_)
  refine .region ?_
  refine .m rfl rfl rfl (.assign rfl) ?_
  refine .nil ?_
  refine hK1 _ _ ?_
  refine .seq (fun K2 hK2 => ?_)
  refine .region ?_
  refine .m rfl rfl rfl (.move rfl) ?_
  refine .r rfl rfl rfl (.makeIN rfl sl_22_A ze_2_E by_2_E rfl rfl (by omega) (by omega) (by omega)) ?_
  rintro _ H6 ⟨g6, rfl, le6, ge6, at6⟩
  have nx_H6 := le6.1
  replace hle := hle.trans le6
  have lt_at6 := GHeap.lt_of_get at6
  refine .m rfl rfl rfl (.assign rfl) ?_
  refine .nil ?_
  refine hK2 _ _ ?_
  refine .seq (fun K3 hK3 => ?_)
  refine .seq (fun K4 hK4 => ?_)
  refine .region ?_
  refine .m rfl rfl rfl (.move rfl) ?_
  refine .m rfl rfl rfl (.len sl_22_A rfl) ?_
  refine .m rfl rfl rfl (.move rfl) ?_
  refine .nil ?_
  refine hK4 _ _ ?_
  refine .block ?_
  refine .loopR (σ := Nat × List Int) [(3, some _), (8, some _)] (fun (k, ys) => [(9, some (.int .i64 (k : Int)))]) (fun (k, ys) H' => St [g6] H6 H' ∧ H'.get g6 = some (.row (ints ys) 2 true) ∧ k ≤ n ∧ ys.length = n ∧ ∀ i, i < k → ys.getD i 0 = (i : Int)) (fun (k, ys) => n - k) ((0, List.replicate n 0)) ⟨rfl, rfl, trivial⟩ ⟨rfl, trivial⟩ ?_ ?_
  ·
   refine ⟨.refl _ _, by first | assumption | exact at6 | simpa using at6, ?_⟩
   exact ⟨by omega, by simp, fun _ _ => by omega⟩
  ·
   rintro ⟨k, ys⟩ HL1 ⟨lst1, at_L3, hI⟩ KL1 hKL1
   refine .forget (fr' := [(9, some (.int .i64 (k : Int))), (3, some _), (8, some _)]) ⟨rfl, rfl, rfl, trivial⟩ ?_
   have nx_HL1 := lst1.nx
   replace hle := hle.st lst1 (fun k hk => ⟨by omega, trivial⟩)
   have lt_at_L3 := GHeap.lt_of_get at_L3
   obtain ⟨hk, hyl, ha⟩ := hI
   have hsl := SlA.of_ints at_L3 hyl
   refine .seq (fun K5 hK5 => ?_)
   refine .region ?_
   refine .m rfl rfl rfl (.cmp rfl rfl rfl) ?_
   refine .nil ?_
   refine hK5 _ _ ?_
   refine .seq (fun K6 hK6 => ?_)
   refine .cond rfl (fun h10 => ?_) (fun h10 => ?_)
   ·
    simp only [sps] at h10
    refine .skip ?_
    refine hK6 _ _ ?_
    refine .seq (fun K7 hK7 => ?_)
    refine .block ?_
    refine .seq (fun K8 hK8 => ?_)
    refine .region ?_
    refine .m rfl rfl rfl (.move rfl) ?_
    refine .m rfl rfl rfl (.assign rfl) ?_
    refine .nil ?_
    refine hK8 _ _ ?_
    refine .region ?_
    refine .m rfl rfl rfl (.move rfl) ?_
    refine .m rfl rfl rfl (.move rfl) ?_
    refine .m rfl rfl rfl (.move rfl) ?_
    refine .m rfl rfl rfl (.idxN sl_22_A (by assumption) rfl rfl (by omega)) ?_
    refine .r0 rfl rfl (.storeI rfl sz_2_E rfl rfl (by assumption) (by simp; omega)) ?_
    rintro _ H5004 ⟨rfl, st5004, at5004⟩
    have nx_H5004 := st5004.nx
    replace hle := hle.st st5004 (fun k hk => ⟨by omega, trivial⟩)
    replace lst1 := lst1.st st5004 (fun k hk ho => by simp only [out, and_true] at ho ⊢ <;> omega)
    have lt_at5004 := GHeap.lt_of_get at5004
    refine .nil ?_
    refine hK7 _ _ ?_
    refine .region ?_
    refine .m rfl rfl rfl (.add rfl rfl rfl (by omega) (by omega)) ?_
    refine .m rfl rfl rfl (.move rfl) ?_
    refine .nil ?_
    refine hKL1 ((k + 1, ys.set (0 + k) (k : Int))) _ _ ?_ ?_ ⟨rfl, rfl, rfl, trivial⟩
    ·
     refine ⟨lst1, by assumption, ?_⟩
     refine ⟨by omega, by simpa using hyl, fun i hi => ?_⟩
     rw [Nat.zero_add, getD_set (by omega)]
     split
     · rename_i e; rw [e]
     · exact ha i (by omega)
    ·
     (dsimp only; omega)
   ·
    try simp only [sps] at h10
    refine .exit ?_
    refine hK3 _ _ ?_
    refine .seq (fun K9 hK9 => ?_)
    refine .region ?_
    refine .m rfl rfl rfl (.move rfl) ?_
    refine .m rfl rfl rfl (.assign rfl) ?_
    refine .nil ?_
    refine hK9 _ _ ?_
    refine .ret ?_
    -- leaf e1
    refine hret _ _ ?_
    refine ⟨_, rfl, ?_⟩
    obtain rfl := numsL_eq hyl fun i hi => ha i (by omega)
    exact ⟨hle, _, by rw [length_numsL], at_L3, by omega⟩
theorem numbers_c {n : Int} {H : GHeap} (h0 : 0 ≤ n := by omega) (hn : n ≤ 1048576 := by omega) : GCalls Try.prog 60 [.int .i64 n] H (NewInts 2 H (numsL n.toNat)) := by
  have h := numbersN_c (n := n.toNat) (H := H) (by omega)
  rw [Int.toNat_of_nonneg h0] at h
  exact h
set_option maxHeartbeats 4000000 in
theorem pfShape_c {g o : Nat} {m : Prof} {p : ProfP} {H : GHeap} (h : Prof.At H g o m p := by assumption) (hs : m.Small := by assumption) : GCalls Try.prog 42 [.pointer (some ⟨g, o, none⟩)] H (Ret (.bool (B m.Shape)) H) := by
  refine GCalls.ret rfl ?_
  refine GCalls.body (N := 202) (rs := [.tmp 2]) Try.func42 rfl rfl rfl rfl (fun Qx hret hend => ?_)
  refine .forget (fr' := [(0, some _)]) ⟨rfl, trivial⟩ ?_
  have hle := GHeap.Le.refl H
  have base_h := h
  obtain ⟨fs, ft, c10, c11, c12, i2, i3, i4⟩ := h.get
  have hm : MemN _ _ _ _ _ := ⟨rfl, h.1⟩
  have hi := h.2
  have hms : MemN _ _ _ _ _ := ⟨rfl, fs.1⟩
  have his := fs.2
  have hmt : MemN _ _ _ _ _ := ⟨rfl, ft.1⟩
  have hit := ft.2
  obtain ⟨c0, c1, c2, c3, c4, d1, d2, d3, d4⟩ := fs.get
  obtain ⟨x0, x1, x2, x3, x4, y1, y2, y3, y4⟩ := ft.get
  obtain ⟨s1, s2, ⟨s3, s4⟩, ⟨s5, s6⟩, s7, s8⟩ := hs
  refine .seq (fun K1 hK1 => ?_)
  refine .region ?_
  refine .m rfl rfl rfl (.assign rfl) ?_
  refine .nil ?_
  refine hK1 _ _ ?_
  refine .seq (fun K2 hK2 => ?_)
  refine .regionD mixed_orders_B (.q 0 (.q 1 (.q 2 (.q 3 (.q 4 (.q 5 (.q 6 (.q 7 (.done))))))))) (by kernel_rfl) ?_
  refine .m rfl rfl rfl rfl (.refl _) (.move rfl) ?_
  refine .m rfl rfl rfl rfl (.refl _) (.nilCheck rfl) ?_
  refine .m rfl rfl rfl rfl (.refl _) (.fieldAddr fo_33_0_VProf rfl) ?_
  refine .m rfl rfl rfl rfl (.refl _) (.move rfl) ?_
  refine .m rfl rfl rfl rfl (.refl _) (.nilCheck rfl) ?_
  refine .m rfl rfl rfl rfl (.refl _) (.fieldAddr fo_33_1_VProf rfl) ?_
  refine .m rfl rfl rfl rfl (.refl _) (.assign rfl) ?_
  refine .m rfl rfl rfl rfl (.refl _) (.assign rfl) ?_
  refine .done ?_
  refine hK2 _ _ ?_
  refine .seq (fun K3 hK3 => ?_)
  refine .seq (fun K4 hK4 => ?_)
  refine .regionD mixed_orders_B (.q 0 (.q 1 (.c 2 0 (.c 3 0 (.q 4 (.q 5 (.q 6 (.q 7 (.q 8 (.q 9 (.q 10 (.q 11 (.q 12 (.q 13 (.q 14 (.q 15 (.q 16 (.q 17 (.q 18 (.q 19 (.q 20 (.q 21 (.q 22 (.q 23 (.c 24 1 (.q 25 (.q 26 (.q 27 (.q 28 (.q 29 (.q 30 (.q 31 (.q 32 (.q 33 (.c 34 1 (.q 35 (.q 36 (.done)))))))))))))))))))))))))))))))))))))) (by kernel_rfl) ?_
  refine .m rfl rfl rfl rfl (.refl _) (.move rfl) ?_
  refine .m rfl rfl rfl rfl (.refl _) (.move rfl) ?_
  refine .c0 rfl rfl rfl rfl (.litR rfl sl_83_F ze_68_O rfl rfl (by omega) (by omega) rfl rfl) ?_
  rintro _ H23 ⟨g23, rfl, le23, ge23, at23⟩
  have nx_H23 := le23.1
  replace hle := hle.trans le23
  have lt_at23 := GHeap.lt_of_get at23
  replace h := base_h.mono hle
  clear fs ft c10 c11 c12 i2 i3 i4 hm hi hms his hmt hit c0 c1 c2 c3 c4 d1 d2 d3 d4 x0 x1 x2 x3 x4 y1 y2 y3 y4
  obtain ⟨fs, ft, c10, c11, c12, i2, i3, i4⟩ := h.get
  have hm : MemN _ _ _ _ _ := ⟨rfl, h.1⟩
  have hi := h.2
  have hms : MemN _ _ _ _ _ := ⟨rfl, fs.1⟩
  have his := fs.2
  have hmt : MemN _ _ _ _ _ := ⟨rfl, ft.1⟩
  have hit := ft.2
  obtain ⟨c0, c1, c2, c3, c4, d1, d2, d3, d4⟩ := fs.get
  obtain ⟨x0, x1, x2, x3, x4, y1, y2, y3, y4⟩ := ft.get
  refine .callQ0 rfl rfl rfl rfl rfl @Try.call57 rfl (areCategories2_c) ?_
  refine .m rfl rfl rfl rfl (.refl _) (.not rfl) ?_
  refine .m rfl rfl rfl rfl (.refl _) (.move rfl) ?_
  refine .split (fun h26 => ?_) (fun h26 => ?_)
  ·
   try simp only [sps] at h26
   refine .sg rfl rfl rfl rfl rfl rfl ?_
   refine .sg rfl rfl rfl rfl rfl rfl ?_
   refine .sg rfl rfl rfl rfl rfl rfl ?_
   refine .sg rfl rfl rfl rfl rfl rfl ?_
   refine .sg rfl rfl rfl rfl rfl rfl ?_
   refine .sg rfl rfl rfl rfl rfl rfl ?_
   refine .sg rfl rfl rfl rfl rfl rfl ?_
   refine .sg rfl rfl rfl rfl rfl rfl ?_
   refine .sg rfl rfl rfl rfl rfl rfl ?_
   refine .sg rfl rfl rfl rfl rfl rfl ?_
   refine .m rfl rfl rfl rfl (.refl _) (.pickT rfl rfl) ?_
   refine .m rfl rfl rfl rfl (.refl _) (.move rfl) ?_
   refine .sg rfl rfl rfl rfl rfl rfl ?_
   refine .sg rfl rfl rfl rfl rfl rfl ?_
   refine .sg rfl rfl rfl rfl rfl rfl ?_
   refine .sg rfl rfl rfl rfl rfl rfl ?_
   refine .sg rfl rfl rfl rfl rfl rfl ?_
   refine .sg rfl rfl rfl rfl rfl rfl ?_
   refine .sgc rfl rfl rfl rfl rfl rfl ?_
   refine .sg rfl rfl rfl rfl rfl rfl ?_
   refine .m rfl rfl rfl rfl (.refl _) (.pickT rfl rfl) ?_
   refine .m rfl rfl rfl rfl (.refl _) (.move rfl) ?_
   refine .sg rfl rfl rfl rfl rfl rfl ?_
   refine .sg rfl rfl rfl rfl rfl rfl ?_
   refine .sg rfl rfl rfl rfl rfl rfl ?_
   refine .sg rfl rfl rfl rfl rfl rfl ?_
   refine .sg rfl rfl rfl rfl rfl rfl ?_
   refine .sg rfl rfl rfl rfl rfl rfl ?_
   refine .sgc rfl rfl rfl rfl rfl rfl ?_
   refine .sg rfl rfl rfl rfl rfl rfl ?_
   refine .m rfl rfl rfl rfl (.refl _) (.pickT rfl rfl) ?_
   refine .done ?_
   refine hK4 _ _ ?_
   refine .condT rfl ?_
   refine .seq (fun K5 hK5 => ?_)
   refine .region ?_
   refine .m rfl rfl rfl (.assign rfl) ?_
   refine .nil ?_
   refine hK5 _ _ ?_
   refine .ret ?_
   -- leaf e1
   refine hret _ _ ?_
   refine ⟨_, rfl, ?_⟩
   first
   | exact ⟨congrArg _ (B_false fun hh => h26 ⟨hh.s, hh.t⟩), hle⟩
   | exact ⟨congrArg _ (B_true ⟨hC, hD, hz, fun a ha => ha2 a (by omega), fun b hb => ha4 b (by omega)⟩), hle⟩
   | exact ⟨congrArg _ (B_false fun hh => h199 ((hh.ok.bh b (by omega)).2 x (by omega))), hle⟩
   | exact ⟨congrArg _ (B_false fun hh => h138 ((hh.ok.be a (by omega)).2 y (by omega))), hle⟩
   | exact ⟨congrArg _ (B_false fun hh => by have := (hh.ok.bh b (by omega)).1; omega), hle⟩
   | exact ⟨congrArg _ (B_false fun hh => by have := (hh.ok.be a (by omega)).1; omega), hle⟩
   | exact ⟨congrArg _ (B_false fun hh => by have := hh.z.row k (by omega); omega), hle⟩
   | exact ⟨congrArg _ (B_false fun hh => by rw [allIn_iff.2 fun y hy => by have := hh.z.rng k (by omega) y (by omega); omega] at h78; cases h78), hle⟩
   | exact ⟨congrArg _ (B_false fun hh => by have := hh.z.sl; omega), hle⟩
   | exact ⟨congrArg _ (B_false fun hh => by have := hh.z.bl; omega), hle⟩
   | exact ⟨congrArg _ (B_false fun hh => by have := hh.z.hl; omega), hle⟩
  ·
   try simp only [sps] at h26
   refine .mg rfl rfl rfl rfl rfl rfl (.refl _) (.move rfl) ?_
   refine .mg rfl rfl rfl rfl rfl rfl (.refl _) (.nilCheck rfl) ?_
   refine .mg rfl rfl rfl rfl rfl rfl (.refl _) (.fieldAddr fo_33_2_VProf rfl) ?_
   refine .mg rfl rfl rfl rfl rfl rfl (.refl _) (.load on_23_B rfl (by assumption)) ?_
   refine .mg rfl rfl rfl rfl rfl rfl (.refl _) (.len sl_23_B rfl) ?_
   refine .mg rfl rfl rfl rfl rfl rfl (.refl _) (.move rfl) ?_
   refine .mg rfl rfl rfl rfl rfl rfl (.refl _) (.nilCheck rfl) ?_
   refine .mg rfl rfl rfl rfl rfl rfl (.refl _) (.fieldAddr fo_31_0_B rfl) ?_
   refine .mg rfl rfl rfl rfl rfl rfl (.refl _) (.load on_2_A rfl (by assumption)) ?_
   refine .mg rfl rfl rfl rfl rfl rfl (.refl _) (.cmp rfl rfl rfl) ?_
   refine .m rfl rfl rfl rfl (.refl _) (.pickF rfl rfl) ?_
   refine .m rfl rfl rfl rfl (.refl _) (.move rfl) ?_
   refine .split (fun h38 => ?_) (fun h38 => ?_)
   ·
    try simp only [sps] at h38
    refine .sg rfl rfl rfl rfl rfl rfl ?_
    refine .sg rfl rfl rfl rfl rfl rfl ?_
    refine .sg rfl rfl rfl rfl rfl rfl ?_
    refine .sg rfl rfl rfl rfl rfl rfl ?_
    refine .sg rfl rfl rfl rfl rfl rfl ?_
    refine .sg rfl rfl rfl rfl rfl rfl ?_
    refine .sgc rfl rfl rfl rfl rfl rfl ?_
    refine .sg rfl rfl rfl rfl rfl rfl ?_
    refine .m rfl rfl rfl rfl (.refl _) (.pickT rfl rfl) ?_
    refine .m rfl rfl rfl rfl (.refl _) (.move rfl) ?_
    refine .sg rfl rfl rfl rfl rfl rfl ?_
    refine .sg rfl rfl rfl rfl rfl rfl ?_
    refine .sg rfl rfl rfl rfl rfl rfl ?_
    refine .sg rfl rfl rfl rfl rfl rfl ?_
    refine .sg rfl rfl rfl rfl rfl rfl ?_
    refine .sg rfl rfl rfl rfl rfl rfl ?_
    refine .sgc rfl rfl rfl rfl rfl rfl ?_
    refine .sg rfl rfl rfl rfl rfl rfl ?_
    refine .m rfl rfl rfl rfl (.refl _) (.pickT rfl rfl) ?_
    refine .done ?_
    refine hK4 _ _ ?_
    refine .condT rfl ?_
    refine .seq (fun K6 hK6 => ?_)
    refine .region ?_
    refine .m rfl rfl rfl (.assign rfl) ?_
    refine .nil ?_
    refine hK6 _ _ ?_
    refine .ret ?_
    -- leaf e2
    refine hret _ _ ?_
    refine ⟨_, rfl, ?_⟩
    first
    | exact ⟨congrArg _ (B_false fun hh => h26 ⟨hh.s, hh.t⟩), hle⟩
    | exact ⟨congrArg _ (B_true ⟨hC, hD, hz, fun a ha => ha2 a (by omega), fun b hb => ha4 b (by omega)⟩), hle⟩
    | exact ⟨congrArg _ (B_false fun hh => h199 ((hh.ok.bh b (by omega)).2 x (by omega))), hle⟩
    | exact ⟨congrArg _ (B_false fun hh => h138 ((hh.ok.be a (by omega)).2 y (by omega))), hle⟩
    | exact ⟨congrArg _ (B_false fun hh => by have := (hh.ok.bh b (by omega)).1; omega), hle⟩
    | exact ⟨congrArg _ (B_false fun hh => by have := (hh.ok.be a (by omega)).1; omega), hle⟩
    | exact ⟨congrArg _ (B_false fun hh => by have := hh.z.row k (by omega); omega), hle⟩
    | exact ⟨congrArg _ (B_false fun hh => by rw [allIn_iff.2 fun y hy => by have := hh.z.rng k (by omega) y (by omega); omega] at h78; cases h78), hle⟩
    | exact ⟨congrArg _ (B_false fun hh => by have := hh.z.sl; omega), hle⟩
    | exact ⟨congrArg _ (B_false fun hh => by have := hh.z.bl; omega), hle⟩
    | exact ⟨congrArg _ (B_false fun hh => by have := hh.z.hl; omega), hle⟩
   ·
    try simp only [sps] at h38
    refine .mg rfl rfl rfl rfl rfl rfl (.refl _) (.move rfl) ?_
    refine .mg rfl rfl rfl rfl rfl rfl (.refl _) (.nilCheck rfl) ?_
    refine .mg rfl rfl rfl rfl rfl rfl (.refl _) (.fieldAddr fo_33_3_VProf rfl) ?_
    refine .mg rfl rfl rfl rfl rfl rfl (.refl _) (.load on_26_VProf rfl (by assumption)) ?_
    refine .mg rfl rfl rfl rfl rfl rfl (.refl _) (.len sl_26_VZ rfl) ?_
    refine .mg rfl rfl rfl rfl rfl rfl (.refl _) (.move rfl) ?_
    refine .callQ1g rfl rfl rfl rfl rfl rfl rfl @Try.call58 rfl (arrows_c) (.refl _) ?_
    refine .mg rfl rfl rfl rfl rfl rfl (.refl _) (.cmp rfl rfl rfl) ?_
    refine .m rfl rfl rfl rfl (.refl _) (.pickF rfl rfl) ?_
    refine .m rfl rfl rfl rfl (.refl _) (.move rfl) ?_
    refine .split (fun h48 => ?_) (fun h48 => ?_)
    ·
     try simp only [sps] at h48
     refine .sg rfl rfl rfl rfl rfl rfl ?_
     refine .sg rfl rfl rfl rfl rfl rfl ?_
     refine .sg rfl rfl rfl rfl rfl rfl ?_
     refine .sg rfl rfl rfl rfl rfl rfl ?_
     refine .sg rfl rfl rfl rfl rfl rfl ?_
     refine .sg rfl rfl rfl rfl rfl rfl ?_
     refine .sgc rfl rfl rfl rfl rfl rfl ?_
     refine .sg rfl rfl rfl rfl rfl rfl ?_
     refine .m rfl rfl rfl rfl (.refl _) (.pickT rfl rfl) ?_
     refine .done ?_
     refine hK4 _ _ ?_
     refine .condT rfl ?_
     refine .seq (fun K7 hK7 => ?_)
     refine .region ?_
     refine .m rfl rfl rfl (.assign rfl) ?_
     refine .nil ?_
     refine hK7 _ _ ?_
     refine .ret ?_
     -- leaf e3
     refine hret _ _ ?_
     refine ⟨_, rfl, ?_⟩
     first
     | exact ⟨congrArg _ (B_false fun hh => h26 ⟨hh.s, hh.t⟩), hle⟩
     | exact ⟨congrArg _ (B_true ⟨hC, hD, hz, fun a ha => ha2 a (by omega), fun b hb => ha4 b (by omega)⟩), hle⟩
     | exact ⟨congrArg _ (B_false fun hh => h199 ((hh.ok.bh b (by omega)).2 x (by omega))), hle⟩
     | exact ⟨congrArg _ (B_false fun hh => h138 ((hh.ok.be a (by omega)).2 y (by omega))), hle⟩
     | exact ⟨congrArg _ (B_false fun hh => by have := (hh.ok.bh b (by omega)).1; omega), hle⟩
     | exact ⟨congrArg _ (B_false fun hh => by have := (hh.ok.be a (by omega)).1; omega), hle⟩
     | exact ⟨congrArg _ (B_false fun hh => by have := hh.z.row k (by omega); omega), hle⟩
     | exact ⟨congrArg _ (B_false fun hh => by rw [allIn_iff.2 fun y hy => by have := hh.z.rng k (by omega) y (by omega); omega] at h78; cases h78), hle⟩
     | exact ⟨congrArg _ (B_false fun hh => by have := hh.z.sl; omega), hle⟩
     | exact ⟨congrArg _ (B_false fun hh => by have := hh.z.bl; omega), hle⟩
     | exact ⟨congrArg _ (B_false fun hh => by have := hh.z.hl; omega), hle⟩
    ·
     try simp only [sps] at h48
     refine .mg rfl rfl rfl rfl rfl rfl (.refl _) (.move rfl) ?_
     refine .mg rfl rfl rfl rfl rfl rfl (.refl _) (.nilCheck rfl) ?_
     refine .mg rfl rfl rfl rfl rfl rfl (.refl _) (.fieldAddr fo_33_4_VProf rfl) ?_
     refine .mg rfl rfl rfl rfl rfl rfl (.refl _) (.load on_26_VProf rfl (by assumption)) ?_
     refine .mg rfl rfl rfl rfl rfl rfl (.refl _) (.len sl_26_VZ rfl) ?_
     refine .mg rfl rfl rfl rfl rfl rfl (.refl _) (.move rfl) ?_
     refine .callQ1g rfl rfl rfl rfl rfl rfl rfl @Try.call58 rfl (arrows_c) (.refl _) ?_
     refine .mg rfl rfl rfl rfl rfl rfl (.refl _) (.cmp rfl rfl rfl) ?_
     refine .m rfl rfl rfl rfl (.refl _) (.pickF rfl rfl) ?_
     refine .done ?_
     refine hK4 _ _ ?_
     refine .cond rfl (fun h57 => ?_) (fun h57 => ?_)
     ·
      try simp only [sps] at h57
      refine .seq (fun K8 hK8 => ?_)
      refine .region ?_
      refine .m rfl rfl rfl (.assign rfl) ?_
      refine .nil ?_
      refine hK8 _ _ ?_
      refine .ret ?_
      -- leaf e4
      refine hret _ _ ?_
      refine ⟨_, rfl, ?_⟩
      first
      | exact ⟨congrArg _ (B_false fun hh => h26 ⟨hh.s, hh.t⟩), hle⟩
      | exact ⟨congrArg _ (B_true ⟨hC, hD, hz, fun a ha => ha2 a (by omega), fun b hb => ha4 b (by omega)⟩), hle⟩
      | exact ⟨congrArg _ (B_false fun hh => h199 ((hh.ok.bh b (by omega)).2 x (by omega))), hle⟩
      | exact ⟨congrArg _ (B_false fun hh => h138 ((hh.ok.be a (by omega)).2 y (by omega))), hle⟩
      | exact ⟨congrArg _ (B_false fun hh => by have := (hh.ok.bh b (by omega)).1; omega), hle⟩
      | exact ⟨congrArg _ (B_false fun hh => by have := (hh.ok.be a (by omega)).1; omega), hle⟩
      | exact ⟨congrArg _ (B_false fun hh => by have := hh.z.row k (by omega); omega), hle⟩
      | exact ⟨congrArg _ (B_false fun hh => by rw [allIn_iff.2 fun y hy => by have := hh.z.rng k (by omega) y (by omega); omega] at h78; cases h78), hle⟩
      | exact ⟨congrArg _ (B_false fun hh => by have := hh.z.sl; omega), hle⟩
      | exact ⟨congrArg _ (B_false fun hh => by have := hh.z.bl; omega), hle⟩
      | exact ⟨congrArg _ (B_false fun hh => by have := hh.z.hl; omega), hle⟩
     ·
      simp only [sps] at h57
      refine .skip ?_
      refine hK3 _ _ ?_
      refine .seq (fun K9 hK9 => ?_)
      refine .seq (fun K10 hK10 => ?_)
      refine .region ?_
      refine .m rfl rfl rfl (.move rfl) ?_
      refine .m rfl rfl rfl (.nilCheck rfl) ?_
      refine .m rfl rfl rfl (.fieldAddr fo_33_2_VProf rfl) ?_
      refine .m rfl rfl rfl (.load on_23_B rfl (by assumption)) ?_
      refine .m rfl rfl rfl (.len sl_23_B rfl) ?_
      refine .m rfl rfl rfl (.move rfl) ?_
      refine .nil ?_
      refine hK10 _ _ ?_
      refine .block ?_
      have hC := h26.1
      have hD := h26.2
      have q1 := hC.1.tl
      have q2 := hD.1.tl
      refine .loopR (σ := Nat) [(0, some _), (3, some _), (4, some _), (61, some _), (62, some _)] (fun k => [(63, some (.int .i64 (k : Int)))]) (fun k H' => H23 = H' ∧ (k : Int) ≤ m.sz.length ∧ ∀ x, x < k → ((m.sz.getD x []).length : Int) = m.t.obj ∧ ∀ y, y < (m.sz.getD x []).length → 0 ≤ (m.sz.getD x []).getD y 0 ∧ (m.sz.getD x []).getD y 0 < 65) (fun k => (m.sz.length - k : Int).toNat) (0) ⟨rfl, rfl, rfl, rfl, rfl, trivial⟩ ⟨rfl, trivial⟩ ?_ ?_
      ·
       refine ⟨rfl, ?_⟩
       exact ⟨by omega, fun _ _ => by omega⟩
      ·
       rintro k _ ⟨rfl, hI⟩ KL1 hKL1
       refine .forget (fr' := [(63, some (.int .i64 (k : Int))), (0, some _), (3, some _), (4, some _), (61, some _), (62, some _)]) ⟨rfl, rfl, rfl, rfl, rfl, rfl, trivial⟩ ?_
       obtain ⟨hk1, ha1⟩ := hI
       refine .seq (fun K11 hK11 => ?_)
       refine .region ?_
       refine .m rfl rfl rfl (.cmp rfl rfl rfl) ?_
       refine .nil ?_
       refine hK11 _ _ ?_
       refine .seq (fun K12 hK12 => ?_)
       refine .cond rfl (fun h64 => ?_) (fun h64 => ?_)
       ·
        simp only [sps] at h64
        have r1 := i2.2 k (by omega)
        have r2 := s4 k
        refine .skip ?_
        refine hK12 _ _ ?_
        refine .seq (fun K13 hK13 => ?_)
        refine .block ?_
        refine .seq (fun K14 hK14 => ?_)
        refine .region ?_
        refine .m rfl rfl rfl (.idxN sl_23_B (Intss.sl (by assumption)) rfl rfl (by omega)) ?_
        refine .m rfl rfl rfl (.loadR on_22_B (by assumption) rfl (by omega)) ?_
        refine .m rfl rfl rfl (.assign rfl) ?_
        refine .nil ?_
        refine hK14 _ _ ?_
        refine .seq (fun K15 hK15 => ?_)
        refine .region ?_
        refine .m rfl rfl rfl (.move rfl) ?_
        refine .m rfl rfl rfl (.len sl_22_A rfl) ?_
        refine .m rfl rfl rfl (.move rfl) ?_
        refine .m rfl rfl rfl (.nilCheck rfl) ?_
        refine .m rfl rfl rfl (.fieldAddr fo_31_0_B rfl) ?_
        refine .m rfl rfl rfl (.load on_2_A rfl (by assumption)) ?_
        refine .m rfl rfl rfl (.cmp rfl rfl rfl) ?_
        refine .m rfl rfl rfl (.move rfl) ?_
        refine .split (fun h74 => ?_) (fun h74 => ?_)
        ·
         try simp only [sps] at h74
         refine .sg rfl rfl rfl rfl rfl ?_
         refine .sg rfl rfl rfl rfl rfl ?_
         refine .sg rfl rfl rfl rfl rfl ?_
         refine .m rfl rfl rfl (.pickT rfl rfl) ?_
         refine .nil ?_
         refine hK15 _ _ ?_
         refine .condT rfl ?_
         refine .seq (fun K16 hK16 => ?_)
         refine .region ?_
         refine .m rfl rfl rfl (.assign rfl) ?_
         refine .nil ?_
         refine hK16 _ _ ?_
         refine .ret ?_
         -- leaf e5
         refine hret _ _ ?_
         refine ⟨_, rfl, ?_⟩
         first
         | exact ⟨congrArg _ (B_false fun hh => h26 ⟨hh.s, hh.t⟩), hle⟩
         | exact ⟨congrArg _ (B_true ⟨hC, hD, hz, fun a ha => ha2 a (by omega), fun b hb => ha4 b (by omega)⟩), hle⟩
         | exact ⟨congrArg _ (B_false fun hh => h199 ((hh.ok.bh b (by omega)).2 x (by omega))), hle⟩
         | exact ⟨congrArg _ (B_false fun hh => h138 ((hh.ok.be a (by omega)).2 y (by omega))), hle⟩
         | exact ⟨congrArg _ (B_false fun hh => by have := (hh.ok.bh b (by omega)).1; omega), hle⟩
         | exact ⟨congrArg _ (B_false fun hh => by have := (hh.ok.be a (by omega)).1; omega), hle⟩
         | exact ⟨congrArg _ (B_false fun hh => by have := hh.z.row k (by omega); omega), hle⟩
         | exact ⟨congrArg _ (B_false fun hh => by rw [allIn_iff.2 fun y hy => by have := hh.z.rng k (by omega) y (by omega); omega] at h78; cases h78), hle⟩
         | exact ⟨congrArg _ (B_false fun hh => by have := hh.z.sl; omega), hle⟩
         | exact ⟨congrArg _ (B_false fun hh => by have := hh.z.bl; omega), hle⟩
         | exact ⟨congrArg _ (B_false fun hh => by have := hh.z.hl; omega), hle⟩
        ·
         try simp only [sps] at h74
         refine .mg rfl rfl rfl rfl rfl (.move rfl) ?_
         refine .callQg rfl rfl rfl rfl rfl rfl @Try.call59 rfl (within_c) ?_
         refine .mg rfl rfl rfl rfl rfl (.not rfl) ?_
         refine .m rfl rfl rfl (.pickF rfl rfl) ?_
         refine .nil ?_
         refine hK15 _ _ ?_
         refine .cond rfl (fun h78 => ?_) (fun h78 => ?_)
         ·
          try simp only [sps] at h78
          refine .seq (fun K17 hK17 => ?_)
          refine .region ?_
          refine .m rfl rfl rfl (.assign rfl) ?_
          refine .nil ?_
          refine hK17 _ _ ?_
          refine .ret ?_
          -- leaf e6
          refine hret _ _ ?_
          refine ⟨_, rfl, ?_⟩
          first
          | exact ⟨congrArg _ (B_false fun hh => h26 ⟨hh.s, hh.t⟩), hle⟩
          | exact ⟨congrArg _ (B_true ⟨hC, hD, hz, fun a ha => ha2 a (by omega), fun b hb => ha4 b (by omega)⟩), hle⟩
          | exact ⟨congrArg _ (B_false fun hh => h199 ((hh.ok.bh b (by omega)).2 x (by omega))), hle⟩
          | exact ⟨congrArg _ (B_false fun hh => h138 ((hh.ok.be a (by omega)).2 y (by omega))), hle⟩
          | exact ⟨congrArg _ (B_false fun hh => by have := (hh.ok.bh b (by omega)).1; omega), hle⟩
          | exact ⟨congrArg _ (B_false fun hh => by have := (hh.ok.be a (by omega)).1; omega), hle⟩
          | exact ⟨congrArg _ (B_false fun hh => by have := hh.z.row k (by omega); omega), hle⟩
          | exact ⟨congrArg _ (B_false fun hh => by rw [allIn_iff.2 fun y hy => by have := hh.z.rng k (by omega) y (by omega); omega] at h78; cases h78), hle⟩
          | exact ⟨congrArg _ (B_false fun hh => by have := hh.z.sl; omega), hle⟩
          | exact ⟨congrArg _ (B_false fun hh => by have := hh.z.bl; omega), hle⟩
          | exact ⟨congrArg _ (B_false fun hh => by have := hh.z.hl; omega), hle⟩
         ·
          try simp only [sps] at h78
          refine .skip ?_
          refine hK13 _ _ ?_
          refine .region ?_
          refine .m rfl rfl rfl (.add rfl rfl rfl (by omega) (by omega)) ?_
          refine .m rfl rfl rfl (.move rfl) ?_
          refine .nil ?_
          refine hKL1 (k + 1) _ _ ?_ ?_ ⟨rfl, rfl, rfl, rfl, rfl, rfl, trivial⟩
          ·
           refine ⟨rfl, ?_⟩
           refine ⟨by omega, fun x hx => ?_⟩
           by_cases hltq : x < k
           · exact ha1 x hltq
           · obtain rfl : x = k := by omega
             exact ⟨h74, h78⟩
          ·
           omega
       ·
        try simp only [sps] at h64
        refine .exit ?_
        refine hK9 _ _ ?_
        refine .seq (fun K18 hK18 => ?_)
        refine .seq (fun K19 hK19 => ?_)
        refine .region ?_
        refine .m rfl rfl rfl (.move rfl) ?_
        refine .m rfl rfl rfl (.nilCheck rfl) ?_
        refine .m rfl rfl rfl (.fieldAddr fo_33_3_VProf rfl) ?_
        refine .m rfl rfl rfl (.load on_26_VProf rfl (by assumption)) ?_
        refine .m rfl rfl rfl (.len sl_26_VZ rfl) ?_
        refine .m rfl rfl rfl (.move rfl) ?_
        refine .nil ?_
        refine hK19 _ _ ?_
        refine .block ?_
        have hz : m.Sized := ⟨by omega, by omega, by omega, fun x hx => (ha1 x (by omega)).1, fun x hx y hy => by have := (ha1 x (by omega)).2 y hy; omega⟩
        refine .loopR (σ := Nat) [(0, some _), (3, some _), (4, some _), (83, some _), (84, some _)] (fun a => [(85, some (.int .i64 (a : Int)))]) (fun a H' => H23 = H' ∧ (a : Int) ≤ m.be.length ∧ ∀ a', a' < a → ((m.be.getD a' []).length : Int) = m.t.obj ∧ ∀ y, y < (m.be.getD a' []).length → m.BeOk a' y) (fun a => (m.be.length - a : Int).toNat) (0) ⟨rfl, rfl, rfl, rfl, rfl, trivial⟩ ⟨rfl, trivial⟩ ?_ ?_
        ·
         refine ⟨rfl, ?_⟩
         exact ⟨by omega, fun _ _ => by omega⟩
        ·
         rintro a _ ⟨rfl, hI⟩ KL2 hKL2
         refine .forget (fr' := [(85, some (.int .i64 (a : Int))), (0, some _), (3, some _), (4, some _), (83, some _), (84, some _)]) ⟨rfl, rfl, rfl, rfl, rfl, rfl, trivial⟩ ?_
         obtain ⟨hk2, ha2⟩ := hI
         refine .seq (fun K20 hK20 => ?_)
         refine .region ?_
         refine .m rfl rfl rfl (.cmp rfl rfl rfl) ?_
         refine .nil ?_
         refine hK20 _ _ ?_
         refine .seq (fun K21 hK21 => ?_)
         refine .cond rfl (fun h86 => ?_) (fun h86 => ?_)
         ·
          simp only [sps] at h86
          have r1 := i3.2 a (by omega)
          have r2 := s6 a
          have r3 := hz.b hC (a := a) (by omega)
          refine .skip ?_
          refine hK21 _ _ ?_
          refine .seq (fun K22 hK22 => ?_)
          refine .block ?_
          refine .seq (fun K23 hK23 => ?_)
          refine .region ?_
          refine .m rfl rfl rfl (.move rfl) ?_
          refine .m rfl rfl rfl (.idxN sl_26_VZ (Intsss.sl (by assumption)) rfl rfl (by omega)) ?_
          refine .m rfl rfl rfl (.loadRR on_23_B (by assumption) rfl (by omega)) ?_
          refine .m rfl rfl rfl (.assign rfl) ?_
          refine .m rfl rfl rfl (.assign rfl) ?_
          refine .nil ?_
          refine hK23 _ _ ?_
          refine .seq (fun K24 hK24 => ?_)
          refine .seq (fun K25 hK25 => ?_)
          refine .region ?_
          refine .m rfl rfl rfl (.move rfl) ?_
          refine .m rfl rfl rfl (.len sl_23_B rfl) ?_
          refine .m rfl rfl rfl (.move rfl) ?_
          refine .m rfl rfl rfl (.nilCheck rfl) ?_
          refine .m rfl rfl rfl (.fieldAddr fo_31_0_B rfl) ?_
          refine .m rfl rfl rfl (.load on_2_A rfl (by assumption)) ?_
          refine .m rfl rfl rfl (.cmp rfl rfl rfl) ?_
          refine .nil ?_
          refine hK25 _ _ ?_
          refine .cond rfl (fun h96 => ?_) (fun h96 => ?_)
          ·
           try simp only [sps] at h96
           refine .seq (fun K26 hK26 => ?_)
           refine .region ?_
           refine .m rfl rfl rfl (.assign rfl) ?_
           refine .nil ?_
           refine hK26 _ _ ?_
           refine .ret ?_
           -- leaf e7
           refine hret _ _ ?_
           refine ⟨_, rfl, ?_⟩
           first
           | exact ⟨congrArg _ (B_false fun hh => h26 ⟨hh.s, hh.t⟩), hle⟩
           | exact ⟨congrArg _ (B_true ⟨hC, hD, hz, fun a ha => ha2 a (by omega), fun b hb => ha4 b (by omega)⟩), hle⟩
           | exact ⟨congrArg _ (B_false fun hh => h199 ((hh.ok.bh b (by omega)).2 x (by omega))), hle⟩
           | exact ⟨congrArg _ (B_false fun hh => h138 ((hh.ok.be a (by omega)).2 y (by omega))), hle⟩
           | exact ⟨congrArg _ (B_false fun hh => by have := (hh.ok.bh b (by omega)).1; omega), hle⟩
           | exact ⟨congrArg _ (B_false fun hh => by have := (hh.ok.be a (by omega)).1; omega), hle⟩
           | exact ⟨congrArg _ (B_false fun hh => by have := hh.z.row k (by omega); omega), hle⟩
           | exact ⟨congrArg _ (B_false fun hh => by rw [allIn_iff.2 fun y hy => by have := hh.z.rng k (by omega) y (by omega); omega] at h78; cases h78), hle⟩
           | exact ⟨congrArg _ (B_false fun hh => by have := hh.z.sl; omega), hle⟩
           | exact ⟨congrArg _ (B_false fun hh => by have := hh.z.bl; omega), hle⟩
           | exact ⟨congrArg _ (B_false fun hh => by have := hh.z.hl; omega), hle⟩
          ·
           try simp only [sps] at h96
           refine .skip ?_
           refine hK24 _ _ ?_
           refine .seq (fun K27 hK27 => ?_)
           refine .region ?_
           refine .m rfl rfl rfl (.move rfl) ?_
           refine .m rfl rfl rfl (.len sl_23_B rfl) ?_
           refine .m rfl rfl rfl (.move rfl) ?_
           refine .nil ?_
           refine hK27 _ _ ?_
           refine .block ?_
           refine .loopR (σ := Nat) [(0, some _), (3, some _), (4, some _), (7, some _), (83, some _), (84, some _), (85, some _), (97, some _), (98, some _)] (fun y => [(99, some (.int .i64 (y : Int)))]) (fun y H' => H23 = H' ∧ (y : Int) ≤ (m.be.getD a []).length ∧ ∀ y', y' < y → m.BeOk a y') (fun y => ((m.be.getD a []).length - y : Int).toNat) (0) ⟨rfl, rfl, rfl, rfl, rfl, rfl, rfl, rfl, rfl, trivial⟩ ⟨rfl, trivial⟩ ?_ ?_
           ·
            refine ⟨rfl, ?_⟩
            exact ⟨by omega, fun _ _ => by omega⟩
           ·
            rintro y _ ⟨rfl, hI⟩ KL3 hKL3
            refine .forget (fr' := [(99, some (.int .i64 (y : Int))), (0, some _), (3, some _), (4, some _), (7, some _), (83, some _), (84, some _), (85, some _), (97, some _), (98, some _)]) ⟨rfl, rfl, rfl, rfl, rfl, rfl, rfl, rfl, rfl, rfl, trivial⟩ ?_
            obtain ⟨hk3, ha3⟩ := hI
            refine .seq (fun K28 hK28 => ?_)
            refine .region ?_
            refine .m rfl rfl rfl (.cmp rfl rfl rfl) ?_
            refine .nil ?_
            refine hK28 _ _ ?_
            refine .seq (fun K29 hK29 => ?_)
            refine .cond rfl (fun h100 => ?_) (fun h100 => ?_)
            ·
             simp only [sps] at h100
             have t1 := r1.2 y (by omega)
             have t2 := r2.2 y
             have t3 := i2.2 (m.s.src.getD a 0).toNat (by omega)
             have t4 := i2.2 (m.s.tgt.getD a 0).toNat (by omega)
             have t5 := hz.rng (m.s.src.getD a 0).toNat (by omega) y (by omega)
             refine .skip ?_
             refine hK29 _ _ ?_
             refine .seq (fun K30 hK30 => ?_)
             refine .block ?_
             refine .seq (fun K31 hK31 => ?_)
             refine .region ?_
             refine .m rfl rfl rfl (.move rfl) ?_
             refine .m rfl rfl rfl (.idxN sl_23_B (Intss.sl (by assumption)) rfl rfl (by omega)) ?_
             refine .m rfl rfl rfl (.loadR on_22_B (by assumption) rfl (by omega)) ?_
             refine .m rfl rfl rfl (.assign rfl) ?_
             refine .m rfl rfl rfl (.assign rfl) ?_
             refine .nil ?_
             refine hK31 _ _ ?_
             refine .seq (fun K32 hK32 => ?_)
             refine .regionD mixed_orders_B (.q 0 (.q 1 (.q 2 (.q 3 (.q 4 (.q 5 (.q 6 (.q 7 (.q 8 (.q 9 (.q 10 (.q 11 (.q 12 (.q 13 (.q 14 (.q 15 (.q 16 (.q 17 (.q 18 (.q 19 (.q 20 (.q 21 (.q 22 (.q 23 (.q 24 (.q 25 (.q 26 (.q 27 (.q 28 (.q 29 (.q 30 (.q 31 (.q 32 (.c 33 0 (.q 34 (.done)))))))))))))))))))))))))))))))))))) (by kernel_rfl) ?_
             refine .m rfl rfl rfl rfl (.refl _) (.move rfl) ?_
             refine .m rfl rfl rfl rfl (.refl _) (.move rfl) ?_
             refine .m rfl rfl rfl rfl (.refl _) (.nilCheck rfl) ?_
             refine .m rfl rfl rfl rfl (.refl _) (.fieldAddr fo_33_2_VProf rfl) ?_
             refine .m rfl rfl rfl rfl (.refl _) (.load on_23_B rfl (by assumption)) ?_
             refine .m rfl rfl rfl rfl (.refl _) (.move rfl) ?_
             refine .m rfl rfl rfl rfl (.refl _) (.nilCheck rfl) ?_
             refine .m rfl rfl rfl rfl (.refl _) (.fieldAddr fo_31_2_B rfl) ?_
             refine .m rfl rfl rfl rfl (.refl _) (.load on_22_B rfl (by assumption)) ?_
             refine .m rfl rfl rfl rfl (.refl _) (.move rfl) ?_
             refine .m rfl rfl rfl rfl (.refl _) (.idxN sl_22_A (by assumption) rfl rfl (by omega)) ?_
             refine .m rfl rfl rfl rfl (.refl _) (.loadI on_2_A (by assumption) rfl (by omega)) ?_
             refine .m rfl rfl rfl rfl (.refl _) (.idx1 sl_23_B (Intss.sl (by assumption)) rfl rfl (by omega) (by omega)) ?_
             refine .m rfl rfl rfl rfl (.refl _) (.loadR on_22_B (by assumption) rfl (by omega)) ?_
             refine .m rfl rfl rfl rfl (.refl _) (.move rfl) ?_
             refine .m rfl rfl rfl rfl (.refl _) (.idxN sl_22_A (by assumption) rfl rfl (by omega)) ?_
             refine .m rfl rfl rfl rfl (.refl _) (.loadI on_2_A (by assumption) rfl (by omega)) ?_
             refine .m rfl rfl rfl rfl (.refl _) (.move rfl) ?_
             refine .m rfl rfl rfl rfl (.refl _) (.nilCheck rfl) ?_
             refine .m rfl rfl rfl rfl (.refl _) (.fieldAddr fo_33_2_VProf rfl) ?_
             refine .m rfl rfl rfl rfl (.refl _) (.load on_23_B rfl (by assumption)) ?_
             refine .m rfl rfl rfl rfl (.refl _) (.move rfl) ?_
             refine .m rfl rfl rfl rfl (.refl _) (.nilCheck rfl) ?_
             refine .m rfl rfl rfl rfl (.refl _) (.fieldAddr fo_31_1_B rfl) ?_
             refine .m rfl rfl rfl rfl (.refl _) (.load on_22_B rfl (by assumption)) ?_
             refine .m rfl rfl rfl rfl (.refl _) (.move rfl) ?_
             refine .m rfl rfl rfl rfl (.refl _) (.idxN sl_22_A (by assumption) rfl rfl (by omega)) ?_
             refine .m rfl rfl rfl rfl (.refl _) (.loadI on_2_A (by assumption) rfl (by omega)) ?_
             refine .m rfl rfl rfl rfl (.refl _) (.idx1 sl_23_B (Intss.sl (by assumption)) rfl rfl (by omega) (by omega)) ?_
             refine .m rfl rfl rfl rfl (.refl _) (.loadR on_22_B (by assumption) rfl (by omega)) ?_
             refine .m rfl rfl rfl rfl (.refl _) (.move rfl) ?_
             refine .m rfl rfl rfl rfl (.refl _) (.idxN sl_22_A (by assumption) rfl rfl (by omega)) ?_
             refine .m rfl rfl rfl rfl (.refl _) (.loadI on_2_A (by assumption) rfl (by omega)) ?_
             refine .callQ0 rfl rfl rfl rfl rfl @Try.call52 rfl (isMapOf_c) ?_
             refine .m rfl rfl rfl rfl (.refl _) (.not rfl) ?_
             refine .done ?_
             refine hK32 _ _ ?_
             refine .cond rfl (fun h138 => ?_) (fun h138 => ?_)
             ·
              simp only [B_iff, B_not, Bool.not_eq_true', Bool.not_eq_false'] at h138
              refine .seq (fun K33 hK33 => ?_)
              refine .region ?_
              refine .m rfl rfl rfl (.assign rfl) ?_
              refine .nil ?_
              refine hK33 _ _ ?_
              refine .ret ?_
              -- leaf e8
              refine hret _ _ ?_
              refine ⟨_, rfl, ?_⟩
              first
              | exact ⟨congrArg _ (B_false fun hh => h26 ⟨hh.s, hh.t⟩), hle⟩
              | exact ⟨congrArg _ (B_true ⟨hC, hD, hz, fun a ha => ha2 a (by omega), fun b hb => ha4 b (by omega)⟩), hle⟩
              | exact ⟨congrArg _ (B_false fun hh => h199 ((hh.ok.bh b (by omega)).2 x (by omega))), hle⟩
              | exact ⟨congrArg _ (B_false fun hh => h138 ((hh.ok.be a (by omega)).2 y (by omega))), hle⟩
              | exact ⟨congrArg _ (B_false fun hh => by have := (hh.ok.bh b (by omega)).1; omega), hle⟩
              | exact ⟨congrArg _ (B_false fun hh => by have := (hh.ok.be a (by omega)).1; omega), hle⟩
              | exact ⟨congrArg _ (B_false fun hh => by have := hh.z.row k (by omega); omega), hle⟩
              | exact ⟨congrArg _ (B_false fun hh => by rw [allIn_iff.2 fun y hy => by have := hh.z.rng k (by omega) y (by omega); omega] at h78; cases h78), hle⟩
              | exact ⟨congrArg _ (B_false fun hh => by have := hh.z.sl; omega), hle⟩
              | exact ⟨congrArg _ (B_false fun hh => by have := hh.z.bl; omega), hle⟩
              | exact ⟨congrArg _ (B_false fun hh => by have := hh.z.hl; omega), hle⟩
             ·
              simp only [B_iff, B_not, Bool.not_eq_true', Bool.not_eq_false'] at h138
              refine .skip ?_
              refine hK30 _ _ ?_
              refine .region ?_
              refine .m rfl rfl rfl (.add rfl rfl rfl (by omega) (by omega)) ?_
              refine .m rfl rfl rfl (.move rfl) ?_
              refine .nil ?_
              refine hKL3 (y + 1) _ _ ?_ ?_ ⟨rfl, rfl, rfl, rfl, rfl, rfl, rfl, rfl, rfl, rfl, trivial⟩
              ·
               refine ⟨rfl, ?_⟩
               refine ⟨by omega, fun y' hx => ?_⟩
               by_cases hltq : y' < y
               · exact ha3 y' hltq
               · obtain rfl : y' = y := by omega
                 exact h138
              ·
               omega
            ·
             try simp only [sps] at h100
             refine .exit ?_
             refine hK22 _ _ ?_
             refine .region ?_
             refine .m rfl rfl rfl (.add rfl rfl rfl (by omega) (by omega)) ?_
             refine .m rfl rfl rfl (.move rfl) ?_
             refine .nil ?_
             refine hKL2 (a + 1) _ _ ?_ ?_ ⟨rfl, rfl, rfl, rfl, rfl, rfl, trivial⟩
             ·
              refine ⟨rfl, ?_⟩
              refine ⟨by omega, fun a' hx => ?_⟩
              by_cases hltq : a' < a
              · exact ha2 a' hltq
              · obtain rfl : a' = a := by omega
                exact ⟨h96, fun y hy => ha3 y (by omega)⟩
             ·
              omega
         ·
          try simp only [sps] at h86
          refine .exit ?_
          refine hK18 _ _ ?_
          refine .seq (fun K34 hK34 => ?_)
          refine .seq (fun K35 hK35 => ?_)
          refine .region ?_
          refine .m rfl rfl rfl (.move rfl) ?_
          refine .m rfl rfl rfl (.nilCheck rfl) ?_
          refine .m rfl rfl rfl (.fieldAddr fo_33_4_VProf rfl) ?_
          refine .m rfl rfl rfl (.load on_26_VProf rfl (by assumption)) ?_
          refine .m rfl rfl rfl (.len sl_26_VZ rfl) ?_
          refine .m rfl rfl rfl (.move rfl) ?_
          refine .nil ?_
          refine hK35 _ _ ?_
          refine .block ?_
          refine .loopR (σ := Nat) [(0, some _), (3, some _), (4, some _), (144, some _), (145, some _)] (fun b => [(146, some (.int .i64 (b : Int)))]) (fun b H' => H23 = H' ∧ (b : Int) ≤ m.bh.length ∧ ∀ b', b' < b → ((m.bh.getD b' []).length : Int) = m.s.obj ∧ ∀ x, x < (m.bh.getD b' []).length → m.BhOk b' x) (fun b => (m.bh.length - b : Int).toNat) (0) ⟨rfl, rfl, rfl, rfl, rfl, trivial⟩ ⟨rfl, trivial⟩ ?_ ?_
          ·
           refine ⟨rfl, ?_⟩
           exact ⟨by omega, fun _ _ => by omega⟩
          ·
           rintro b _ ⟨rfl, hI⟩ KL4 hKL4
           refine .forget (fr' := [(146, some (.int .i64 (b : Int))), (0, some _), (3, some _), (4, some _), (144, some _), (145, some _)]) ⟨rfl, rfl, rfl, rfl, rfl, rfl, trivial⟩ ?_
           obtain ⟨hk4, ha4⟩ := hI
           refine .seq (fun K36 hK36 => ?_)
           refine .region ?_
           refine .m rfl rfl rfl (.cmp rfl rfl rfl) ?_
           refine .nil ?_
           refine hK36 _ _ ?_
           refine .seq (fun K37 hK37 => ?_)
           refine .cond rfl (fun h147 => ?_) (fun h147 => ?_)
           ·
            simp only [sps] at h147
            have r1 := i4.2 b (by omega)
            have r2 := s8 b
            have r3 := hz.h hD (b := b) (by omega)
            refine .skip ?_
            refine hK37 _ _ ?_
            refine .seq (fun K38 hK38 => ?_)
            refine .block ?_
            refine .seq (fun K39 hK39 => ?_)
            refine .region ?_
            refine .m rfl rfl rfl (.move rfl) ?_
            refine .m rfl rfl rfl (.idxN sl_26_VZ (Intsss.sl (by assumption)) rfl rfl (by omega)) ?_
            refine .m rfl rfl rfl (.loadRR on_23_B (by assumption) rfl (by omega)) ?_
            refine .m rfl rfl rfl (.assign rfl) ?_
            refine .m rfl rfl rfl (.assign rfl) ?_
            refine .nil ?_
            refine hK39 _ _ ?_
            refine .seq (fun K40 hK40 => ?_)
            refine .seq (fun K41 hK41 => ?_)
            refine .region ?_
            refine .m rfl rfl rfl (.move rfl) ?_
            refine .m rfl rfl rfl (.len sl_23_B rfl) ?_
            refine .m rfl rfl rfl (.move rfl) ?_
            refine .m rfl rfl rfl (.nilCheck rfl) ?_
            refine .m rfl rfl rfl (.fieldAddr fo_31_0_B rfl) ?_
            refine .m rfl rfl rfl (.load on_2_A rfl (by assumption)) ?_
            refine .m rfl rfl rfl (.cmp rfl rfl rfl) ?_
            refine .nil ?_
            refine hK41 _ _ ?_
            refine .cond rfl (fun h157 => ?_) (fun h157 => ?_)
            ·
             try simp only [sps] at h157
             refine .seq (fun K42 hK42 => ?_)
             refine .region ?_
             refine .m rfl rfl rfl (.assign rfl) ?_
             refine .nil ?_
             refine hK42 _ _ ?_
             refine .ret ?_
             -- leaf e9
             refine hret _ _ ?_
             refine ⟨_, rfl, ?_⟩
             first
             | exact ⟨congrArg _ (B_false fun hh => h26 ⟨hh.s, hh.t⟩), hle⟩
             | exact ⟨congrArg _ (B_true ⟨hC, hD, hz, fun a ha => ha2 a (by omega), fun b hb => ha4 b (by omega)⟩), hle⟩
             | exact ⟨congrArg _ (B_false fun hh => h199 ((hh.ok.bh b (by omega)).2 x (by omega))), hle⟩
             | exact ⟨congrArg _ (B_false fun hh => h138 ((hh.ok.be a (by omega)).2 y (by omega))), hle⟩
             | exact ⟨congrArg _ (B_false fun hh => by have := (hh.ok.bh b (by omega)).1; omega), hle⟩
             | exact ⟨congrArg _ (B_false fun hh => by have := (hh.ok.be a (by omega)).1; omega), hle⟩
             | exact ⟨congrArg _ (B_false fun hh => by have := hh.z.row k (by omega); omega), hle⟩
             | exact ⟨congrArg _ (B_false fun hh => by rw [allIn_iff.2 fun y hy => by have := hh.z.rng k (by omega) y (by omega); omega] at h78; cases h78), hle⟩
             | exact ⟨congrArg _ (B_false fun hh => by have := hh.z.sl; omega), hle⟩
             | exact ⟨congrArg _ (B_false fun hh => by have := hh.z.bl; omega), hle⟩
             | exact ⟨congrArg _ (B_false fun hh => by have := hh.z.hl; omega), hle⟩
            ·
             try simp only [sps] at h157
             refine .skip ?_
             refine hK40 _ _ ?_
             refine .seq (fun K43 hK43 => ?_)
             refine .region ?_
             refine .m rfl rfl rfl (.move rfl) ?_
             refine .m rfl rfl rfl (.len sl_23_B rfl) ?_
             refine .m rfl rfl rfl (.move rfl) ?_
             refine .nil ?_
             refine hK43 _ _ ?_
             refine .block ?_
             refine .loopR (σ := Nat) [(0, some _), (3, some _), (4, some _), (11, some _), (144, some _), (145, some _), (146, some _), (158, some _), (159, some _)] (fun x => [(160, some (.int .i64 (x : Int)))]) (fun x H' => H23 = H' ∧ (x : Int) ≤ (m.bh.getD b []).length ∧ ∀ x', x' < x → m.BhOk b x') (fun x => ((m.bh.getD b []).length - x : Int).toNat) (0) ⟨rfl, rfl, rfl, rfl, rfl, rfl, rfl, rfl, rfl, trivial⟩ ⟨rfl, trivial⟩ ?_ ?_
             ·
              refine ⟨rfl, ?_⟩
              exact ⟨by omega, fun _ _ => by omega⟩
             ·
              rintro x _ ⟨rfl, hI⟩ KL5 hKL5
              refine .forget (fr' := [(160, some (.int .i64 (x : Int))), (0, some _), (3, some _), (4, some _), (11, some _), (144, some _), (145, some _), (146, some _), (158, some _), (159, some _)]) ⟨rfl, rfl, rfl, rfl, rfl, rfl, rfl, rfl, rfl, rfl, trivial⟩ ?_
              obtain ⟨hk5, ha5⟩ := hI
              refine .seq (fun K44 hK44 => ?_)
              refine .region ?_
              refine .m rfl rfl rfl (.cmp rfl rfl rfl) ?_
              refine .nil ?_
              refine hK44 _ _ ?_
              refine .seq (fun K45 hK45 => ?_)
              refine .cond rfl (fun h161 => ?_) (fun h161 => ?_)
              ·
               simp only [sps] at h161
               have t1 := r1.2 x (by omega)
               have t2 := r2.2 x
               have t3 := i2.2 x (by omega)
               have t4 := hz.row x (by omega)
               have t5 := hz.rng x (by omega) (m.t.tgt.getD b 0).toNat (by omega)
               refine .skip ?_
               refine hK45 _ _ ?_
               refine .seq (fun K46 hK46 => ?_)
               refine .block ?_
               refine .seq (fun K47 hK47 => ?_)
               refine .region ?_
               refine .m rfl rfl rfl (.move rfl) ?_
               refine .m rfl rfl rfl (.idxN sl_23_B (Intss.sl (by assumption)) rfl rfl (by omega)) ?_
               refine .m rfl rfl rfl (.loadR on_22_B (by assumption) rfl (by omega)) ?_
               refine .m rfl rfl rfl (.assign rfl) ?_
               refine .m rfl rfl rfl (.assign rfl) ?_
               refine .nil ?_
               refine hK47 _ _ ?_
               refine .seq (fun K48 hK48 => ?_)
               refine .regionD mixed_orders_B (.q 0 (.q 1 (.q 2 (.q 3 (.q 4 (.q 5 (.q 6 (.q 7 (.q 8 (.q 9 (.q 10 (.q 11 (.q 12 (.q 13 (.q 14 (.q 15 (.q 16 (.q 17 (.q 18 (.q 19 (.q 20 (.q 21 (.q 22 (.q 23 (.q 24 (.q 25 (.q 26 (.q 27 (.q 28 (.q 29 (.q 30 (.q 31 (.q 32 (.c 33 0 (.q 34 (.done)))))))))))))))))))))))))))))))))))) (by kernel_rfl) ?_
               refine .m rfl rfl rfl rfl (.refl _) (.move rfl) ?_
               refine .m rfl rfl rfl rfl (.refl _) (.move rfl) ?_
               refine .m rfl rfl rfl rfl (.refl _) (.nilCheck rfl) ?_
               refine .m rfl rfl rfl rfl (.refl _) (.fieldAddr fo_33_2_VProf rfl) ?_
               refine .m rfl rfl rfl rfl (.refl _) (.load on_23_B rfl (by assumption)) ?_
               refine .m rfl rfl rfl rfl (.refl _) (.move rfl) ?_
               refine .m rfl rfl rfl rfl (.refl _) (.idxN sl_23_B (Intss.sl (by assumption)) rfl rfl (by omega)) ?_
               refine .m rfl rfl rfl rfl (.refl _) (.loadR on_22_B (by assumption) rfl (by omega)) ?_
               refine .m rfl rfl rfl rfl (.refl _) (.move rfl) ?_
               refine .m rfl rfl rfl rfl (.refl _) (.nilCheck rfl) ?_
               refine .m rfl rfl rfl rfl (.refl _) (.fieldAddr fo_31_1_B rfl) ?_
               refine .m rfl rfl rfl rfl (.refl _) (.load on_22_B rfl (by assumption)) ?_
               refine .m rfl rfl rfl rfl (.refl _) (.move rfl) ?_
               refine .m rfl rfl rfl rfl (.refl _) (.idxN sl_22_A (by assumption) rfl rfl (by omega)) ?_
               refine .m rfl rfl rfl rfl (.refl _) (.loadI on_2_A (by assumption) rfl (by omega)) ?_
               refine .m rfl rfl rfl rfl (.refl _) (.idx1 sl_22_A (by assumption) rfl rfl (by omega) (by omega)) ?_
               refine .m rfl rfl rfl rfl (.refl _) (.loadI on_2_A (by assumption) rfl (by omega)) ?_
               refine .m rfl rfl rfl rfl (.refl _) (.move rfl) ?_
               refine .m rfl rfl rfl rfl (.refl _) (.nilCheck rfl) ?_
               refine .m rfl rfl rfl rfl (.refl _) (.fieldAddr fo_33_2_VProf rfl) ?_
               refine .m rfl rfl rfl rfl (.refl _) (.load on_23_B rfl (by assumption)) ?_
               refine .m rfl rfl rfl rfl (.refl _) (.move rfl) ?_
               refine .m rfl rfl rfl rfl (.refl _) (.idxN sl_23_B (Intss.sl (by assumption)) rfl rfl (by omega)) ?_
               refine .m rfl rfl rfl rfl (.refl _) (.loadR on_22_B (by assumption) rfl (by omega)) ?_
               refine .m rfl rfl rfl rfl (.refl _) (.move rfl) ?_
               refine .m rfl rfl rfl rfl (.refl _) (.nilCheck rfl) ?_
               refine .m rfl rfl rfl rfl (.refl _) (.fieldAddr fo_31_2_B rfl) ?_
               refine .m rfl rfl rfl rfl (.refl _) (.load on_22_B rfl (by assumption)) ?_
               refine .m rfl rfl rfl rfl (.refl _) (.move rfl) ?_
               refine .m rfl rfl rfl rfl (.refl _) (.idxN sl_22_A (by assumption) rfl rfl (by omega)) ?_
               refine .m rfl rfl rfl rfl (.refl _) (.loadI on_2_A (by assumption) rfl (by omega)) ?_
               refine .m rfl rfl rfl rfl (.refl _) (.idx1 sl_22_A (by assumption) rfl rfl (by omega) (by omega)) ?_
               refine .m rfl rfl rfl rfl (.refl _) (.loadI on_2_A (by assumption) rfl (by omega)) ?_
               refine .callQ0 rfl rfl rfl rfl rfl @Try.call52 rfl (isMapOf_c) ?_
               refine .m rfl rfl rfl rfl (.refl _) (.not rfl) ?_
               refine .done ?_
               refine hK48 _ _ ?_
               refine .cond rfl (fun h199 => ?_) (fun h199 => ?_)
               ·
                simp only [B_iff, B_not, Bool.not_eq_true', Bool.not_eq_false'] at h199
                refine .seq (fun K49 hK49 => ?_)
                refine .region ?_
                refine .m rfl rfl rfl (.assign rfl) ?_
                refine .nil ?_
                refine hK49 _ _ ?_
                refine .ret ?_
                -- leaf e10
                refine hret _ _ ?_
                refine ⟨_, rfl, ?_⟩
                first
                | exact ⟨congrArg _ (B_false fun hh => h26 ⟨hh.s, hh.t⟩), hle⟩
                | exact ⟨congrArg _ (B_true ⟨hC, hD, hz, fun a ha => ha2 a (by omega), fun b hb => ha4 b (by omega)⟩), hle⟩
                | exact ⟨congrArg _ (B_false fun hh => h199 ((hh.ok.bh b (by omega)).2 x (by omega))), hle⟩
                | exact ⟨congrArg _ (B_false fun hh => h138 ((hh.ok.be a (by omega)).2 y (by omega))), hle⟩
                | exact ⟨congrArg _ (B_false fun hh => by have := (hh.ok.bh b (by omega)).1; omega), hle⟩
                | exact ⟨congrArg _ (B_false fun hh => by have := (hh.ok.be a (by omega)).1; omega), hle⟩
                | exact ⟨congrArg _ (B_false fun hh => by have := hh.z.row k (by omega); omega), hle⟩
                | exact ⟨congrArg _ (B_false fun hh => by rw [allIn_iff.2 fun y hy => by have := hh.z.rng k (by omega) y (by omega); omega] at h78; cases h78), hle⟩
                | exact ⟨congrArg _ (B_false fun hh => by have := hh.z.sl; omega), hle⟩
                | exact ⟨congrArg _ (B_false fun hh => by have := hh.z.bl; omega), hle⟩
                | exact ⟨congrArg _ (B_false fun hh => by have := hh.z.hl; omega), hle⟩
               ·
                simp only [B_iff, B_not, Bool.not_eq_true', Bool.not_eq_false'] at h199
                refine .skip ?_
                refine hK46 _ _ ?_
                refine .region ?_
                refine .m rfl rfl rfl (.add rfl rfl rfl (by omega) (by omega)) ?_
                refine .m rfl rfl rfl (.move rfl) ?_
                refine .nil ?_
                refine hKL5 (x + 1) _ _ ?_ ?_ ⟨rfl, rfl, rfl, rfl, rfl, rfl, rfl, rfl, rfl, rfl, trivial⟩
                ·
                 refine ⟨rfl, ?_⟩
                 refine ⟨by omega, fun x' hx => ?_⟩
                 by_cases hltq : x' < x
                 · exact ha5 x' hltq
                 · obtain rfl : x' = x := by omega
                   exact h199
                ·
                 omega
              ·
               try simp only [sps] at h161
               refine .exit ?_
               refine hK38 _ _ ?_
               refine .region ?_
               refine .m rfl rfl rfl (.add rfl rfl rfl (by omega) (by omega)) ?_
               refine .m rfl rfl rfl (.move rfl) ?_
               refine .nil ?_
               refine hKL4 (b + 1) _ _ ?_ ?_ ⟨rfl, rfl, rfl, rfl, rfl, rfl, trivial⟩
               ·
                refine ⟨rfl, ?_⟩
                refine ⟨by omega, fun b' hx => ?_⟩
                by_cases hltq : b' < b
                · exact ha4 b' hltq
                · obtain rfl : b' = b := by omega
                  exact ⟨h157, fun x hx => ha5 x (by omega)⟩
               ·
                omega
           ·
            try simp only [sps] at h147
            refine .exit ?_
            refine hK34 _ _ ?_
            refine .seq (fun K50 hK50 => ?_)
            refine .region ?_
            refine .m rfl rfl rfl (.assign rfl) ?_
            refine .nil ?_
            refine hK50 _ _ ?_
            refine .ret ?_
            -- leaf e11
            refine hret _ _ ?_
            refine ⟨_, rfl, ?_⟩
            first
            | exact ⟨congrArg _ (B_false fun hh => h26 ⟨hh.s, hh.t⟩), hle⟩
            | exact ⟨congrArg _ (B_true ⟨hC, hD, hz, fun a ha => ha2 a (by omega), fun b hb => ha4 b (by omega)⟩), hle⟩
            | exact ⟨congrArg _ (B_false fun hh => h199 ((hh.ok.bh b (by omega)).2 x (by omega))), hle⟩
            | exact ⟨congrArg _ (B_false fun hh => h138 ((hh.ok.be a (by omega)).2 y (by omega))), hle⟩
            | exact ⟨congrArg _ (B_false fun hh => by have := (hh.ok.bh b (by omega)).1; omega), hle⟩
            | exact ⟨congrArg _ (B_false fun hh => by have := (hh.ok.be a (by omega)).1; omega), hle⟩
            | exact ⟨congrArg _ (B_false fun hh => by have := hh.z.row k (by omega); omega), hle⟩
            | exact ⟨congrArg _ (B_false fun hh => by rw [allIn_iff.2 fun y hy => by have := hh.z.rng k (by omega) y (by omega); omega] at h78; cases h78), hle⟩
            | exact ⟨congrArg _ (B_false fun hh => by have := hh.z.sl; omega), hle⟩
            | exact ⟨congrArg _ (B_false fun hh => by have := hh.z.bl; omega), hle⟩
            | exact ⟨congrArg _ (B_false fun hh => by have := hh.z.hl; omega), hle⟩
set_option maxHeartbeats 4000000 in
theorem pfActs_c {g o : Nat} {m : Prof} {p : ProfP} {H : GHeap} (h : Prof.At H g o m p := by assumption) (hS : m.Shape := by assumption) : GCalls Try.prog 43 [.pointer (some ⟨g, o, none⟩)] H (Ret (.bool (B m.Acts)) H) := by
  refine GCalls.ret rfl ?_
  refine GCalls.body (N := 216) (rs := [.tmp 2]) Try.func43 rfl rfl rfl rfl (fun Qx hret hend => ?_)
  refine .forget (fr' := [(0, some _)]) ⟨rfl, trivial⟩ ?_
  have hle := GHeap.Le.refl H
  have base_h := h
  obtain ⟨fs, ft, c10, c11, c12, i2, i3, i4⟩ := h.get
  have hm : MemN _ _ _ _ _ := ⟨rfl, h.1⟩
  have hi := h.2
  have hms : MemN _ _ _ _ _ := ⟨rfl, fs.1⟩
  have his := fs.2
  have hmt : MemN _ _ _ _ _ := ⟨rfl, ft.1⟩
  have hit := ft.2
  obtain ⟨c0, c1, c2, c3, c4, d1, d2, d3, d4⟩ := fs.get
  obtain ⟨x0, x1, x2, x3, x4, y1, y2, y3, y4⟩ := ft.get
  have hC := hS.s.1
  have hD := hS.t.1
  have q1 := hC.il
  have q2 := hD.il
  have q3 := hC.cl
  have q4 := hD.cl
  have q5 := hS.z.sl
  have q6 := hS.z.bl
  have q7 := hS.z.hl
  have q8 := hC.obj
  have q9 := hD.obj
  have q10 := hC.n40
  have q11 := hD.n40
  refine .seq (fun K1 hK1 => ?_)
  refine .region ?_
  refine .m rfl rfl rfl (.assign rfl) ?_
  refine .nil ?_
  refine hK1 _ _ ?_
  refine .seq (fun K2 hK2 => ?_)
  refine .regionD mixed_orders_B (.q 0 (.q 1 (.q 2 (.q 3 (.q 4 (.q 5 (.q 6 (.q 7 (.done))))))))) (by kernel_rfl) ?_
  refine .m rfl rfl rfl rfl (.refl _) (.move rfl) ?_
  refine .m rfl rfl rfl rfl (.refl _) (.nilCheck rfl) ?_
  refine .m rfl rfl rfl rfl (.refl _) (.fieldAddr fo_33_0_VProf rfl) ?_
  refine .m rfl rfl rfl rfl (.refl _) (.move rfl) ?_
  refine .m rfl rfl rfl rfl (.refl _) (.nilCheck rfl) ?_
  refine .m rfl rfl rfl rfl (.refl _) (.fieldAddr fo_33_1_VProf rfl) ?_
  refine .m rfl rfl rfl rfl (.refl _) (.assign rfl) ?_
  refine .m rfl rfl rfl rfl (.refl _) (.assign rfl) ?_
  refine .done ?_
  refine hK2 _ _ ?_
  refine .seq (fun K3 hK3 => ?_)
  refine .seq (fun K4 hK4 => ?_)
  refine .region ?_
  refine .m rfl rfl rfl (.assign rfl) ?_
  refine .nil ?_
  refine hK4 _ _ ?_
  refine .block ?_
  refine .loopR (σ := Nat) [(0, some _), (3, some _), (4, some _)] (fun y => [(5, some (.int .i64 (y : Int)))]) (fun y H' => St [] H H' ∧ (y : Int) ≤ m.t.obj ∧ ∀ y', y' < y → (∀ x : Nat, x < m.s.idn.length → NoMove ((m.be.getD (m.s.idn.getD x 0).toNat []).getD y' []) ∧ NoMove ((m.bh.getD (m.t.idn.getD y' 0).toNat []).getD x [])) ∧ ∀ a : Nat, a < m.s.comp.length → ∀ b : Nat, b < (m.s.comp.getD a []).length → 0 ≤ (m.s.comp.getD a []).getD b 0 → (m.be.getD ((m.s.comp.getD a []).getD b 0).toNat []).getD y' [] = thenL ((m.be.getD b []).getD y' []) ((m.be.getD a []).getD y' [])) (fun y => (m.t.obj - y : Int).toNat) (0) ⟨rfl, rfl, rfl, trivial⟩ ⟨rfl, trivial⟩ ?_ ?_
  ·
   refine ⟨.refl _ _, ?_⟩
   exact ⟨by omega, fun _ _ => by omega⟩
  ·
   rintro y HL1 ⟨lst1, hI⟩ KL1 hKL1
   refine .forget (fr' := [(5, some (.int .i64 (y : Int))), (0, some _), (3, some _), (4, some _)]) ⟨rfl, rfl, rfl, rfl, trivial⟩ ?_
   have nx_HL1 := lst1.nx
   replace hle := hle.st lst1 (fun k hk => trivial)
   replace h := base_h.mono hle
   clear fs ft c10 c11 c12 i2 i3 i4 hm hi hms his hmt hit c0 c1 c2 c3 c4 d1 d2 d3 d4 x0 x1 x2 x3 x4 y1 y2 y3 y4
   obtain ⟨fs, ft, c10, c11, c12, i2, i3, i4⟩ := h.get
   have hm : MemN _ _ _ _ _ := ⟨rfl, h.1⟩
   have hi := h.2
   have hms : MemN _ _ _ _ _ := ⟨rfl, fs.1⟩
   have his := fs.2
   have hmt : MemN _ _ _ _ _ := ⟨rfl, ft.1⟩
   have hit := ft.2
   obtain ⟨c0, c1, c2, c3, c4, d1, d2, d3, d4⟩ := fs.get
   obtain ⟨x0, x1, x2, x3, x4, y1, y2, y3, y4⟩ := ft.get
   obtain ⟨hk1, ha1⟩ := hI
   refine .seq (fun K5 hK5 => ?_)
   refine .seq (fun K6 hK6 => ?_)
   refine .region ?_
   refine .m rfl rfl rfl (.move rfl) ?_
   refine .m rfl rfl rfl (.move rfl) ?_
   refine .m rfl rfl rfl (.nilCheck rfl) ?_
   refine .m rfl rfl rfl (.fieldAddr fo_31_0_B rfl) ?_
   refine .m rfl rfl rfl (.load on_2_A rfl (by assumption)) ?_
   refine .m rfl rfl rfl (.cmp rfl rfl rfl) ?_
   refine .nil ?_
   refine hK6 _ _ ?_
   refine .cond rfl (fun h28 => ?_) (fun h28 => ?_)
   ·
    simp only [sps] at h28
    have b1 := hD.idn y (by omega)
    refine .skip ?_
    refine hK5 _ _ ?_
    refine .seq (fun K7 hK7 => ?_)
    refine .block ?_
    refine .seq (fun K8 hK8 => ?_)
    refine .seq (fun K9 hK9 => ?_)
    refine .region ?_
    refine .m rfl rfl rfl (.move rfl) ?_
    refine .m rfl rfl rfl (.nilCheck rfl) ?_
    refine .m rfl rfl rfl (.fieldAddr fo_31_3_B rfl) ?_
    refine .m rfl rfl rfl (.load on_22_B rfl (by assumption)) ?_
    refine .m rfl rfl rfl (.len sl_22_A rfl) ?_
    refine .m rfl rfl rfl (.move rfl) ?_
    refine .nil ?_
    refine hK9 _ _ ?_
    refine .block ?_
    refine .loopR (σ := Nat) [(0, some _), (3, some _), (4, some _), (5, some _), (34, some _), (35, some _)] (fun x => [(36, some (.int .i64 (x : Int)))]) (fun x H' => St [] HL1 H' ∧ (x : Int) ≤ m.s.idn.length ∧ ∀ x', x' < x → NoMove ((m.be.getD (m.s.idn.getD x' 0).toNat []).getD y []) ∧ NoMove ((m.bh.getD (m.t.idn.getD y 0).toNat []).getD x' [])) (fun x => (m.s.idn.length - x : Int).toNat) (0) ⟨rfl, rfl, rfl, rfl, rfl, rfl, trivial⟩ ⟨rfl, trivial⟩ ?_ ?_
    ·
     refine ⟨.refl _ _, ?_⟩
     exact ⟨by omega, fun _ _ => by omega⟩
    ·
     rintro x HL2 ⟨lst2, hI⟩ KL2 hKL2
     refine .forget (fr' := [(36, some (.int .i64 (x : Int))), (0, some _), (3, some _), (4, some _), (5, some _), (34, some _), (35, some _)]) ⟨rfl, rfl, rfl, rfl, rfl, rfl, rfl, trivial⟩ ?_
     have nx_HL2 := lst2.nx
     replace hle := hle.st lst2 (fun k hk => trivial)
     replace lst1 := lst1.st lst2 (fun k hk ho => by simp only [out, and_true] at ho ⊢ <;> omega)
     replace h := base_h.mono hle
     clear fs ft c10 c11 c12 i2 i3 i4 hm hi hms his hmt hit c0 c1 c2 c3 c4 d1 d2 d3 d4 x0 x1 x2 x3 x4 y1 y2 y3 y4
     obtain ⟨fs, ft, c10, c11, c12, i2, i3, i4⟩ := h.get
     have hm : MemN _ _ _ _ _ := ⟨rfl, h.1⟩
     have hi := h.2
     have hms : MemN _ _ _ _ _ := ⟨rfl, fs.1⟩
     have his := fs.2
     have hmt : MemN _ _ _ _ _ := ⟨rfl, ft.1⟩
     have hit := ft.2
     obtain ⟨c0, c1, c2, c3, c4, d1, d2, d3, d4⟩ := fs.get
     obtain ⟨x0, x1, x2, x3, x4, y1, y2, y3, y4⟩ := ft.get
     obtain ⟨hk2, ha2⟩ := hI
     refine .seq (fun K10 hK10 => ?_)
     refine .region ?_
     refine .m rfl rfl rfl (.cmp rfl rfl rfl) ?_
     refine .nil ?_
     refine hK10 _ _ ?_
     refine .seq (fun K11 hK11 => ?_)
     refine .cond rfl (fun h37 => ?_) (fun h37 => ?_)
     ·
      simp only [sps] at h37
      have r1 := hC.idn x (by omega)
      have r3 := hS.by (a := (m.s.idn.getD x 0).toNat) (y := y) (by omega) (by omega)
      rw [(hC.ids x (by omega)).1, (hC.ids x (by omega)).2, Int.toNat_natCast] at r3
      have s3 := hS.hx (b := (m.t.idn.getD y 0).toNat) (x := x) (by omega) (by omega)
      rw [(hD.ids y (by omega)).1, (hD.ids y (by omega)).2, Int.toNat_natCast] at s3
      have e1 := calm_iff' r3.2.2.2.1
      have e2 := calm_iff' s3.2.2.2.2.1
      have r2 := i3.2 (m.s.idn.getD x 0).toNat (by omega)
      have r4 := r2.2 y (by omega)
      have r5 := i2.2 x (by omega)
      have s2 := i4.2 (m.t.idn.getD y 0).toNat (by omega)
      have s4 := s2.2 x (by omega)
      refine .skip ?_
      refine hK11 _ _ ?_
      refine .seq (fun K12 hK12 => ?_)
      refine .block ?_
      refine .seq (fun K13 hK13 => ?_)
      refine .region ?_
      refine .m rfl rfl rfl (.move rfl) ?_
      refine .m rfl rfl rfl (.idxN sl_22_A (by assumption) rfl rfl (by omega)) ?_
      refine .m rfl rfl rfl (.loadI on_2_A (by assumption) rfl (by omega)) ?_
      refine .m rfl rfl rfl (.assign rfl) ?_
      refine .m rfl rfl rfl (.assign rfl) ?_
      refine .nil ?_
      refine hK13 _ _ ?_
      refine .seq (fun K14 hK14 => ?_)
      refine .regionD mixed_orders_B (.q 0 (.q 1 (.q 2 (.q 3 (.q 4 (.q 5 (.q 6 (.q 7 (.q 8 (.q 9 (.q 10 (.q 11 (.q 12 (.q 13 (.q 14 (.q 15 (.q 16 (.q 17 (.q 18 (.q 19 (.c 20 1 (.c 21 0 (.q 22 (.q 23 (.q 24 (.q 25 (.q 26 (.q 27 (.q 28 (.q 29 (.q 30 (.q 31 (.q 32 (.q 33 (.q 34 (.q 35 (.q 36 (.q 37 (.q 38 (.q 39 (.q 40 (.q 41 (.q 42 (.q 43 (.q 44 (.q 45 (.q 46 (.q 47 (.q 48 (.q 49 (.c 50 1 (.c 51 0 (.q 52 (.q 53 (.done))))))))))))))))))))))))))))))))))))))))))))))))))))))) (by kernel_rfl) ?_
      refine .m rfl rfl rfl rfl (.refl _) (.move rfl) ?_
      refine .m rfl rfl rfl rfl (.refl _) (.nilCheck rfl) ?_
      refine .m rfl rfl rfl rfl (.refl _) (.fieldAddr fo_33_3_VProf rfl) ?_
      refine .m rfl rfl rfl rfl (.refl _) (.load on_26_VProf rfl (by assumption)) ?_
      refine .m rfl rfl rfl rfl (.refl _) (.move rfl) ?_
      refine .m rfl rfl rfl rfl (.refl _) (.idx1 sl_26_VZ (Intsss.sl (by assumption)) rfl rfl (by omega) (by omega)) ?_
      refine .m rfl rfl rfl rfl (.refl _) (.loadRR on_23_B (by assumption) rfl (by omega)) ?_
      refine .m rfl rfl rfl rfl (.refl _) (.move rfl) ?_
      refine .m rfl rfl rfl rfl (.refl _) (.idxN sl_23_B (Intss.sl (by assumption)) rfl rfl (by omega)) ?_
      refine .m rfl rfl rfl rfl (.refl _) (.loadR on_22_B (by assumption) rfl (by omega)) ?_
      refine .m rfl rfl rfl rfl (.refl _) (.move rfl) ?_
      refine .m rfl rfl rfl rfl (.refl _) (.nilCheck rfl) ?_
      refine .m rfl rfl rfl rfl (.refl _) (.fieldAddr fo_33_2_VProf rfl) ?_
      refine .m rfl rfl rfl rfl (.refl _) (.load on_23_B rfl (by assumption)) ?_
      refine .m rfl rfl rfl rfl (.refl _) (.move rfl) ?_
      refine .m rfl rfl rfl rfl (.refl _) (.idxN sl_23_B (Intss.sl (by assumption)) rfl rfl (by omega)) ?_
      refine .m rfl rfl rfl rfl (.refl _) (.loadR on_22_B (by assumption) rfl (by omega)) ?_
      refine .m rfl rfl rfl rfl (.refl _) (.move rfl) ?_
      refine .m rfl rfl rfl rfl (.refl _) (.idxN sl_22_A (by assumption) rfl rfl (by omega)) ?_
      refine .m rfl rfl rfl rfl (.refl _) (.loadI on_2_A (by assumption) rfl (by omega)) ?_
      refine .call1 rfl rfl rfl rfl rfl @Try.call60 rfl (numbers_c) ?_
      rintro _ H61 ⟨le61, g61, rfl, at61, ge61⟩
      have hbl := le61
      refine ⟨hbl, ?_⟩
      have nx_H61 := le61.1
      replace hle := hle.trans le61
      replace lst1 := lst1.le le61
      replace lst2 := lst2.le le61
      have lt_at61 := GHeap.lt_of_get at61
      replace h := base_h.mono hle
      clear fs ft c10 c11 c12 i2 i3 i4 hm hi hms his hmt hit c0 c1 c2 c3 c4 d1 d2 d3 d4 x0 x1 x2 x3 x4 y1 y2 y3 y4
      obtain ⟨fs, ft, c10, c11, c12, i2, i3, i4⟩ := h.get
      have hm : MemN _ _ _ _ _ := ⟨rfl, h.1⟩
      have hi := h.2
      have hms : MemN _ _ _ _ _ := ⟨rfl, fs.1⟩
      have his := fs.2
      have hmt : MemN _ _ _ _ _ := ⟨rfl, ft.1⟩
      have hit := ft.2
      obtain ⟨c0, c1, c2, c3, c4, d1, d2, d3, d4⟩ := fs.get
      obtain ⟨x0, x1, x2, x3, x4, y1, y2, y3, y4⟩ := ft.get
      clear r2 r4 r5 s2 s4
      have r2 := i3.2 (m.s.idn.getD x 0).toNat (by omega)
      have r4 := r2.2 y (by omega)
      have r5 := i2.2 x (by omega)
      have s2 := i4.2 (m.t.idn.getD y 0).toNat (by omega)
      have s4 := s2.2 x (by omega)
      have i61 := Ints.of_get at61
      refine .callQ0 rfl rfl rfl rfl rfl @Try.call45 rfl (same_c (hy := by rw [length_numsL]; omega)) ?_
      refine .m rfl rfl rfl rfl (.refl _) (.not rfl) ?_
      refine .m rfl rfl rfl rfl (.refl _) (.move rfl) ?_
      refine .split (fun h64 => ?_) (fun h64 => ?_)
      ·
       simp only [sps, e1] at h64
       refine .sg rfl rfl rfl rfl rfl rfl ?_
       refine .sg rfl rfl rfl rfl rfl rfl ?_
       refine .sg rfl rfl rfl rfl rfl rfl ?_
       refine .sg rfl rfl rfl rfl rfl rfl ?_
       refine .sg rfl rfl rfl rfl rfl rfl ?_
       refine .sg rfl rfl rfl rfl rfl rfl ?_
       refine .sg rfl rfl rfl rfl rfl rfl ?_
       refine .sg rfl rfl rfl rfl rfl rfl ?_
       refine .sg rfl rfl rfl rfl rfl rfl ?_
       refine .sg rfl rfl rfl rfl rfl rfl ?_
       refine .sg rfl rfl rfl rfl rfl rfl ?_
       refine .sg rfl rfl rfl rfl rfl rfl ?_
       refine .sg rfl rfl rfl rfl rfl rfl ?_
       refine .sg rfl rfl rfl rfl rfl rfl ?_
       refine .sg rfl rfl rfl rfl rfl rfl ?_
       refine .sg rfl rfl rfl rfl rfl rfl ?_
       refine .sg rfl rfl rfl rfl rfl rfl ?_
       refine .sg rfl rfl rfl rfl rfl rfl ?_
       refine .sg rfl rfl rfl rfl rfl rfl ?_
       refine .sg rfl rfl rfl rfl rfl rfl ?_
       refine .sg rfl rfl rfl rfl rfl rfl ?_
       refine .sg rfl rfl rfl rfl rfl rfl ?_
       refine .sg rfl rfl rfl rfl rfl rfl ?_
       refine .sg rfl rfl rfl rfl rfl rfl ?_
       refine .sg rfl rfl rfl rfl rfl rfl ?_
       refine .sg rfl rfl rfl rfl rfl rfl ?_
       refine .sgc rfl rfl rfl rfl rfl rfl ?_
       refine .sgc rfl rfl rfl rfl rfl rfl ?_
       refine .sg rfl rfl rfl rfl rfl rfl ?_
       refine .m rfl rfl rfl rfl (.refl _) (.pickT rfl rfl) ?_
       refine .done ?_
       refine hK14 _ _ ?_
       refine .condT rfl ?_
       refine .seq (fun K15 hK15 => ?_)
       refine .region ?_
       refine .m rfl rfl rfl (.assign rfl) ?_
       refine .nil ?_
       refine hK15 _ _ ?_
       refine .ret ?_
       -- leaf e1
       refine hret _ _ ?_
       refine ⟨_, rfl, ?_⟩
       first
       | exact ⟨congrArg _ (B_true ⟨fun y hy x hx => (ha1 y (by omega)).1 x (by omega), fun y hy a ha b hb => (ha1 y (by omega)).2 a (by omega) b (by have := hC.row a (by omega); omega), fun x hx a ha b hb => ha5 x (by omega) a (by omega) b (by have := hD.row a (by omega); omega)⟩), hle⟩
       | exact ⟨congrArg _ (B_false fun hh => h94 (hh.idb y (by omega) x (by omega)).2), hle⟩
       | exact ⟨congrArg _ (B_false fun hh => h64 (hh.idb y (by omega) x (by omega)).1), hle⟩
       | exact ⟨congrArg _ (B_false fun hh => h149 (hh.thb y (by omega) a (by omega) b (by omega) h115)), hle⟩
       | exact ⟨congrArg _ (B_false fun hh => h213 (hh.thh x (by omega) a (by omega) b (by omega) h179)), hle⟩
      ·
       simp only [sps, e1] at h64
       refine .mg rfl rfl rfl rfl rfl rfl (.refl _) (.move rfl) ?_
       refine .mg rfl rfl rfl rfl rfl rfl (.refl _) (.nilCheck rfl) ?_
       refine .mg rfl rfl rfl rfl rfl rfl (.refl _) (.fieldAddr fo_33_4_VProf rfl) ?_
       refine .mg rfl rfl rfl rfl rfl rfl (.refl _) (.load on_26_VProf rfl (by assumption)) ?_
       refine .mg rfl rfl rfl rfl rfl rfl (.refl _) (.move rfl) ?_
       refine .mg rfl rfl rfl rfl rfl rfl (.refl _) (.nilCheck rfl) ?_
       refine .mg rfl rfl rfl rfl rfl rfl (.refl _) (.fieldAddr fo_31_3_B rfl) ?_
       refine .mg rfl rfl rfl rfl rfl rfl (.refl _) (.load on_22_B rfl (by assumption)) ?_
       refine .mg rfl rfl rfl rfl rfl rfl (.refl _) (.move rfl) ?_
       refine .mg rfl rfl rfl rfl rfl rfl (.refl _) (.idxN sl_22_A (by assumption) rfl rfl (by omega)) ?_
       refine .mg rfl rfl rfl rfl rfl rfl (.refl _) (.loadI on_2_A (by assumption) rfl (by omega)) ?_
       refine .mg rfl rfl rfl rfl rfl rfl (.refl _) (.idx1 sl_26_VZ (Intsss.sl (by assumption)) rfl rfl (by omega) (by omega)) ?_
       refine .mg rfl rfl rfl rfl rfl rfl (.refl _) (.loadRR on_23_B (by assumption) rfl (by omega)) ?_
       refine .mg rfl rfl rfl rfl rfl rfl (.refl _) (.move rfl) ?_
       refine .mg rfl rfl rfl rfl rfl rfl (.refl _) (.idxN sl_23_B (Intss.sl (by assumption)) rfl rfl (by omega)) ?_
       refine .mg rfl rfl rfl rfl rfl rfl (.refl _) (.loadR on_22_B (by assumption) rfl (by omega)) ?_
       refine .mg rfl rfl rfl rfl rfl rfl (.refl _) (.move rfl) ?_
       refine .mg rfl rfl rfl rfl rfl rfl (.refl _) (.nilCheck rfl) ?_
       refine .mg rfl rfl rfl rfl rfl rfl (.refl _) (.fieldAddr fo_33_2_VProf rfl) ?_
       refine .mg rfl rfl rfl rfl rfl rfl (.refl _) (.load on_23_B rfl (by assumption)) ?_
       refine .mg rfl rfl rfl rfl rfl rfl (.refl _) (.move rfl) ?_
       refine .mg rfl rfl rfl rfl rfl rfl (.refl _) (.idxN sl_23_B (Intss.sl (by assumption)) rfl rfl (by omega)) ?_
       refine .mg rfl rfl rfl rfl rfl rfl (.refl _) (.loadR on_22_B (by assumption) rfl (by omega)) ?_
       refine .mg rfl rfl rfl rfl rfl rfl (.refl _) (.move rfl) ?_
       refine .mg rfl rfl rfl rfl rfl rfl (.refl _) (.idxN sl_22_A (by assumption) rfl rfl (by omega)) ?_
       refine .mg rfl rfl rfl rfl rfl rfl (.refl _) (.loadI on_2_A (by assumption) rfl (by omega)) ?_
       refine .call1g rfl rfl rfl rfl rfl rfl rfl @Try.call60 rfl (numbers_c) ?_
       rintro _ H91 ⟨le91, g91, rfl, at91, ge91⟩
       have hbl := le91
       refine ⟨hbl, ?_⟩
       have nx_H91 := le91.1
       replace hle := hle.trans le91
       replace lst1 := lst1.le le91
       replace lst2 := lst2.le le91
       replace at61 := le91.2 _ _ at61
       have lt_at91 := GHeap.lt_of_get at91
       replace h := base_h.mono hle
       clear fs ft c10 c11 c12 i2 i3 i4 hm hi hms his hmt hit c0 c1 c2 c3 c4 d1 d2 d3 d4 x0 x1 x2 x3 x4 y1 y2 y3 y4
       obtain ⟨fs, ft, c10, c11, c12, i2, i3, i4⟩ := h.get
       have hm : MemN _ _ _ _ _ := ⟨rfl, h.1⟩
       have hi := h.2
       have hms : MemN _ _ _ _ _ := ⟨rfl, fs.1⟩
       have his := fs.2
       have hmt : MemN _ _ _ _ _ := ⟨rfl, ft.1⟩
       have hit := ft.2
       obtain ⟨c0, c1, c2, c3, c4, d1, d2, d3, d4⟩ := fs.get
       obtain ⟨x0, x1, x2, x3, x4, y1, y2, y3, y4⟩ := ft.get
       clear r2 r4 r5 s2 s4
       have r2 := i3.2 (m.s.idn.getD x 0).toNat (by omega)
       have r4 := r2.2 y (by omega)
       have r5 := i2.2 x (by omega)
       have s2 := i4.2 (m.t.idn.getD y 0).toNat (by omega)
       have s4 := s2.2 x (by omega)
       clear i61
       have i61 := Ints.of_get at61
       have i91 := Ints.of_get at91
       refine .callQ0g rfl rfl rfl rfl rfl rfl rfl @Try.call45 rfl (same_c (hy := by rw [length_numsL]; omega)) ?_
       refine .mg rfl rfl rfl rfl rfl rfl (.refl _) (.not rfl) ?_
       refine .m rfl rfl rfl rfl (.refl _) (.pickF rfl rfl) ?_
       refine .done ?_
       refine hK14 _ _ ?_
       refine .cond rfl (fun h94 => ?_) (fun h94 => ?_)
       ·
        simp only [sps, e2] at h94
        refine .seq (fun K16 hK16 => ?_)
        refine .region ?_
        refine .m rfl rfl rfl (.assign rfl) ?_
        refine .nil ?_
        refine hK16 _ _ ?_
        refine .ret ?_
        -- leaf e2
        refine hret _ _ ?_
        refine ⟨_, rfl, ?_⟩
        first
        | exact ⟨congrArg _ (B_true ⟨fun y hy x hx => (ha1 y (by omega)).1 x (by omega), fun y hy a ha b hb => (ha1 y (by omega)).2 a (by omega) b (by have := hC.row a (by omega); omega), fun x hx a ha b hb => ha5 x (by omega) a (by omega) b (by have := hD.row a (by omega); omega)⟩), hle⟩
        | exact ⟨congrArg _ (B_false fun hh => h94 (hh.idb y (by omega) x (by omega)).2), hle⟩
        | exact ⟨congrArg _ (B_false fun hh => h64 (hh.idb y (by omega) x (by omega)).1), hle⟩
        | exact ⟨congrArg _ (B_false fun hh => h149 (hh.thb y (by omega) a (by omega) b (by omega) h115)), hle⟩
        | exact ⟨congrArg _ (B_false fun hh => h213 (hh.thh x (by omega) a (by omega) b (by omega) h179)), hle⟩
       ·
        simp only [sps, e2] at h94
        refine .skip ?_
        refine hK12 _ _ ?_
        refine .region ?_
        refine .m rfl rfl rfl (.add rfl rfl rfl (by omega) (by omega)) ?_
        refine .m rfl rfl rfl (.move rfl) ?_
        refine .nil ?_
        refine hKL2 (x + 1) _ _ ?_ ?_ ⟨rfl, rfl, rfl, rfl, rfl, rfl, rfl, trivial⟩
        ·
         refine ⟨lst2, ?_⟩
         refine ⟨by omega, fun x' hx => ?_⟩
         by_cases hltq : x' < x
         · exact ha2 x' hltq
         · obtain rfl : x' = x := by omega
           exact ⟨h64, h94⟩
        ·
         omega
     ·
      try simp only [sps] at h37
      refine .exit ?_
      refine hK8 _ _ ?_
      refine .seq (fun K17 hK17 => ?_)
      refine .region ?_
      refine .m rfl rfl rfl (.move rfl) ?_
      refine .m rfl rfl rfl (.nilCheck rfl) ?_
      refine .m rfl rfl rfl (.fieldAddr fo_31_4_B rfl) ?_
      refine .m rfl rfl rfl (.load on_23_B rfl (by assumption)) ?_
      refine .m rfl rfl rfl (.len sl_23_B rfl) ?_
      refine .m rfl rfl rfl (.move rfl) ?_
      refine .nil ?_
      refine hK17 _ _ ?_
      refine .block ?_
      refine .loopR (σ := Nat) [(0, some _), (3, some _), (4, some _), (5, some _), (99, some _), (100, some _)] (fun a => [(101, some (.int .i64 (a : Int)))]) (fun a H' => St [] HL2 H' ∧ (a : Int) ≤ m.s.comp.length ∧ ∀ a', a' < a → ∀ b : Nat, b < (m.s.comp.getD a' []).length → 0 ≤ (m.s.comp.getD a' []).getD b 0 → (m.be.getD ((m.s.comp.getD a' []).getD b 0).toNat []).getD y [] = thenL ((m.be.getD b []).getD y []) ((m.be.getD a' []).getD y [])) (fun a => (m.s.comp.length - a : Int).toNat) (0) ⟨rfl, rfl, rfl, rfl, rfl, rfl, trivial⟩ ⟨rfl, trivial⟩ ?_ ?_
      ·
       refine ⟨.refl _ _, ?_⟩
       exact ⟨by omega, fun _ _ => by omega⟩
      ·
       rintro a HL3 ⟨lst3, hI⟩ KL3 hKL3
       refine .forget (fr' := [(101, some (.int .i64 (a : Int))), (0, some _), (3, some _), (4, some _), (5, some _), (99, some _), (100, some _)]) ⟨rfl, rfl, rfl, rfl, rfl, rfl, rfl, trivial⟩ ?_
       have nx_HL3 := lst3.nx
       replace hle := hle.st lst3 (fun k hk => trivial)
       replace lst1 := lst1.st lst3 (fun k hk ho => by simp only [out, and_true] at ho ⊢ <;> omega)
       replace h := base_h.mono hle
       clear fs ft c10 c11 c12 i2 i3 i4 hm hi hms his hmt hit c0 c1 c2 c3 c4 d1 d2 d3 d4 x0 x1 x2 x3 x4 y1 y2 y3 y4
       obtain ⟨fs, ft, c10, c11, c12, i2, i3, i4⟩ := h.get
       have hm : MemN _ _ _ _ _ := ⟨rfl, h.1⟩
       have hi := h.2
       have hms : MemN _ _ _ _ _ := ⟨rfl, fs.1⟩
       have his := fs.2
       have hmt : MemN _ _ _ _ _ := ⟨rfl, ft.1⟩
       have hit := ft.2
       obtain ⟨c0, c1, c2, c3, c4, d1, d2, d3, d4⟩ := fs.get
       obtain ⟨x0, x1, x2, x3, x4, y1, y2, y3, y4⟩ := ft.get
       obtain ⟨hk3, ha3⟩ := hI
       refine .seq (fun K18 hK18 => ?_)
       refine .region ?_
       refine .m rfl rfl rfl (.cmp rfl rfl rfl) ?_
       refine .nil ?_
       refine hK18 _ _ ?_
       refine .seq (fun K19 hK19 => ?_)
       refine .cond rfl (fun h102 => ?_) (fun h102 => ?_)
       ·
        simp only [sps] at h102
        have r1 := hC.row a (by omega)
        have r4 := hS.by (a := a) (y := y) (by omega) (by omega)
        have r2 := d4.2 a (by omega)
        have r3 := i3.2 a (by omega)
        have r5 := r3.2 y (by omega)
        refine .skip ?_
        refine hK19 _ _ ?_
        refine .seq (fun K20 hK20 => ?_)
        refine .block ?_
        refine .seq (fun K21 hK21 => ?_)
        refine .region ?_
        refine .m rfl rfl rfl (.move rfl) ?_
        refine .m rfl rfl rfl (.idxN sl_23_B (Intss.sl (by assumption)) rfl rfl (by omega)) ?_
        refine .m rfl rfl rfl (.loadR on_22_B (by assumption) rfl (by omega)) ?_
        refine .m rfl rfl rfl (.assign rfl) ?_
        refine .m rfl rfl rfl (.assign rfl) ?_
        refine .nil ?_
        refine hK21 _ _ ?_
        refine .seq (fun K22 hK22 => ?_)
        refine .region ?_
        refine .m rfl rfl rfl (.move rfl) ?_
        refine .m rfl rfl rfl (.len sl_22_A rfl) ?_
        refine .m rfl rfl rfl (.move rfl) ?_
        refine .nil ?_
        refine hK22 _ _ ?_
        refine .block ?_
        refine .loopR (σ := Nat) [(0, some _), (3, some _), (4, some _), (5, some _), (8, some _), (99, some _), (100, some _), (101, some _), (106, some _), (107, some _)] (fun b => [(108, some (.int .i64 (b : Int)))]) (fun b H' => St [] HL3 H' ∧ (b : Int) ≤ (m.s.comp.getD a []).length ∧ ∀ b', b' < b → 0 ≤ (m.s.comp.getD a []).getD b' 0 → (m.be.getD ((m.s.comp.getD a []).getD b' 0).toNat []).getD y [] = thenL ((m.be.getD b' []).getD y []) ((m.be.getD a []).getD y [])) (fun b => ((m.s.comp.getD a []).length - b : Int).toNat) (0) ⟨rfl, rfl, rfl, rfl, rfl, rfl, rfl, rfl, rfl, rfl, trivial⟩ ⟨rfl, trivial⟩ ?_ ?_
        ·
         refine ⟨.refl _ _, ?_⟩
         exact ⟨by omega, fun _ _ => by omega⟩
        ·
         rintro b HL4 ⟨lst4, hI⟩ KL4 hKL4
         refine .forget (fr' := [(108, some (.int .i64 (b : Int))), (0, some _), (3, some _), (4, some _), (5, some _), (8, some _), (99, some _), (100, some _), (101, some _), (106, some _), (107, some _)]) ⟨rfl, rfl, rfl, rfl, rfl, rfl, rfl, rfl, rfl, rfl, rfl, trivial⟩ ?_
         have nx_HL4 := lst4.nx
         replace hle := hle.st lst4 (fun k hk => trivial)
         replace lst1 := lst1.st lst4 (fun k hk ho => by simp only [out, and_true] at ho ⊢ <;> omega)
         replace lst3 := lst3.st lst4 (fun k hk ho => by simp only [out, and_true] at ho ⊢ <;> omega)
         replace h := base_h.mono hle
         clear fs ft c10 c11 c12 i2 i3 i4 hm hi hms his hmt hit c0 c1 c2 c3 c4 d1 d2 d3 d4 x0 x1 x2 x3 x4 y1 y2 y3 y4
         obtain ⟨fs, ft, c10, c11, c12, i2, i3, i4⟩ := h.get
         have hm : MemN _ _ _ _ _ := ⟨rfl, h.1⟩
         have hi := h.2
         have hms : MemN _ _ _ _ _ := ⟨rfl, fs.1⟩
         have his := fs.2
         have hmt : MemN _ _ _ _ _ := ⟨rfl, ft.1⟩
         have hit := ft.2
         obtain ⟨c0, c1, c2, c3, c4, d1, d2, d3, d4⟩ := fs.get
         obtain ⟨x0, x1, x2, x3, x4, y1, y2, y3, y4⟩ := ft.get
         clear r2 r3 r5
         have r2 := d4.2 a (by omega)
         have r3 := i3.2 a (by omega)
         have r5 := r3.2 y (by omega)
         obtain ⟨hk4, ha4⟩ := hI
         refine .seq (fun K23 hK23 => ?_)
         refine .region ?_
         refine .m rfl rfl rfl (.cmp rfl rfl rfl) ?_
         refine .nil ?_
         refine hK23 _ _ ?_
         refine .seq (fun K24 hK24 => ?_)
         refine .cond rfl (fun h109 => ?_) (fun h109 => ?_)
         ·
          simp only [sps] at h109
          have t4 := hS.by (a := b) (y := y) (by omega) (by omega)
          have t3 := i3.2 b (by omega)
          have t5 := t3.2 y (by omega)
          refine .skip ?_
          refine hK24 _ _ ?_
          refine .seq (fun K25 hK25 => ?_)
          refine .block ?_
          refine .seq (fun K26 hK26 => ?_)
          refine .region ?_
          refine .m rfl rfl rfl (.move rfl) ?_
          refine .m rfl rfl rfl (.idxN sl_22_A (by assumption) rfl rfl (by omega)) ?_
          refine .m rfl rfl rfl (.loadI on_2_A (by assumption) rfl (by omega)) ?_
          refine .m rfl rfl rfl (.assign rfl) ?_
          refine .m rfl rfl rfl (.assign rfl) ?_
          refine .nil ?_
          refine hK26 _ _ ?_
          refine .seq (fun K27 hK27 => ?_)
          refine .regionD mixed_orders_B (.q 0 (.q 1 (.q 2 (.q 3 (.q 4 (.q 5 (.q 6 (.q 7 (.q 8 (.q 9 (.q 10 (.q 11 (.q 12 (.q 13 (.q 14 (.q 15 (.q 16 (.q 17 (.q 18 (.q 19 (.q 20 (.q 21 (.q 22 (.q 23 (.q 24 (.q 25 (.q 26 (.q 27 (.q 28 (.q 29 (.q 30 (.q 31 (.q 32 (.c 33 1 (.c 34 0 (.q 35 (.q 36 (.done)))))))))))))))))))))))))))))))))))))) (by kernel_rfl) ?_
          refine .m rfl rfl rfl rfl (.refl _) (.move rfl) ?_
          refine .m rfl rfl rfl rfl (.refl _) (.cmp rfl rfl rfl) ?_
          refine .m rfl rfl rfl rfl (.refl _) (.move rfl) ?_
          refine .split (fun h115 => ?_) (fun h115 => ?_)
          ·
           simp only [sps] at h115
           have u1 := hC.comp (a := a) (b := b) (by omega) (by omega) h115
           have u4 := hS.by (a := ((m.s.comp.getD a []).getD b 0).toNat) (y := y) (by omega) (by omega)
           have u6 : ∀ i, i < ((m.be.getD b []).getD y []).length → 0 ≤ ((m.be.getD b []).getD y []).getD i 0 ∧ ((m.be.getD b []).getD y []).getD i 0 < ((m.be.getD a []).getD y []).length := fun i hi => by
             have := t4.2.2.2.2.1 i hi
             rw [← u1.1, ← r4.2.2.2.1] at this
             exact this
           have u3 := i3.2 ((m.s.comp.getD a []).getD b 0).toNat (by omega)
           have u5 := u3.2 y (by omega)
           refine .mg rfl rfl rfl rfl rfl rfl (.refl _) (.move rfl) ?_
           refine .mg rfl rfl rfl rfl rfl rfl (.refl _) (.nilCheck rfl) ?_
           refine .mg rfl rfl rfl rfl rfl rfl (.refl _) (.fieldAddr fo_33_3_VProf rfl) ?_
           refine .mg rfl rfl rfl rfl rfl rfl (.refl _) (.load on_26_VProf rfl (by assumption)) ?_
           refine .mg rfl rfl rfl rfl rfl rfl (.refl _) (.move rfl) ?_
           refine .mg rfl rfl rfl rfl rfl rfl (.refl _) (.idx1 sl_26_VZ (Intsss.sl (by assumption)) rfl rfl (by omega) (by omega)) ?_
           refine .mg rfl rfl rfl rfl rfl rfl (.refl _) (.loadRR on_23_B (by assumption) rfl (by omega)) ?_
           refine .mg rfl rfl rfl rfl rfl rfl (.refl _) (.move rfl) ?_
           refine .mg rfl rfl rfl rfl rfl rfl (.refl _) (.idxN sl_23_B (Intss.sl (by assumption)) rfl rfl (by omega)) ?_
           refine .mg rfl rfl rfl rfl rfl rfl (.refl _) (.loadR on_22_B (by assumption) rfl (by omega)) ?_
           refine .mg rfl rfl rfl rfl rfl rfl (.refl _) (.move rfl) ?_
           refine .mg rfl rfl rfl rfl rfl rfl (.refl _) (.nilCheck rfl) ?_
           refine .mg rfl rfl rfl rfl rfl rfl (.refl _) (.fieldAddr fo_33_3_VProf rfl) ?_
           refine .mg rfl rfl rfl rfl rfl rfl (.refl _) (.load on_26_VProf rfl (by assumption)) ?_
           refine .mg rfl rfl rfl rfl rfl rfl (.refl _) (.move rfl) ?_
           refine .mg rfl rfl rfl rfl rfl rfl (.refl _) (.idxN sl_26_VZ (Intsss.sl (by assumption)) rfl rfl (by omega)) ?_
           refine .mg rfl rfl rfl rfl rfl rfl (.refl _) (.loadRR on_23_B (by assumption) rfl (by omega)) ?_
           refine .mg rfl rfl rfl rfl rfl rfl (.refl _) (.move rfl) ?_
           refine .mg rfl rfl rfl rfl rfl rfl (.refl _) (.idxN sl_23_B (Intss.sl (by assumption)) rfl rfl (by omega)) ?_
           refine .mg rfl rfl rfl rfl rfl rfl (.refl _) (.loadR on_22_B (by assumption) rfl (by omega)) ?_
           refine .mg rfl rfl rfl rfl rfl rfl (.refl _) (.move rfl) ?_
           refine .mg rfl rfl rfl rfl rfl rfl (.refl _) (.nilCheck rfl) ?_
           refine .mg rfl rfl rfl rfl rfl rfl (.refl _) (.fieldAddr fo_33_3_VProf rfl) ?_
           refine .mg rfl rfl rfl rfl rfl rfl (.refl _) (.load on_26_VProf rfl (by assumption)) ?_
           refine .mg rfl rfl rfl rfl rfl rfl (.refl _) (.move rfl) ?_
           refine .mg rfl rfl rfl rfl rfl rfl (.refl _) (.idxN sl_26_VZ (Intsss.sl (by assumption)) rfl rfl (by omega)) ?_
           refine .mg rfl rfl rfl rfl rfl rfl (.refl _) (.loadRR on_23_B (by assumption) rfl (by omega)) ?_
           refine .mg rfl rfl rfl rfl rfl rfl (.refl _) (.move rfl) ?_
           refine .mg rfl rfl rfl rfl rfl rfl (.refl _) (.idxN sl_23_B (Intss.sl (by assumption)) rfl rfl (by omega)) ?_
           refine .mg rfl rfl rfl rfl rfl rfl (.refl _) (.loadR on_22_B (by assumption) rfl (by omega)) ?_
           refine .call1g rfl rfl rfl rfl rfl rfl rfl @Try.call44 rfl (implThen_c) ?_
           rintro _ H146 ⟨le146, g146, rfl, at146, ge146⟩
           have hbl := le146
           refine ⟨hbl, ?_⟩
           have nx_H146 := le146.1
           replace hle := hle.trans le146
           replace lst1 := lst1.le le146
           replace lst3 := lst3.le le146
           replace lst4 := lst4.le le146
           have lt_at146 := GHeap.lt_of_get at146
           replace h := base_h.mono hle
           clear fs ft c10 c11 c12 i2 i3 i4 hm hi hms his hmt hit c0 c1 c2 c3 c4 d1 d2 d3 d4 x0 x1 x2 x3 x4 y1 y2 y3 y4
           obtain ⟨fs, ft, c10, c11, c12, i2, i3, i4⟩ := h.get
           have hm : MemN _ _ _ _ _ := ⟨rfl, h.1⟩
           have hi := h.2
           have hms : MemN _ _ _ _ _ := ⟨rfl, fs.1⟩
           have his := fs.2
           have hmt : MemN _ _ _ _ _ := ⟨rfl, ft.1⟩
           have hit := ft.2
           obtain ⟨c0, c1, c2, c3, c4, d1, d2, d3, d4⟩ := fs.get
           obtain ⟨x0, x1, x2, x3, x4, y1, y2, y3, y4⟩ := ft.get
           clear r2 r3 r5
           have r2 := d4.2 a (by omega)
           have r3 := i3.2 a (by omega)
           have r5 := r3.2 y (by omega)
           clear t3 t5
           have t3 := i3.2 b (by omega)
           have t5 := t3.2 y (by omega)
           clear u3 u5
           have u3 := i3.2 ((m.s.comp.getD a []).getD b 0).toNat (by omega)
           have u5 := u3.2 y (by omega)
           have i146 := Ints.of_get at146
           refine .callQ0g rfl rfl rfl rfl rfl rfl rfl @Try.call45 rfl (same_c (hy := by rw [length_thenL]; omega)) ?_
           refine .mg rfl rfl rfl rfl rfl rfl (.refl _) (.not rfl) ?_
           refine .m rfl rfl rfl rfl (.refl _) (.pickT rfl rfl) ?_
           refine .done ?_
           refine hK27 _ _ ?_
           refine .cond rfl (fun h149 => ?_) (fun h149 => ?_)
           ·
            try simp only [sps] at h149
            refine .seq (fun K28 hK28 => ?_)
            refine .region ?_
            refine .m rfl rfl rfl (.assign rfl) ?_
            refine .nil ?_
            refine hK28 _ _ ?_
            refine .ret ?_
            -- leaf e3
            refine hret _ _ ?_
            refine ⟨_, rfl, ?_⟩
            first
            | exact ⟨congrArg _ (B_true ⟨fun y hy x hx => (ha1 y (by omega)).1 x (by omega), fun y hy a ha b hb => (ha1 y (by omega)).2 a (by omega) b (by have := hC.row a (by omega); omega), fun x hx a ha b hb => ha5 x (by omega) a (by omega) b (by have := hD.row a (by omega); omega)⟩), hle⟩
            | exact ⟨congrArg _ (B_false fun hh => h94 (hh.idb y (by omega) x (by omega)).2), hle⟩
            | exact ⟨congrArg _ (B_false fun hh => h64 (hh.idb y (by omega) x (by omega)).1), hle⟩
            | exact ⟨congrArg _ (B_false fun hh => h149 (hh.thb y (by omega) a (by omega) b (by omega) h115)), hle⟩
            | exact ⟨congrArg _ (B_false fun hh => h213 (hh.thh x (by omega) a (by omega) b (by omega) h179)), hle⟩
           ·
            try simp only [sps] at h149
            refine .skip ?_
            refine hK25 _ _ ?_
            refine .region ?_
            refine .m rfl rfl rfl (.add rfl rfl rfl (by omega) (by omega)) ?_
            refine .m rfl rfl rfl (.move rfl) ?_
            refine .nil ?_
            refine hKL4 (b + 1) _ _ ?_ ?_ ⟨rfl, rfl, rfl, rfl, rfl, rfl, rfl, rfl, rfl, rfl, rfl, trivial⟩
            ·
             refine ⟨lst4, ?_⟩
             refine ⟨by omega, fun b' hx => ?_⟩
             by_cases hltq : b' < b
             · exact ha4 b' hltq
             · obtain rfl : b' = b := by omega
               first | exact fun _ => h149 | exact fun hp => absurd hp (by omega)
            ·
             omega
          ·
           try simp only [sps] at h115
           refine .sg rfl rfl rfl rfl rfl rfl ?_
           refine .sg rfl rfl rfl rfl rfl rfl ?_
           refine .sg rfl rfl rfl rfl rfl rfl ?_
           refine .sg rfl rfl rfl rfl rfl rfl ?_
           refine .sg rfl rfl rfl rfl rfl rfl ?_
           refine .sg rfl rfl rfl rfl rfl rfl ?_
           refine .sg rfl rfl rfl rfl rfl rfl ?_
           refine .sg rfl rfl rfl rfl rfl rfl ?_
           refine .sg rfl rfl rfl rfl rfl rfl ?_
           refine .sg rfl rfl rfl rfl rfl rfl ?_
           refine .sg rfl rfl rfl rfl rfl rfl ?_
           refine .sg rfl rfl rfl rfl rfl rfl ?_
           refine .sg rfl rfl rfl rfl rfl rfl ?_
           refine .sg rfl rfl rfl rfl rfl rfl ?_
           refine .sg rfl rfl rfl rfl rfl rfl ?_
           refine .sg rfl rfl rfl rfl rfl rfl ?_
           refine .sg rfl rfl rfl rfl rfl rfl ?_
           refine .sg rfl rfl rfl rfl rfl rfl ?_
           refine .sg rfl rfl rfl rfl rfl rfl ?_
           refine .sg rfl rfl rfl rfl rfl rfl ?_
           refine .sg rfl rfl rfl rfl rfl rfl ?_
           refine .sg rfl rfl rfl rfl rfl rfl ?_
           refine .sg rfl rfl rfl rfl rfl rfl ?_
           refine .sg rfl rfl rfl rfl rfl rfl ?_
           refine .sg rfl rfl rfl rfl rfl rfl ?_
           refine .sg rfl rfl rfl rfl rfl rfl ?_
           refine .sg rfl rfl rfl rfl rfl rfl ?_
           refine .sg rfl rfl rfl rfl rfl rfl ?_
           refine .sg rfl rfl rfl rfl rfl rfl ?_
           refine .sg rfl rfl rfl rfl rfl rfl ?_
           refine .sgc rfl rfl rfl rfl rfl rfl ?_
           refine .sgc rfl rfl rfl rfl rfl rfl ?_
           refine .sg rfl rfl rfl rfl rfl rfl ?_
           refine .m rfl rfl rfl rfl (.refl _) (.pickF rfl rfl) ?_
           refine .done ?_
           refine hK27 _ _ ?_
           refine .condF rfl ?_
           refine .skip ?_
           refine hK25 _ _ ?_
           refine .region ?_
           refine .m rfl rfl rfl (.add rfl rfl rfl (by omega) (by omega)) ?_
           refine .m rfl rfl rfl (.move rfl) ?_
           refine .nil ?_
           refine hKL4 (b + 1) _ _ ?_ ?_ ⟨rfl, rfl, rfl, rfl, rfl, rfl, rfl, rfl, rfl, rfl, rfl, trivial⟩
           ·
            refine ⟨lst4, ?_⟩
            refine ⟨by omega, fun b' hx => ?_⟩
            by_cases hltq : b' < b
            · exact ha4 b' hltq
            · obtain rfl : b' = b := by omega
              first | exact fun _ => h149 | exact fun hp => absurd hp (by omega)
           ·
            omega
         ·
          try simp only [sps] at h109
          refine .exit ?_
          refine hK20 _ _ ?_
          refine .region ?_
          refine .m rfl rfl rfl (.add rfl rfl rfl (by omega) (by omega)) ?_
          refine .m rfl rfl rfl (.move rfl) ?_
          refine .nil ?_
          refine hKL3 (a + 1) _ _ ?_ ?_ ⟨rfl, rfl, rfl, rfl, rfl, rfl, rfl, trivial⟩
          ·
           refine ⟨lst3, ?_⟩
           refine ⟨by omega, fun a' hx => ?_⟩
           by_cases hltq : a' < a
           · exact ha3 a' hltq
           · obtain rfl : a' = a := by omega
             exact fun b hb => ha4 b (by omega)
          ·
           omega
       ·
        try simp only [sps] at h102
        refine .exit ?_
        refine hK7 _ _ ?_
        refine .region ?_
        refine .m rfl rfl rfl (.move rfl) ?_
        refine .m rfl rfl rfl (.add rfl rfl rfl (by omega) (by omega)) ?_
        refine .m rfl rfl rfl (.assign rfl) ?_
        refine .nil ?_
        refine hKL1 (y + 1) _ _ ?_ ?_ ⟨rfl, rfl, rfl, rfl, trivial⟩
        ·
         refine ⟨lst1, ?_⟩
         refine ⟨by omega, fun y' hx => ?_⟩
         by_cases hltq : y' < y
         · exact ha1 y' hltq
         · obtain rfl : y' = y := by omega
           exact ⟨fun x hx => ha2 x (by omega), fun a ha => ha3 a (by omega)⟩
        ·
         omega
   ·
    try simp only [sps] at h28
    refine .exit ?_
    refine hK3 _ _ ?_
    refine .seq (fun K29 hK29 => ?_)
    refine .seq (fun K30 hK30 => ?_)
    refine .region ?_
    refine .m rfl rfl rfl (.assign rfl) ?_
    refine .nil ?_
    refine hK30 _ _ ?_
    refine .block ?_
    refine .loopR (σ := Nat) [(0, some _), (3, some _), (4, some _)] (fun x => [(12, some (.int .i64 (x : Int)))]) (fun x H' => St [] HL1 H' ∧ (x : Int) ≤ m.s.obj ∧ ∀ x', x' < x → ∀ a : Nat, a < m.t.comp.length → ∀ b : Nat, b < (m.t.comp.getD a []).length → 0 ≤ (m.t.comp.getD a []).getD b 0 → (m.bh.getD ((m.t.comp.getD a []).getD b 0).toNat []).getD x' [] = thenL ((m.bh.getD a []).getD x' []) ((m.bh.getD b []).getD x' [])) (fun x => (m.s.obj - x : Int).toNat) (0) ⟨rfl, rfl, rfl, trivial⟩ ⟨rfl, trivial⟩ ?_ ?_
    ·
     refine ⟨.refl _ _, ?_⟩
     exact ⟨by omega, fun _ _ => by omega⟩
    ·
     rintro x HL5 ⟨lst5, hI⟩ KL5 hKL5
     refine .forget (fr' := [(12, some (.int .i64 (x : Int))), (0, some _), (3, some _), (4, some _)]) ⟨rfl, rfl, rfl, rfl, trivial⟩ ?_
     have nx_HL5 := lst5.nx
     replace hle := hle.st lst5 (fun k hk => trivial)
     replace lst1 := lst1.st lst5 (fun k hk ho => by simp only [out, and_true] at ho ⊢ <;> omega)
     replace h := base_h.mono hle
     clear fs ft c10 c11 c12 i2 i3 i4 hm hi hms his hmt hit c0 c1 c2 c3 c4 d1 d2 d3 d4 x0 x1 x2 x3 x4 y1 y2 y3 y4
     obtain ⟨fs, ft, c10, c11, c12, i2, i3, i4⟩ := h.get
     have hm : MemN _ _ _ _ _ := ⟨rfl, h.1⟩
     have hi := h.2
     have hms : MemN _ _ _ _ _ := ⟨rfl, fs.1⟩
     have his := fs.2
     have hmt : MemN _ _ _ _ _ := ⟨rfl, ft.1⟩
     have hit := ft.2
     obtain ⟨c0, c1, c2, c3, c4, d1, d2, d3, d4⟩ := fs.get
     obtain ⟨x0, x1, x2, x3, x4, y1, y2, y3, y4⟩ := ft.get
     obtain ⟨hk5, ha5⟩ := hI
     refine .seq (fun K31 hK31 => ?_)
     refine .seq (fun K32 hK32 => ?_)
     refine .region ?_
     refine .m rfl rfl rfl (.move rfl) ?_
     refine .m rfl rfl rfl (.move rfl) ?_
     refine .m rfl rfl rfl (.nilCheck rfl) ?_
     refine .m rfl rfl rfl (.fieldAddr fo_31_0_B rfl) ?_
     refine .m rfl rfl rfl (.load on_2_A rfl (by assumption)) ?_
     refine .m rfl rfl rfl (.cmp rfl rfl rfl) ?_
     refine .nil ?_
     refine hK32 _ _ ?_
     refine .cond rfl (fun h157 => ?_) (fun h157 => ?_)
     ·
      simp only [sps] at h157
      refine .skip ?_
      refine hK31 _ _ ?_
      refine .seq (fun K33 hK33 => ?_)
      refine .block ?_
      refine .seq (fun K34 hK34 => ?_)
      refine .region ?_
      refine .m rfl rfl rfl (.move rfl) ?_
      refine .m rfl rfl rfl (.nilCheck rfl) ?_
      refine .m rfl rfl rfl (.fieldAddr fo_31_4_B rfl) ?_
      refine .m rfl rfl rfl (.load on_23_B rfl (by assumption)) ?_
      refine .m rfl rfl rfl (.len sl_23_B rfl) ?_
      refine .m rfl rfl rfl (.move rfl) ?_
      refine .nil ?_
      refine hK34 _ _ ?_
      refine .block ?_
      refine .loopR (σ := Nat) [(0, some _), (3, some _), (4, some _), (12, some _), (163, some _), (164, some _)] (fun a => [(165, some (.int .i64 (a : Int)))]) (fun a H' => St [] HL5 H' ∧ (a : Int) ≤ m.t.comp.length ∧ ∀ a', a' < a → ∀ b : Nat, b < (m.t.comp.getD a' []).length → 0 ≤ (m.t.comp.getD a' []).getD b 0 → (m.bh.getD ((m.t.comp.getD a' []).getD b 0).toNat []).getD x [] = thenL ((m.bh.getD a' []).getD x []) ((m.bh.getD b []).getD x [])) (fun a => (m.t.comp.length - a : Int).toNat) (0) ⟨rfl, rfl, rfl, rfl, rfl, rfl, trivial⟩ ⟨rfl, trivial⟩ ?_ ?_
      ·
       refine ⟨.refl _ _, ?_⟩
       exact ⟨by omega, fun _ _ => by omega⟩
      ·
       rintro a HL6 ⟨lst6, hI⟩ KL6 hKL6
       refine .forget (fr' := [(165, some (.int .i64 (a : Int))), (0, some _), (3, some _), (4, some _), (12, some _), (163, some _), (164, some _)]) ⟨rfl, rfl, rfl, rfl, rfl, rfl, rfl, trivial⟩ ?_
       have nx_HL6 := lst6.nx
       replace hle := hle.st lst6 (fun k hk => trivial)
       replace lst1 := lst1.st lst6 (fun k hk ho => by simp only [out, and_true] at ho ⊢ <;> omega)
       replace lst5 := lst5.st lst6 (fun k hk ho => by simp only [out, and_true] at ho ⊢ <;> omega)
       replace h := base_h.mono hle
       clear fs ft c10 c11 c12 i2 i3 i4 hm hi hms his hmt hit c0 c1 c2 c3 c4 d1 d2 d3 d4 x0 x1 x2 x3 x4 y1 y2 y3 y4
       obtain ⟨fs, ft, c10, c11, c12, i2, i3, i4⟩ := h.get
       have hm : MemN _ _ _ _ _ := ⟨rfl, h.1⟩
       have hi := h.2
       have hms : MemN _ _ _ _ _ := ⟨rfl, fs.1⟩
       have his := fs.2
       have hmt : MemN _ _ _ _ _ := ⟨rfl, ft.1⟩
       have hit := ft.2
       obtain ⟨c0, c1, c2, c3, c4, d1, d2, d3, d4⟩ := fs.get
       obtain ⟨x0, x1, x2, x3, x4, y1, y2, y3, y4⟩ := ft.get
       obtain ⟨hk6, ha6⟩ := hI
       refine .seq (fun K35 hK35 => ?_)
       refine .region ?_
       refine .m rfl rfl rfl (.cmp rfl rfl rfl) ?_
       refine .nil ?_
       refine hK35 _ _ ?_
       refine .seq (fun K36 hK36 => ?_)
       refine .cond rfl (fun h166 => ?_) (fun h166 => ?_)
       ·
        simp only [sps] at h166
        have r1 := hD.row a (by omega)
        have r4 := hS.hx (b := a) (x := x) (by omega) (by omega)
        have r2 := y4.2 a (by omega)
        have r3 := i4.2 a (by omega)
        have r5 := r3.2 x (by omega)
        refine .skip ?_
        refine hK36 _ _ ?_
        refine .seq (fun K37 hK37 => ?_)
        refine .block ?_
        refine .seq (fun K38 hK38 => ?_)
        refine .region ?_
        refine .m rfl rfl rfl (.move rfl) ?_
        refine .m rfl rfl rfl (.idxN sl_23_B (Intss.sl (by assumption)) rfl rfl (by omega)) ?_
        refine .m rfl rfl rfl (.loadR on_22_B (by assumption) rfl (by omega)) ?_
        refine .m rfl rfl rfl (.assign rfl) ?_
        refine .m rfl rfl rfl (.assign rfl) ?_
        refine .nil ?_
        refine hK38 _ _ ?_
        refine .seq (fun K39 hK39 => ?_)
        refine .region ?_
        refine .m rfl rfl rfl (.move rfl) ?_
        refine .m rfl rfl rfl (.len sl_22_A rfl) ?_
        refine .m rfl rfl rfl (.move rfl) ?_
        refine .nil ?_
        refine hK39 _ _ ?_
        refine .block ?_
        refine .loopR (σ := Nat) [(0, some _), (3, some _), (4, some _), (12, some _), (13, some _), (163, some _), (164, some _), (165, some _), (170, some _), (171, some _)] (fun b => [(172, some (.int .i64 (b : Int)))]) (fun b H' => St [] HL6 H' ∧ (b : Int) ≤ (m.t.comp.getD a []).length ∧ ∀ b', b' < b → 0 ≤ (m.t.comp.getD a []).getD b' 0 → (m.bh.getD ((m.t.comp.getD a []).getD b' 0).toNat []).getD x [] = thenL ((m.bh.getD a []).getD x []) ((m.bh.getD b' []).getD x [])) (fun b => ((m.t.comp.getD a []).length - b : Int).toNat) (0) ⟨rfl, rfl, rfl, rfl, rfl, rfl, rfl, rfl, rfl, rfl, trivial⟩ ⟨rfl, trivial⟩ ?_ ?_
        ·
         refine ⟨.refl _ _, ?_⟩
         exact ⟨by omega, fun _ _ => by omega⟩
        ·
         rintro b HL7 ⟨lst7, hI⟩ KL7 hKL7
         refine .forget (fr' := [(172, some (.int .i64 (b : Int))), (0, some _), (3, some _), (4, some _), (12, some _), (13, some _), (163, some _), (164, some _), (165, some _), (170, some _), (171, some _)]) ⟨rfl, rfl, rfl, rfl, rfl, rfl, rfl, rfl, rfl, rfl, rfl, trivial⟩ ?_
         have nx_HL7 := lst7.nx
         replace hle := hle.st lst7 (fun k hk => trivial)
         replace lst1 := lst1.st lst7 (fun k hk ho => by simp only [out, and_true] at ho ⊢ <;> omega)
         replace lst5 := lst5.st lst7 (fun k hk ho => by simp only [out, and_true] at ho ⊢ <;> omega)
         replace lst6 := lst6.st lst7 (fun k hk ho => by simp only [out, and_true] at ho ⊢ <;> omega)
         replace h := base_h.mono hle
         clear fs ft c10 c11 c12 i2 i3 i4 hm hi hms his hmt hit c0 c1 c2 c3 c4 d1 d2 d3 d4 x0 x1 x2 x3 x4 y1 y2 y3 y4
         obtain ⟨fs, ft, c10, c11, c12, i2, i3, i4⟩ := h.get
         have hm : MemN _ _ _ _ _ := ⟨rfl, h.1⟩
         have hi := h.2
         have hms : MemN _ _ _ _ _ := ⟨rfl, fs.1⟩
         have his := fs.2
         have hmt : MemN _ _ _ _ _ := ⟨rfl, ft.1⟩
         have hit := ft.2
         obtain ⟨c0, c1, c2, c3, c4, d1, d2, d3, d4⟩ := fs.get
         obtain ⟨x0, x1, x2, x3, x4, y1, y2, y3, y4⟩ := ft.get
         clear r2 r3 r5
         have r2 := y4.2 a (by omega)
         have r3 := i4.2 a (by omega)
         have r5 := r3.2 x (by omega)
         obtain ⟨hk7, ha7⟩ := hI
         refine .seq (fun K40 hK40 => ?_)
         refine .region ?_
         refine .m rfl rfl rfl (.cmp rfl rfl rfl) ?_
         refine .nil ?_
         refine hK40 _ _ ?_
         refine .seq (fun K41 hK41 => ?_)
         refine .cond rfl (fun h173 => ?_) (fun h173 => ?_)
         ·
          simp only [sps] at h173
          have t4 := hS.hx (b := b) (x := x) (by omega) (by omega)
          have t3 := i4.2 b (by omega)
          have t5 := t3.2 x (by omega)
          refine .skip ?_
          refine hK41 _ _ ?_
          refine .seq (fun K42 hK42 => ?_)
          refine .block ?_
          refine .seq (fun K43 hK43 => ?_)
          refine .region ?_
          refine .m rfl rfl rfl (.move rfl) ?_
          refine .m rfl rfl rfl (.idxN sl_22_A (by assumption) rfl rfl (by omega)) ?_
          refine .m rfl rfl rfl (.loadI on_2_A (by assumption) rfl (by omega)) ?_
          refine .m rfl rfl rfl (.assign rfl) ?_
          refine .m rfl rfl rfl (.assign rfl) ?_
          refine .nil ?_
          refine hK43 _ _ ?_
          refine .seq (fun K44 hK44 => ?_)
          refine .regionD mixed_orders_B (.q 0 (.q 1 (.q 2 (.q 3 (.q 4 (.q 5 (.q 6 (.q 7 (.q 8 (.q 9 (.q 10 (.q 11 (.q 12 (.q 13 (.q 14 (.q 15 (.q 16 (.q 17 (.q 18 (.q 19 (.q 20 (.q 21 (.q 22 (.q 23 (.q 24 (.q 25 (.q 26 (.q 27 (.q 28 (.q 29 (.q 30 (.q 31 (.q 32 (.c 33 1 (.c 34 0 (.q 35 (.q 36 (.done)))))))))))))))))))))))))))))))))))))) (by kernel_rfl) ?_
          refine .m rfl rfl rfl rfl (.refl _) (.move rfl) ?_
          refine .m rfl rfl rfl rfl (.refl _) (.cmp rfl rfl rfl) ?_
          refine .m rfl rfl rfl rfl (.refl _) (.move rfl) ?_
          refine .split (fun h179 => ?_) (fun h179 => ?_)
          ·
           simp only [sps] at h179
           have u1 := hD.comp (a := a) (b := b) (by omega) (by omega) h179
           have u4 := hS.hx (b := ((m.t.comp.getD a []).getD b 0).toNat) (x := x) (by omega) (by omega)
           have u6 : ∀ i, i < ((m.bh.getD a []).getD x []).length → 0 ≤ ((m.bh.getD a []).getD x []).getD i 0 ∧ ((m.bh.getD a []).getD x []).getD i 0 < ((m.bh.getD b []).getD x []).length := fun i hi => by
             have := r4.2.2.2.2.2.1 i hi
             rw [u1.1, ← t4.2.2.2.2.1] at this
             exact this
           have u3 := i4.2 ((m.t.comp.getD a []).getD b 0).toNat (by omega)
           have u5 := u3.2 x (by omega)
           refine .mg rfl rfl rfl rfl rfl rfl (.refl _) (.move rfl) ?_
           refine .mg rfl rfl rfl rfl rfl rfl (.refl _) (.nilCheck rfl) ?_
           refine .mg rfl rfl rfl rfl rfl rfl (.refl _) (.fieldAddr fo_33_4_VProf rfl) ?_
           refine .mg rfl rfl rfl rfl rfl rfl (.refl _) (.load on_26_VProf rfl (by assumption)) ?_
           refine .mg rfl rfl rfl rfl rfl rfl (.refl _) (.move rfl) ?_
           refine .mg rfl rfl rfl rfl rfl rfl (.refl _) (.idx1 sl_26_VZ (Intsss.sl (by assumption)) rfl rfl (by omega) (by omega)) ?_
           refine .mg rfl rfl rfl rfl rfl rfl (.refl _) (.loadRR on_23_B (by assumption) rfl (by omega)) ?_
           refine .mg rfl rfl rfl rfl rfl rfl (.refl _) (.move rfl) ?_
           refine .mg rfl rfl rfl rfl rfl rfl (.refl _) (.idxN sl_23_B (Intss.sl (by assumption)) rfl rfl (by omega)) ?_
           refine .mg rfl rfl rfl rfl rfl rfl (.refl _) (.loadR on_22_B (by assumption) rfl (by omega)) ?_
           refine .mg rfl rfl rfl rfl rfl rfl (.refl _) (.move rfl) ?_
           refine .mg rfl rfl rfl rfl rfl rfl (.refl _) (.nilCheck rfl) ?_
           refine .mg rfl rfl rfl rfl rfl rfl (.refl _) (.fieldAddr fo_33_4_VProf rfl) ?_
           refine .mg rfl rfl rfl rfl rfl rfl (.refl _) (.load on_26_VProf rfl (by assumption)) ?_
           refine .mg rfl rfl rfl rfl rfl rfl (.refl _) (.move rfl) ?_
           refine .mg rfl rfl rfl rfl rfl rfl (.refl _) (.idxN sl_26_VZ (Intsss.sl (by assumption)) rfl rfl (by omega)) ?_
           refine .mg rfl rfl rfl rfl rfl rfl (.refl _) (.loadRR on_23_B (by assumption) rfl (by omega)) ?_
           refine .mg rfl rfl rfl rfl rfl rfl (.refl _) (.move rfl) ?_
           refine .mg rfl rfl rfl rfl rfl rfl (.refl _) (.idxN sl_23_B (Intss.sl (by assumption)) rfl rfl (by omega)) ?_
           refine .mg rfl rfl rfl rfl rfl rfl (.refl _) (.loadR on_22_B (by assumption) rfl (by omega)) ?_
           refine .mg rfl rfl rfl rfl rfl rfl (.refl _) (.move rfl) ?_
           refine .mg rfl rfl rfl rfl rfl rfl (.refl _) (.nilCheck rfl) ?_
           refine .mg rfl rfl rfl rfl rfl rfl (.refl _) (.fieldAddr fo_33_4_VProf rfl) ?_
           refine .mg rfl rfl rfl rfl rfl rfl (.refl _) (.load on_26_VProf rfl (by assumption)) ?_
           refine .mg rfl rfl rfl rfl rfl rfl (.refl _) (.move rfl) ?_
           refine .mg rfl rfl rfl rfl rfl rfl (.refl _) (.idxN sl_26_VZ (Intsss.sl (by assumption)) rfl rfl (by omega)) ?_
           refine .mg rfl rfl rfl rfl rfl rfl (.refl _) (.loadRR on_23_B (by assumption) rfl (by omega)) ?_
           refine .mg rfl rfl rfl rfl rfl rfl (.refl _) (.move rfl) ?_
           refine .mg rfl rfl rfl rfl rfl rfl (.refl _) (.idxN sl_23_B (Intss.sl (by assumption)) rfl rfl (by omega)) ?_
           refine .mg rfl rfl rfl rfl rfl rfl (.refl _) (.loadR on_22_B (by assumption) rfl (by omega)) ?_
           refine .call1g rfl rfl rfl rfl rfl rfl rfl @Try.call44 rfl (implThen_c) ?_
           rintro _ H210 ⟨le210, g210, rfl, at210, ge210⟩
           have hbl := le210
           refine ⟨hbl, ?_⟩
           have nx_H210 := le210.1
           replace hle := hle.trans le210
           replace lst1 := lst1.le le210
           replace lst5 := lst5.le le210
           replace lst6 := lst6.le le210
           replace lst7 := lst7.le le210
           have lt_at210 := GHeap.lt_of_get at210
           replace h := base_h.mono hle
           clear fs ft c10 c11 c12 i2 i3 i4 hm hi hms his hmt hit c0 c1 c2 c3 c4 d1 d2 d3 d4 x0 x1 x2 x3 x4 y1 y2 y3 y4
           obtain ⟨fs, ft, c10, c11, c12, i2, i3, i4⟩ := h.get
           have hm : MemN _ _ _ _ _ := ⟨rfl, h.1⟩
           have hi := h.2
           have hms : MemN _ _ _ _ _ := ⟨rfl, fs.1⟩
           have his := fs.2
           have hmt : MemN _ _ _ _ _ := ⟨rfl, ft.1⟩
           have hit := ft.2
           obtain ⟨c0, c1, c2, c3, c4, d1, d2, d3, d4⟩ := fs.get
           obtain ⟨x0, x1, x2, x3, x4, y1, y2, y3, y4⟩ := ft.get
           clear r2 r3 r5
           have r2 := y4.2 a (by omega)
           have r3 := i4.2 a (by omega)
           have r5 := r3.2 x (by omega)
           clear t3 t5
           have t3 := i4.2 b (by omega)
           have t5 := t3.2 x (by omega)
           clear u3 u5
           have u3 := i4.2 ((m.t.comp.getD a []).getD b 0).toNat (by omega)
           have u5 := u3.2 x (by omega)
           have i210 := Ints.of_get at210
           refine .callQ0g rfl rfl rfl rfl rfl rfl rfl @Try.call45 rfl (same_c (hy := by rw [length_thenL]; omega)) ?_
           refine .mg rfl rfl rfl rfl rfl rfl (.refl _) (.not rfl) ?_
           refine .m rfl rfl rfl rfl (.refl _) (.pickT rfl rfl) ?_
           refine .done ?_
           refine hK44 _ _ ?_
           refine .cond rfl (fun h213 => ?_) (fun h213 => ?_)
           ·
            try simp only [sps] at h213
            refine .seq (fun K45 hK45 => ?_)
            refine .region ?_
            refine .m rfl rfl rfl (.assign rfl) ?_
            refine .nil ?_
            refine hK45 _ _ ?_
            refine .ret ?_
            -- leaf e4
            refine hret _ _ ?_
            refine ⟨_, rfl, ?_⟩
            first
            | exact ⟨congrArg _ (B_true ⟨fun y hy x hx => (ha1 y (by omega)).1 x (by omega), fun y hy a ha b hb => (ha1 y (by omega)).2 a (by omega) b (by have := hC.row a (by omega); omega), fun x hx a ha b hb => ha5 x (by omega) a (by omega) b (by have := hD.row a (by omega); omega)⟩), hle⟩
            | exact ⟨congrArg _ (B_false fun hh => h94 (hh.idb y (by omega) x (by omega)).2), hle⟩
            | exact ⟨congrArg _ (B_false fun hh => h64 (hh.idb y (by omega) x (by omega)).1), hle⟩
            | exact ⟨congrArg _ (B_false fun hh => h149 (hh.thb y (by omega) a (by omega) b (by omega) h115)), hle⟩
            | exact ⟨congrArg _ (B_false fun hh => h213 (hh.thh x (by omega) a (by omega) b (by omega) h179)), hle⟩
           ·
            try simp only [sps] at h213
            refine .skip ?_
            refine hK42 _ _ ?_
            refine .region ?_
            refine .m rfl rfl rfl (.add rfl rfl rfl (by omega) (by omega)) ?_
            refine .m rfl rfl rfl (.move rfl) ?_
            refine .nil ?_
            refine hKL7 (b + 1) _ _ ?_ ?_ ⟨rfl, rfl, rfl, rfl, rfl, rfl, rfl, rfl, rfl, rfl, rfl, trivial⟩
            ·
             refine ⟨lst7, ?_⟩
             refine ⟨by omega, fun b' hx => ?_⟩
             by_cases hltq : b' < b
             · exact ha7 b' hltq
             · obtain rfl : b' = b := by omega
               first | exact fun _ => h213 | exact fun hp => absurd hp (by omega)
            ·
             omega
          ·
           try simp only [sps] at h179
           refine .sg rfl rfl rfl rfl rfl rfl ?_
           refine .sg rfl rfl rfl rfl rfl rfl ?_
           refine .sg rfl rfl rfl rfl rfl rfl ?_
           refine .sg rfl rfl rfl rfl rfl rfl ?_
           refine .sg rfl rfl rfl rfl rfl rfl ?_
           refine .sg rfl rfl rfl rfl rfl rfl ?_
           refine .sg rfl rfl rfl rfl rfl rfl ?_
           refine .sg rfl rfl rfl rfl rfl rfl ?_
           refine .sg rfl rfl rfl rfl rfl rfl ?_
           refine .sg rfl rfl rfl rfl rfl rfl ?_
           refine .sg rfl rfl rfl rfl rfl rfl ?_
           refine .sg rfl rfl rfl rfl rfl rfl ?_
           refine .sg rfl rfl rfl rfl rfl rfl ?_
           refine .sg rfl rfl rfl rfl rfl rfl ?_
           refine .sg rfl rfl rfl rfl rfl rfl ?_
           refine .sg rfl rfl rfl rfl rfl rfl ?_
           refine .sg rfl rfl rfl rfl rfl rfl ?_
           refine .sg rfl rfl rfl rfl rfl rfl ?_
           refine .sg rfl rfl rfl rfl rfl rfl ?_
           refine .sg rfl rfl rfl rfl rfl rfl ?_
           refine .sg rfl rfl rfl rfl rfl rfl ?_
           refine .sg rfl rfl rfl rfl rfl rfl ?_
           refine .sg rfl rfl rfl rfl rfl rfl ?_
           refine .sg rfl rfl rfl rfl rfl rfl ?_
           refine .sg rfl rfl rfl rfl rfl rfl ?_
           refine .sg rfl rfl rfl rfl rfl rfl ?_
           refine .sg rfl rfl rfl rfl rfl rfl ?_
           refine .sg rfl rfl rfl rfl rfl rfl ?_
           refine .sg rfl rfl rfl rfl rfl rfl ?_
           refine .sg rfl rfl rfl rfl rfl rfl ?_
           refine .sgc rfl rfl rfl rfl rfl rfl ?_
           refine .sgc rfl rfl rfl rfl rfl rfl ?_
           refine .sg rfl rfl rfl rfl rfl rfl ?_
           refine .m rfl rfl rfl rfl (.refl _) (.pickF rfl rfl) ?_
           refine .done ?_
           refine hK44 _ _ ?_
           refine .condF rfl ?_
           refine .skip ?_
           refine hK42 _ _ ?_
           refine .region ?_
           refine .m rfl rfl rfl (.add rfl rfl rfl (by omega) (by omega)) ?_
           refine .m rfl rfl rfl (.move rfl) ?_
           refine .nil ?_
           refine hKL7 (b + 1) _ _ ?_ ?_ ⟨rfl, rfl, rfl, rfl, rfl, rfl, rfl, rfl, rfl, rfl, rfl, trivial⟩
           ·
            refine ⟨lst7, ?_⟩
            refine ⟨by omega, fun b' hx => ?_⟩
            by_cases hltq : b' < b
            · exact ha7 b' hltq
            · obtain rfl : b' = b := by omega
              first | exact fun _ => h213 | exact fun hp => absurd hp (by omega)
           ·
            omega
         ·
          try simp only [sps] at h173
          refine .exit ?_
          refine hK37 _ _ ?_
          refine .region ?_
          refine .m rfl rfl rfl (.add rfl rfl rfl (by omega) (by omega)) ?_
          refine .m rfl rfl rfl (.move rfl) ?_
          refine .nil ?_
          refine hKL6 (a + 1) _ _ ?_ ?_ ⟨rfl, rfl, rfl, rfl, rfl, rfl, rfl, trivial⟩
          ·
           refine ⟨lst6, ?_⟩
           refine ⟨by omega, fun a' hx => ?_⟩
           by_cases hltq : a' < a
           · exact ha6 a' hltq
           · obtain rfl : a' = a := by omega
             exact fun b hb => ha7 b (by omega)
          ·
           omega
       ·
        try simp only [sps] at h166
        refine .exit ?_
        refine hK33 _ _ ?_
        refine .region ?_
        refine .m rfl rfl rfl (.move rfl) ?_
        refine .m rfl rfl rfl (.add rfl rfl rfl (by omega) (by omega)) ?_
        refine .m rfl rfl rfl (.assign rfl) ?_
        refine .nil ?_
        refine hKL5 (x + 1) _ _ ?_ ?_ ⟨rfl, rfl, rfl, rfl, trivial⟩
        ·
         refine ⟨lst5, ?_⟩
         refine ⟨by omega, fun x' hx => ?_⟩
         by_cases hltq : x' < x
         · exact ha5 x' hltq
         · obtain rfl : x' = x := by omega
           exact fun a ha => ha6 a (by omega)
        ·
         omega
     ·
      try simp only [sps] at h157
      refine .exit ?_
      refine hK29 _ _ ?_
      refine .seq (fun K46 hK46 => ?_)
      refine .region ?_
      refine .m rfl rfl rfl (.assign rfl) ?_
      refine .nil ?_
      refine hK46 _ _ ?_
      refine .ret ?_
      -- leaf e5
      refine hret _ _ ?_
      refine ⟨_, rfl, ?_⟩
      first
      | exact ⟨congrArg _ (B_true ⟨fun y hy x hx => (ha1 y (by omega)).1 x (by omega), fun y hy a ha b hb => (ha1 y (by omega)).2 a (by omega) b (by have := hC.row a (by omega); omega), fun x hx a ha b hb => ha5 x (by omega) a (by omega) b (by have := hD.row a (by omega); omega)⟩), hle⟩
      | exact ⟨congrArg _ (B_false fun hh => h94 (hh.idb y (by omega) x (by omega)).2), hle⟩
      | exact ⟨congrArg _ (B_false fun hh => h64 (hh.idb y (by omega) x (by omega)).1), hle⟩
      | exact ⟨congrArg _ (B_false fun hh => h149 (hh.thb y (by omega) a (by omega) b (by omega) h115)), hle⟩
      | exact ⟨congrArg _ (B_false fun hh => h213 (hh.thh x (by omega) a (by omega) b (by omega) h179)), hle⟩
set_option maxHeartbeats 4000000 in
theorem isProfunctor_c {g o : Nat} {m : Prof} {p : ProfP} {H : GHeap} (h : Prof.At H g o m p := by assumption) (hs : m.Small := by assumption) : GCalls Try.prog 23 [.pointer (some ⟨g, o, none⟩)] H (Ret (.bool (B m.Is)) H) := by
  refine GCalls.ret rfl ?_
  refine GCalls.body (N := 111) (rs := [.tmp 2]) Try.func23 rfl rfl rfl rfl (fun Qx hret hend => ?_)
  refine .forget (fr' := [(0, some _)]) ⟨rfl, trivial⟩ ?_
  have hle := GHeap.Le.refl H
  have base_h := h
  obtain ⟨fs, ft, c10, c11, c12, i2, i3, i4⟩ := h.get
  have hm : MemN _ _ _ _ _ := ⟨rfl, h.1⟩
  have hi := h.2
  have hms : MemN _ _ _ _ _ := ⟨rfl, fs.1⟩
  have his := fs.2
  have hmt : MemN _ _ _ _ _ := ⟨rfl, ft.1⟩
  have hit := ft.2
  obtain ⟨c0, c1, c2, c3, c4, d1, d2, d3, d4⟩ := fs.get
  obtain ⟨x0, x1, x2, x3, x4, y1, y2, y3, y4⟩ := ft.get
  refine .seq (fun K1 hK1 => ?_)
  refine .region ?_
  refine .m rfl rfl rfl (.assign rfl) ?_
  refine .nil ?_
  refine hK1 _ _ ?_
  refine .seq (fun K2 hK2 => ?_)
  refine .seq (fun K3 hK3 => ?_)
  refine .region ?_
  refine .m rfl rfl rfl (.move rfl) ?_
  refine .callQ rfl rfl rfl rfl @Try.call42 rfl (pfShape_c) ?_
  refine .m rfl rfl rfl (.not rfl) ?_
  refine .m rfl rfl rfl (.move rfl) ?_
  refine .split (fun h12 => ?_) (fun h12 => ?_)
  ·
   try simp only [sps] at h12
   refine .sg rfl rfl rfl rfl rfl ?_
   refine .sg rfl rfl rfl rfl rfl ?_
   refine .sg rfl rfl rfl rfl rfl ?_
   refine .m rfl rfl rfl (.pickT rfl rfl) ?_
   refine .nil ?_
   refine hK3 _ _ ?_
   refine .condT rfl ?_
   refine .seq (fun K4 hK4 => ?_)
   refine .region ?_
   refine .m rfl rfl rfl (.assign rfl) ?_
   refine .nil ?_
   refine hK4 _ _ ?_
   refine .ret ?_
   -- leaf e1
   refine hret _ _ ?_
   refine ⟨_, rfl, ?_⟩
   first
   | exact ⟨congrArg _ (B_false fun hh => h12 hh.1), hle⟩
   | exact ⟨congrArg _ (B_true ⟨hS, h16, fun a ha b hb => ha1 a (by omega) b (by omega)⟩), hle⟩
   | exact ⟨congrArg _ (B_false fun hh => h16 hh.2.1), hle⟩
   | exact ⟨congrArg _ (B_false fun hh => h108 (hh.2.2 a (by omega) b (by omega))), hle⟩
   | exact ⟨congrArg _ (B_false fun hh => h16 hh.2.1), hle⟩
  ·
   simp only [sps] at h12
   have hS := h12
   refine .mg rfl rfl rfl rfl rfl (.move rfl) ?_
   refine .callQg rfl rfl rfl rfl rfl rfl @Try.call43 rfl (pfActs_c) ?_
   refine .mg rfl rfl rfl rfl rfl (.not rfl) ?_
   refine .m rfl rfl rfl (.pickF rfl rfl) ?_
   refine .nil ?_
   refine hK3 _ _ ?_
   refine .cond rfl (fun h16 => ?_) (fun h16 => ?_)
   ·
    try simp only [sps] at h16
    refine .seq (fun K5 hK5 => ?_)
    refine .region ?_
    refine .m rfl rfl rfl (.assign rfl) ?_
    refine .nil ?_
    refine hK5 _ _ ?_
    refine .ret ?_
    -- leaf e2
    refine hret _ _ ?_
    refine ⟨_, rfl, ?_⟩
    first
    | exact ⟨congrArg _ (B_false fun hh => h12 hh.1), hle⟩
    | exact ⟨congrArg _ (B_true ⟨hS, h16, fun a ha b hb => ha1 a (by omega) b (by omega)⟩), hle⟩
    | exact ⟨congrArg _ (B_false fun hh => h16 hh.2.1), hle⟩
    | exact ⟨congrArg _ (B_false fun hh => h108 (hh.2.2 a (by omega) b (by omega))), hle⟩
    | exact ⟨congrArg _ (B_false fun hh => h16 hh.2.1), hle⟩
   ·
    try simp only [sps] at h16
    refine .skip ?_
    refine hK2 _ _ ?_
    refine .seq (fun K6 hK6 => ?_)
    refine .regionD mixed_orders_B (.q 0 (.q 1 (.q 2 (.q 3 (.q 4 (.q 5 (.q 6 (.q 7 (.done))))))))) (by kernel_rfl) ?_
    refine .m rfl rfl rfl rfl (.refl _) (.move rfl) ?_
    refine .m rfl rfl rfl rfl (.refl _) (.nilCheck rfl) ?_
    refine .m rfl rfl rfl rfl (.refl _) (.fieldAddr fo_33_0_VProf rfl) ?_
    refine .m rfl rfl rfl rfl (.refl _) (.move rfl) ?_
    refine .m rfl rfl rfl rfl (.refl _) (.nilCheck rfl) ?_
    refine .m rfl rfl rfl rfl (.refl _) (.fieldAddr fo_33_1_VProf rfl) ?_
    refine .m rfl rfl rfl rfl (.refl _) (.assign rfl) ?_
    refine .m rfl rfl rfl rfl (.refl _) (.assign rfl) ?_
    refine .done ?_
    refine hK6 _ _ ?_
    refine .seq (fun K7 hK7 => ?_)
    refine .seq (fun K8 hK8 => ?_)
    refine .region ?_
    refine .m rfl rfl rfl (.move rfl) ?_
    refine .m rfl rfl rfl (.nilCheck rfl) ?_
    refine .m rfl rfl rfl (.fieldAddr fo_33_3_VProf rfl) ?_
    refine .m rfl rfl rfl (.load on_26_VProf rfl (by assumption)) ?_
    refine .m rfl rfl rfl (.len sl_26_VZ rfl) ?_
    refine .m rfl rfl rfl (.move rfl) ?_
    refine .nil ?_
    refine hK8 _ _ ?_
    refine .block ?_
    have hC := hS.s.1
    have hD := hS.t.1
    have q5 := hS.z.sl
    have q6 := hS.z.bl
    have q7 := hS.z.hl
    have q10 := hC.n40
    have q11 := hD.n40
    have q12 := hC.tl
    have q13 := hD.tl
    refine .loopR (σ := Nat) [(0, some _), (3, some _), (4, some _), (27, some _)] (fun a => [(28, some (.int .i64 (a : Int)))]) (fun a H' => St [] H H' ∧ (a : Int) ≤ m.be.length ∧ ∀ a', a' < a → ∀ b, b < m.bh.length → m.MixAt a' b) (fun a => (m.be.length - a : Int).toNat) (0) ⟨rfl, rfl, rfl, rfl, trivial⟩ ⟨rfl, trivial⟩ ?_ ?_
    ·
     refine ⟨.refl _ _, ?_⟩
     exact ⟨by omega, fun _ _ => by omega⟩
    ·
     rintro a HL1 ⟨lst1, hI⟩ KL1 hKL1
     refine .forget (fr' := [(28, some (.int .i64 (a : Int))), (0, some _), (3, some _), (4, some _), (27, some _)]) ⟨rfl, rfl, rfl, rfl, rfl, trivial⟩ ?_
     have nx_HL1 := lst1.nx
     replace hle := hle.st lst1 (fun k hk => trivial)
     replace h := base_h.mono hle
     clear fs ft c10 c11 c12 i2 i3 i4 hm hi hms his hmt hit c0 c1 c2 c3 c4 d1 d2 d3 d4 x0 x1 x2 x3 x4 y1 y2 y3 y4
     obtain ⟨fs, ft, c10, c11, c12, i2, i3, i4⟩ := h.get
     have hm : MemN _ _ _ _ _ := ⟨rfl, h.1⟩
     have hi := h.2
     have hms : MemN _ _ _ _ _ := ⟨rfl, fs.1⟩
     have his := fs.2
     have hmt : MemN _ _ _ _ _ := ⟨rfl, ft.1⟩
     have hit := ft.2
     obtain ⟨c0, c1, c2, c3, c4, d1, d2, d3, d4⟩ := fs.get
     obtain ⟨x0, x1, x2, x3, x4, y1, y2, y3, y4⟩ := ft.get
     obtain ⟨hk1, ha1⟩ := hI
     refine .seq (fun K9 hK9 => ?_)
     refine .region ?_
     refine .m rfl rfl rfl (.cmp rfl rfl rfl) ?_
     refine .nil ?_
     refine hK9 _ _ ?_
     refine .seq (fun K10 hK10 => ?_)
     refine .cond rfl (fun h29 => ?_) (fun h29 => ?_)
     ·
      simp only [sps] at h29
      have r2 := hS.z.b hS.s (a := a) (by omega)
      have r1 := i3.2 a (by omega)
      refine .skip ?_
      refine hK10 _ _ ?_
      refine .seq (fun K11 hK11 => ?_)
      refine .block ?_
      refine .seq (fun K12 hK12 => ?_)
      refine .region ?_
      refine .m rfl rfl rfl (.move rfl) ?_
      refine .m rfl rfl rfl (.assign rfl) ?_
      refine .nil ?_
      refine hK12 _ _ ?_
      refine .seq (fun K13 hK13 => ?_)
      refine .region ?_
      refine .m rfl rfl rfl (.move rfl) ?_
      refine .m rfl rfl rfl (.nilCheck rfl) ?_
      refine .m rfl rfl rfl (.fieldAddr fo_33_4_VProf rfl) ?_
      refine .m rfl rfl rfl (.load on_26_VProf rfl (by assumption)) ?_
      refine .m rfl rfl rfl (.len sl_26_VZ rfl) ?_
      refine .m rfl rfl rfl (.move rfl) ?_
      refine .nil ?_
      refine hK13 _ _ ?_
      refine .block ?_
      refine .loopR (σ := Nat) [(0, some _), (3, some _), (4, some _), (5, some _), (27, some _), (28, some _), (35, some _)] (fun b => [(36, some (.int .i64 (b : Int)))]) (fun b H' => St [] HL1 H' ∧ (b : Int) ≤ m.bh.length ∧ ∀ b', b' < b → m.MixAt a b') (fun b => (m.bh.length - b : Int).toNat) (0) ⟨rfl, rfl, rfl, rfl, rfl, rfl, rfl, trivial⟩ ⟨rfl, trivial⟩ ?_ ?_
      ·
       refine ⟨.refl _ _, ?_⟩
       exact ⟨by omega, fun _ _ => by omega⟩
      ·
       rintro b HL2 ⟨lst2, hI⟩ KL2 hKL2
       refine .forget (fr' := [(36, some (.int .i64 (b : Int))), (0, some _), (3, some _), (4, some _), (5, some _), (27, some _), (28, some _), (35, some _)]) ⟨rfl, rfl, rfl, rfl, rfl, rfl, rfl, rfl, trivial⟩ ?_
       have nx_HL2 := lst2.nx
       replace hle := hle.st lst2 (fun k hk => trivial)
       replace lst1 := lst1.st lst2 (fun k hk ho => by simp only [out, and_true] at ho ⊢ <;> omega)
       replace h := base_h.mono hle
       clear fs ft c10 c11 c12 i2 i3 i4 hm hi hms his hmt hit c0 c1 c2 c3 c4 d1 d2 d3 d4 x0 x1 x2 x3 x4 y1 y2 y3 y4
       obtain ⟨fs, ft, c10, c11, c12, i2, i3, i4⟩ := h.get
       have hm : MemN _ _ _ _ _ := ⟨rfl, h.1⟩
       have hi := h.2
       have hms : MemN _ _ _ _ _ := ⟨rfl, fs.1⟩
       have his := fs.2
       have hmt : MemN _ _ _ _ _ := ⟨rfl, ft.1⟩
       have hit := ft.2
       obtain ⟨c0, c1, c2, c3, c4, d1, d2, d3, d4⟩ := fs.get
       obtain ⟨x0, x1, x2, x3, x4, y1, y2, y3, y4⟩ := ft.get
       clear r1
       have r1 := i3.2 a (by omega)
       obtain ⟨hk2, ha2⟩ := hI
       refine .seq (fun K14 hK14 => ?_)
       refine .region ?_
       refine .m rfl rfl rfl (.cmp rfl rfl rfl) ?_
       refine .nil ?_
       refine hK14 _ _ ?_
       refine .seq (fun K15 hK15 => ?_)
       refine .cond rfl (fun h37 => ?_) (fun h37 => ?_)
       ·
        simp only [sps] at h37
        have t2 := hS.z.h hS.t (b := b) (by omega)
        have v1 := hS.by (a := a) (y := (m.t.src.getD b 0).toNat) (by omega) (by omega)
        have v2 := hS.by (a := a) (y := (m.t.tgt.getD b 0).toNat) (by omega) (by omega)
        have v3 := hS.hx (b := b) (x := (m.s.src.getD a 0).toNat) (by omega) (by omega)
        have v4 := hS.hx (b := b) (x := (m.s.tgt.getD a 0).toNat) (by omega) (by omega)
        have u1 : ∀ i, i < ((m.be.getD a []).getD (m.t.src.getD b 0).toNat []).length → 0 ≤ ((m.be.getD a []).getD (m.t.src.getD b 0).toNat []).getD i 0 ∧ ((m.be.getD a []).getD (m.t.src.getD b 0).toNat []).getD i 0 < ((m.bh.getD b []).getD (m.s.src.getD a 0).toNat []).length := fun i hi => by
          have := v1.2.2.2.2.1 i hi
          rw [← v3.2.2.2.2.1] at this
          exact this
        have u2 : ∀ i, i < ((m.bh.getD b []).getD (m.s.tgt.getD a 0).toNat []).length → 0 ≤ ((m.bh.getD b []).getD (m.s.tgt.getD a 0).toNat []).getD i 0 ∧ ((m.bh.getD b []).getD (m.s.tgt.getD a 0).toNat []).getD i 0 < ((m.be.getD a []).getD (m.t.tgt.getD b 0).toNat []).length := fun i hi => by
          have := v4.2.2.2.2.2.1 i hi
          rw [← v2.2.2.2.1] at this
          exact this
        have t1 := i4.2 b (by omega)
        have w1 := r1.2 (m.t.src.getD b 0).toNat (by omega)
        have w2 := r1.2 (m.t.tgt.getD b 0).toNat (by omega)
        have w3 := t1.2 (m.s.src.getD a 0).toNat (by omega)
        have w4 := t1.2 (m.s.tgt.getD a 0).toNat (by omega)
        refine .skip ?_
        refine hK15 _ _ ?_
        refine .seq (fun K16 hK16 => ?_)
        refine .block ?_
        refine .seq (fun K17 hK17 => ?_)
        refine .region ?_
        refine .m rfl rfl rfl (.move rfl) ?_
        refine .m rfl rfl rfl (.assign rfl) ?_
        refine .nil ?_
        refine hK17 _ _ ?_
        refine .seq (fun K18 hK18 => ?_)
        refine .regionD mixed_orders_B (.q 0 (.q 1 (.q 2 (.q 3 (.q 4 (.q 5 (.q 6 (.q 7 (.q 8 (.q 9 (.q 10 (.q 11 (.q 12 (.q 13 (.q 14 (.q 15 (.q 16 (.q 17 (.q 18 (.q 19 (.q 20 (.q 21 (.q 22 (.q 23 (.q 24 (.q 25 (.q 26 (.q 27 (.q 28 (.q 29 (.q 30 (.q 31 (.c 32 0 (.q 33 (.done))))))))))))))))))))))))))))))))))) (by kernel_rfl) ?_
        refine .m rfl rfl rfl rfl (.refl _) (.move rfl) ?_
        refine .m rfl rfl rfl rfl (.refl _) (.nilCheck rfl) ?_
        refine .m rfl rfl rfl rfl (.refl _) (.fieldAddr fo_33_3_VProf rfl) ?_
        refine .m rfl rfl rfl rfl (.refl _) (.load on_26_VProf rfl (by assumption)) ?_
        refine .m rfl rfl rfl rfl (.refl _) (.move rfl) ?_
        refine .m rfl rfl rfl rfl (.refl _) (.idxN sl_26_VZ (Intsss.sl (by assumption)) rfl rfl (by omega)) ?_
        refine .m rfl rfl rfl rfl (.refl _) (.loadRR on_23_B (by assumption) rfl (by omega)) ?_
        refine .m rfl rfl rfl rfl (.refl _) (.move rfl) ?_
        refine .m rfl rfl rfl rfl (.refl _) (.nilCheck rfl) ?_
        refine .m rfl rfl rfl rfl (.refl _) (.fieldAddr fo_31_1_B rfl) ?_
        refine .m rfl rfl rfl rfl (.refl _) (.load on_22_B rfl (by assumption)) ?_
        refine .m rfl rfl rfl rfl (.refl _) (.move rfl) ?_
        refine .m rfl rfl rfl rfl (.refl _) (.idxN sl_22_A (by assumption) rfl rfl (by omega)) ?_
        refine .m rfl rfl rfl rfl (.refl _) (.loadI on_2_A (by assumption) rfl (by omega)) ?_
        refine .m rfl rfl rfl rfl (.refl _) (.idx1 sl_23_B (Intss.sl (by assumption)) rfl rfl (by omega) (by omega)) ?_
        refine .m rfl rfl rfl rfl (.refl _) (.loadR on_22_B (by assumption) rfl (by omega)) ?_
        refine .m rfl rfl rfl rfl (.refl _) (.move rfl) ?_
        refine .m rfl rfl rfl rfl (.refl _) (.nilCheck rfl) ?_
        refine .m rfl rfl rfl rfl (.refl _) (.fieldAddr fo_33_4_VProf rfl) ?_
        refine .m rfl rfl rfl rfl (.refl _) (.load on_26_VProf rfl (by assumption)) ?_
        refine .m rfl rfl rfl rfl (.refl _) (.move rfl) ?_
        refine .m rfl rfl rfl rfl (.refl _) (.idxN sl_26_VZ (Intsss.sl (by assumption)) rfl rfl (by omega)) ?_
        refine .m rfl rfl rfl rfl (.refl _) (.loadRR on_23_B (by assumption) rfl (by omega)) ?_
        refine .m rfl rfl rfl rfl (.refl _) (.move rfl) ?_
        refine .m rfl rfl rfl rfl (.refl _) (.nilCheck rfl) ?_
        refine .m rfl rfl rfl rfl (.refl _) (.fieldAddr fo_31_1_B rfl) ?_
        refine .m rfl rfl rfl rfl (.refl _) (.load on_22_B rfl (by assumption)) ?_
        refine .m rfl rfl rfl rfl (.refl _) (.move rfl) ?_
        refine .m rfl rfl rfl rfl (.refl _) (.idxN sl_22_A (by assumption) rfl rfl (by omega)) ?_
        refine .m rfl rfl rfl rfl (.refl _) (.loadI on_2_A (by assumption) rfl (by omega)) ?_
        refine .m rfl rfl rfl rfl (.refl _) (.idx1 sl_23_B (Intss.sl (by assumption)) rfl rfl (by omega) (by omega)) ?_
        refine .m rfl rfl rfl rfl (.refl _) (.loadR on_22_B (by assumption) rfl (by omega)) ?_
        refine .call0 rfl rfl rfl rfl rfl @Try.call44 rfl (implThen_c) ?_
        rintro _ H71 ⟨le71, g71, rfl, at71, ge71⟩
        have nx_H71 := le71.1
        replace hle := hle.trans le71
        replace lst1 := lst1.le le71
        replace lst2 := lst2.le le71
        have lt_at71 := GHeap.lt_of_get at71
        replace h := base_h.mono hle
        clear fs ft c10 c11 c12 i2 i3 i4 hm hi hms his hmt hit c0 c1 c2 c3 c4 d1 d2 d3 d4 x0 x1 x2 x3 x4 y1 y2 y3 y4
        obtain ⟨fs, ft, c10, c11, c12, i2, i3, i4⟩ := h.get
        have hm : MemN _ _ _ _ _ := ⟨rfl, h.1⟩
        have hi := h.2
        have hms : MemN _ _ _ _ _ := ⟨rfl, fs.1⟩
        have his := fs.2
        have hmt : MemN _ _ _ _ _ := ⟨rfl, ft.1⟩
        have hit := ft.2
        obtain ⟨c0, c1, c2, c3, c4, d1, d2, d3, d4⟩ := fs.get
        obtain ⟨x0, x1, x2, x3, x4, y1, y2, y3, y4⟩ := ft.get
        clear r1
        have r1 := i3.2 a (by omega)
        clear t1 w1 w2 w3 w4
        have t1 := i4.2 b (by omega)
        have w1 := r1.2 (m.t.src.getD b 0).toNat (by omega)
        have w2 := r1.2 (m.t.tgt.getD b 0).toNat (by omega)
        have w3 := t1.2 (m.s.src.getD a 0).toNat (by omega)
        have w4 := t1.2 (m.s.tgt.getD a 0).toNat (by omega)
        have i71 := Ints.of_get at71
        refine .m rfl rfl rfl rfl (.refl _) (.assign rfl) ?_
        refine .done ?_
        refine hK18 _ _ ?_
        refine .seq (fun K19 hK19 => ?_)
        refine .regionD mixed_orders_B (.q 0 (.q 1 (.q 2 (.q 3 (.q 4 (.q 5 (.q 6 (.q 7 (.q 8 (.q 9 (.q 10 (.q 11 (.q 12 (.q 13 (.q 14 (.q 15 (.q 16 (.q 17 (.q 18 (.q 19 (.q 20 (.q 21 (.q 22 (.q 23 (.q 24 (.q 25 (.q 26 (.q 27 (.q 28 (.q 29 (.q 30 (.q 31 (.c 32 0 (.q 33 (.done))))))))))))))))))))))))))))))))))) (by kernel_rfl) ?_
        refine .m rfl rfl rfl rfl (.refl _) (.move rfl) ?_
        refine .m rfl rfl rfl rfl (.refl _) (.nilCheck rfl) ?_
        refine .m rfl rfl rfl rfl (.refl _) (.fieldAddr fo_33_4_VProf rfl) ?_
        refine .m rfl rfl rfl rfl (.refl _) (.load on_26_VProf rfl (by assumption)) ?_
        refine .m rfl rfl rfl rfl (.refl _) (.move rfl) ?_
        refine .m rfl rfl rfl rfl (.refl _) (.idxN sl_26_VZ (Intsss.sl (by assumption)) rfl rfl (by omega)) ?_
        refine .m rfl rfl rfl rfl (.refl _) (.loadRR on_23_B (by assumption) rfl (by omega)) ?_
        refine .m rfl rfl rfl rfl (.refl _) (.move rfl) ?_
        refine .m rfl rfl rfl rfl (.refl _) (.nilCheck rfl) ?_
        refine .m rfl rfl rfl rfl (.refl _) (.fieldAddr fo_31_2_B rfl) ?_
        refine .m rfl rfl rfl rfl (.refl _) (.load on_22_B rfl (by assumption)) ?_
        refine .m rfl rfl rfl rfl (.refl _) (.move rfl) ?_
        refine .m rfl rfl rfl rfl (.refl _) (.idxN sl_22_A (by assumption) rfl rfl (by omega)) ?_
        refine .m rfl rfl rfl rfl (.refl _) (.loadI on_2_A (by assumption) rfl (by omega)) ?_
        refine .m rfl rfl rfl rfl (.refl _) (.idx1 sl_23_B (Intss.sl (by assumption)) rfl rfl (by omega) (by omega)) ?_
        refine .m rfl rfl rfl rfl (.refl _) (.loadR on_22_B (by assumption) rfl (by omega)) ?_
        refine .m rfl rfl rfl rfl (.refl _) (.move rfl) ?_
        refine .m rfl rfl rfl rfl (.refl _) (.nilCheck rfl) ?_
        refine .m rfl rfl rfl rfl (.refl _) (.fieldAddr fo_33_3_VProf rfl) ?_
        refine .m rfl rfl rfl rfl (.refl _) (.load on_26_VProf rfl (by assumption)) ?_
        refine .m rfl rfl rfl rfl (.refl _) (.move rfl) ?_
        refine .m rfl rfl rfl rfl (.refl _) (.idxN sl_26_VZ (Intsss.sl (by assumption)) rfl rfl (by omega)) ?_
        refine .m rfl rfl rfl rfl (.refl _) (.loadRR on_23_B (by assumption) rfl (by omega)) ?_
        refine .m rfl rfl rfl rfl (.refl _) (.move rfl) ?_
        refine .m rfl rfl rfl rfl (.refl _) (.nilCheck rfl) ?_
        refine .m rfl rfl rfl rfl (.refl _) (.fieldAddr fo_31_2_B rfl) ?_
        refine .m rfl rfl rfl rfl (.refl _) (.load on_22_B rfl (by assumption)) ?_
        refine .m rfl rfl rfl rfl (.refl _) (.move rfl) ?_
        refine .m rfl rfl rfl rfl (.refl _) (.idxN sl_22_A (by assumption) rfl rfl (by omega)) ?_
        refine .m rfl rfl rfl rfl (.refl _) (.loadI on_2_A (by assumption) rfl (by omega)) ?_
        refine .m rfl rfl rfl rfl (.refl _) (.idx1 sl_23_B (Intss.sl (by assumption)) rfl rfl (by omega) (by omega)) ?_
        refine .m rfl rfl rfl rfl (.refl _) (.loadR on_22_B (by assumption) rfl (by omega)) ?_
        refine .call0 rfl rfl rfl rfl rfl @Try.call44 rfl (implThen_c) ?_
        rintro _ H104 ⟨le104, g104, rfl, at104, ge104⟩
        have nx_H104 := le104.1
        replace hle := hle.trans le104
        replace lst1 := lst1.le le104
        replace lst2 := lst2.le le104
        replace at71 := le104.2 _ _ at71
        have lt_at104 := GHeap.lt_of_get at104
        replace h := base_h.mono hle
        clear fs ft c10 c11 c12 i2 i3 i4 hm hi hms his hmt hit c0 c1 c2 c3 c4 d1 d2 d3 d4 x0 x1 x2 x3 x4 y1 y2 y3 y4
        obtain ⟨fs, ft, c10, c11, c12, i2, i3, i4⟩ := h.get
        have hm : MemN _ _ _ _ _ := ⟨rfl, h.1⟩
        have hi := h.2
        have hms : MemN _ _ _ _ _ := ⟨rfl, fs.1⟩
        have his := fs.2
        have hmt : MemN _ _ _ _ _ := ⟨rfl, ft.1⟩
        have hit := ft.2
        obtain ⟨c0, c1, c2, c3, c4, d1, d2, d3, d4⟩ := fs.get
        obtain ⟨x0, x1, x2, x3, x4, y1, y2, y3, y4⟩ := ft.get
        clear r1
        have r1 := i3.2 a (by omega)
        clear t1 w1 w2 w3 w4
        have t1 := i4.2 b (by omega)
        have w1 := r1.2 (m.t.src.getD b 0).toNat (by omega)
        have w2 := r1.2 (m.t.tgt.getD b 0).toNat (by omega)
        have w3 := t1.2 (m.s.src.getD a 0).toNat (by omega)
        have w4 := t1.2 (m.s.tgt.getD a 0).toNat (by omega)
        clear i71
        have i71 := Ints.of_get at71
        have i104 := Ints.of_get at104
        refine .m rfl rfl rfl rfl (.refl _) (.assign rfl) ?_
        refine .done ?_
        refine hK19 _ _ ?_
        refine .seq (fun K20 hK20 => ?_)
        refine .region ?_
        refine .m rfl rfl rfl (.move rfl) ?_
        refine .m rfl rfl rfl (.move rfl) ?_
        refine .callQ rfl rfl rfl rfl @Try.call45 rfl (same_c (hx := by rw [length_thenL]; omega) (hy := by rw [length_thenL]; omega)) ?_
        refine .m rfl rfl rfl (.not rfl) ?_
        refine .nil ?_
        refine hK20 _ _ ?_
        refine .cond rfl (fun h108 => ?_) (fun h108 => ?_)
        ·
         try simp only [sps] at h108
         refine .seq (fun K21 hK21 => ?_)
         refine .region ?_
         refine .m rfl rfl rfl (.assign rfl) ?_
         refine .nil ?_
         refine hK21 _ _ ?_
         refine .ret ?_
         -- leaf e3
         refine hret _ _ ?_
         refine ⟨_, rfl, ?_⟩
         first
         | exact ⟨congrArg _ (B_false fun hh => h12 hh.1), hle⟩
         | exact ⟨congrArg _ (B_true ⟨hS, h16, fun a ha b hb => ha1 a (by omega) b (by omega)⟩), hle⟩
         | exact ⟨congrArg _ (B_false fun hh => h16 hh.2.1), hle⟩
         | exact ⟨congrArg _ (B_false fun hh => h108 (hh.2.2 a (by omega) b (by omega))), hle⟩
         | exact ⟨congrArg _ (B_false fun hh => h16 hh.2.1), hle⟩
        ·
         try simp only [sps] at h108
         refine .skip ?_
         refine hK16 _ _ ?_
         refine .region ?_
         refine .m rfl rfl rfl (.add rfl rfl rfl (by omega) (by omega)) ?_
         refine .m rfl rfl rfl (.move rfl) ?_
         refine .nil ?_
         refine hKL2 (b + 1) _ _ ?_ ?_ ⟨rfl, rfl, rfl, rfl, rfl, rfl, rfl, rfl, trivial⟩
         ·
          refine ⟨lst2, ?_⟩
          refine ⟨by omega, fun b' hx => ?_⟩
          by_cases hltq : b' < b
          · exact ha2 b' hltq
          · obtain rfl : b' = b := by omega
            exact h108
         ·
          omega
       ·
        try simp only [sps] at h37
        refine .exit ?_
        refine hK11 _ _ ?_
        refine .region ?_
        refine .m rfl rfl rfl (.add rfl rfl rfl (by omega) (by omega)) ?_
        refine .m rfl rfl rfl (.move rfl) ?_
        refine .nil ?_
        refine hKL1 (a + 1) _ _ ?_ ?_ ⟨rfl, rfl, rfl, rfl, rfl, trivial⟩
        ·
         refine ⟨lst1, ?_⟩
         refine ⟨by omega, fun a' hx => ?_⟩
         by_cases hltq : a' < a
         · exact ha1 a' hltq
         · obtain rfl : a' = a := by omega
           exact fun b hb => ha2 b (by omega)
        ·
         omega
     ·
      try simp only [sps] at h29
      refine .exit ?_
      refine hK7 _ _ ?_
      refine .seq (fun K22 hK22 => ?_)
      refine .region ?_
      refine .m rfl rfl rfl (.assign rfl) ?_
      refine .nil ?_
      refine hK22 _ _ ?_
      refine .ret ?_
      -- leaf e4
      refine hret _ _ ?_
      refine ⟨_, rfl, ?_⟩
      first
      | exact ⟨congrArg _ (B_false fun hh => h12 hh.1), hle⟩
      | exact ⟨congrArg _ (B_true ⟨hS, h16, fun a ha b hb => ha1 a (by omega) b (by omega)⟩), hle⟩
      | exact ⟨congrArg _ (B_false fun hh => h16 hh.2.1), hle⟩
      | exact ⟨congrArg _ (B_false fun hh => h108 (hh.2.2 a (by omega) b (by omega))), hle⟩
      | exact ⟨congrArg _ (B_false fun hh => h16 hh.2.1), hle⟩
end Go.Proofs.Ytihkbggaaopebaa
