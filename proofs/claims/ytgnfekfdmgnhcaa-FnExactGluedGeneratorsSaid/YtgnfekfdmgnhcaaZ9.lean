/- Partitions: the reference's and the program's. No condition but those of each statement. -/
import Derived.Test.YtgnfekfdmgnhcaaZ8
namespace Go.Proofs.Ytgnfekfdmgnhcaa
open Go Go.GL Go.RowKit Go.Proofs
theorem l01Index_c {a : Option Addr} {xs : List Int} {n : Int} {H : GHeap} (h : Ints H a xs := by assumption) (hl : xs.length ≤ 16777216 := by omega) :
    GCalls Try.prog 143 [.slice a xs.length xs.length, .int .i64 n] H (Ret (.int .i64 (idxL xs n)) H) := by
  refine GCalls.body (N := 19) (rs := [.tmp 4]) Try.func143 rfl rfl rfl rfl (fun Qx hret hend => ?_)
  refine .forget (fr' := [(0, some _), (1, some _)]) ⟨rfl, rfl, trivial⟩ ?_
  refine .seq (fun K1 hK1 => ?_)
  refine .region (.m rfl rfl rfl (.assign rfl) (.nil ?_))
  refine hK1 _ _ ?_
  refine .seq (fun K2 hK2 => ?_)
  refine .seq (fun K3 hK3 => ?_)
  refine .region (.m rfl rfl rfl (.assign rfl) (.nil ?_))
  refine hK3 _ _ ?_
  refine .block ?_
  refine .loopR (σ := Nat) [(0, some _), (1, some _)] (fun k => [(5, some (.int .i64 (k : Int)))]) (fun k H' => H = H' ∧ (k : Int) ≤ xs.length ∧ ∀ i, i < k → ¬ xs.getD i 0 = n) (fun k => (xs.length - k : Int).toNat) (0) ⟨rfl, rfl, trivial⟩ ⟨rfl, trivial⟩ ?_ ?_
  ·
   refine ⟨rfl, ?_⟩
   exact ⟨by omega, fun _ _ => by omega⟩
  rintro k _ ⟨rfl, hI⟩ KL1 hKL1
  refine .forget (fr' := [(5, some (.int .i64 (k : Int))), (0, some _), (1, some _)]) ⟨rfl, rfl, rfl, trivial⟩ ?_
  obtain ⟨hk1, ha1⟩ := hI
  refine .seq (fun K4 hK4 => ?_)
  refine .seq (fun K5 hK5 => ?_)
  refine .region (.m rfl rfl rfl (.move rfl) (.m rfl rfl rfl (.move rfl) (.m rfl rfl rfl (.len sl_22_A rfl) ?_)))
  refine .m rfl rfl rfl (.cmp rfl rfl rfl) (.nil ?_)
  refine hK5 _ _ ?_
  refine .cond rfl (fun h9 => ?_) (fun h9 => ?_)
  ·
   try simp only [sps] at h9
   refine .skip ?_
   refine hK4 _ _ ?_
   refine .seq (fun K6 hK6 => ?_)
   refine .block ?_
   refine .seq (fun K7 hK7 => ?_)
   refine .region (.m rfl rfl rfl (.move rfl) (.m rfl rfl rfl (.move rfl) ?_))
   refine .m rfl rfl rfl (.idxN sl_22_A (by assumption) rfl rfl (by omega)) ?_
   refine .m rfl rfl rfl (.loadI on_2_A (by assumption) rfl (by omega)) ?_
   refine .m rfl rfl rfl (.move rfl) (.m rfl rfl rfl (.cmp rfl rfl rfl) (.nil ?_))
   refine hK7 _ _ ?_
   refine .cond rfl (fun h17 => ?_) (fun h17 => ?_)
   ·
    try simp only [sps] at h17
    refine .seq (fun K8 hK8 => ?_)
    refine .region (.m rfl rfl rfl (.move rfl) (.m rfl rfl rfl (.assign rfl) (.nil ?_)))
    refine hK8 _ _ ?_
    refine .ret ?_
    refine hret _ _ ?_
    refine ⟨_, rfl, ?_⟩
    exact .of (congrArg _ (idxL_some (by omega) h17 ha1))
   try simp only [sps] at h17
   refine .skip ?_
   refine hK6 _ _ ?_
   refine .region (.m rfl rfl rfl (.move rfl) ?_)
   refine .m rfl rfl rfl (.add rfl rfl rfl (by omega) (by omega)) ?_
   refine .m rfl rfl rfl (.assign rfl) (.nil ?_)
   refine hKL1 (k + 1) _ _ ?_ ?_ ⟨rfl, rfl, rfl, trivial⟩
   ·
    refine ⟨rfl, ?_⟩
    refine ⟨by omega, fun i hx => ?_⟩
    by_cases hltq : i < k
    · exact ha1 i hltq
    · obtain rfl : i = k := by omega
      exact h17
   omega
  try simp only [sps] at h9
  refine .exit ?_
  refine hK2 _ _ ?_
  refine .seq (fun K9 hK9 => ?_)
  refine .region (.m rfl rfl rfl (.assign rfl) (.nil ?_))
  refine hK9 _ _ ?_
  refine .ret ?_
  refine hret _ _ ?_
  refine ⟨_, rfl, ?_⟩
  exact .of (congrArg _ (idxL_none fun j hj => ha1 j (by omega)))
theorem l01Classes_c {a : Option Addr} {xs : List Int} {H : GHeap} (h : Ints H a xs := by assumption) (hl : xs.length ≤ 1048576 := by omega) :
    GCalls Try.prog 132 [.slice a xs.length xs.length] H (NewInts 2 H (clsL (kerB xs) xs.length)) := by
  refine GCalls.body (N := 37) (rs := [.tmp 2]) Try.func132 rfl rfl rfl rfl (fun Qx hret hend => ?_)
  refine .forget (fr' := [(0, some _)]) ⟨rfl, trivial⟩ ?_
  have hle := GHeap.Le.refl H
  have base_h := h
  refine .seq (fun K1 hK1 => ?_)
  refine .region (.m rfl rfl rfl (.assign rfl) (.nil ?_))
  refine hK1 _ _ ?_
  refine .seq (fun K2 hK2 => ?_)
  refine .region ?_
  refine .r rfl rfl rfl (.litR rfl sl_22_A ze_2_E rfl rfl (by omega) (by omega) rfl rfl) ?_
  rintro _ H7 ⟨g7, rfl, le7, ge7, at7⟩
  have nx_H7 := le7.1
  replace hle := hle.trans le7
  have lt_at7 := GHeap.lt_of_get at7
  replace h := base_h.mono hle
  replace at7 : GHeap.get H7 g7 = some (.row (ints []) 2 true) := at7
  refine .r rfl rfl rfl (.litR rfl sl_22_A ze_2_E rfl rfl (by omega) (by omega) rfl rfl) ?_
  rintro _ H8 ⟨g8, rfl, le8, ge8, at8⟩
  have nx_H8 := le8.1
  replace hle := hle.trans le8
  replace at7 := le8.2 _ _ at7
  have lt_at8 := GHeap.lt_of_get at8
  replace h := base_h.mono hle
  replace at8 : GHeap.get H8 g8 = some (.row (ints []) 2 true) := at8
  refine .m rfl rfl rfl (.assign rfl) (.m rfl rfl rfl (.assign rfl) (.nil ?_))
  refine hK2 _ _ ?_
  refine .seq (fun K3 hK3 => ?_)
  refine .seq (fun K4 hK4 => ?_)
  refine .region (.m rfl rfl rfl (.assign rfl) (.nil ?_))
  refine hK4 _ _ ?_
  refine .block ?_
  refine .loopR (σ := Nat × Nat × Nat × Nat × Nat) [(0, some _)] (fun (k, gL3, nL3, gL4, nL4) => [(5, some (.int .i64 (k : Int))), (3, some (.slice (some ⟨gL3, 0, none⟩) nL3 nL3)), (4, some (.slice (some ⟨gL4, 0, none⟩) nL4 nL4))]) (fun (k, gL3, nL3, gL4, nL4) H' => St [g7, g8] H8 H' ∧ H'.get gL3 = some (.row (ints (clsL (kerB xs) k)) 2 true) ∧ (gL3 = g7 ∨ H8.next ≤ gL3) ∧ nL3 = (clsL (kerB xs) k).length ∧ H'.get gL4 = some (.row (ints (seenL xs k)) 2 true) ∧ (gL4 = g8 ∨ H8.next ≤ gL4) ∧ nL4 = (seenL xs k).length ∧ gL3 ≠ gL4 ∧ k ≤ xs.length) (fun (k, gL3, nL3, gL4, nL4) => xs.length - k) ((0, _, _, _, _)) ⟨rfl, trivial⟩ ⟨rfl, rfl, rfl, trivial⟩ ?_ ?_
  ·
   refine ⟨.refl _ _, by first | assumption | exact at7 | simpa using at7, .inl rfl, by first | rfl | assumption | simp | omega, by first | assumption | exact at8 | simpa using at8, .inl rfl, by first | rfl | assumption | simp | omega, by omega, ?_⟩
   omega
  rintro ⟨k, gL3, nL3, gL4, nL4⟩ HL1 ⟨lst1, at_L3, pl_L3, ln_L3, at_L4, pl_L4, ln_L4, ap1_0, hI⟩ KL1 hKL1
  refine .forget (fr' := [(5, some (.int .i64 (k : Int))), (3, some (.slice (some ⟨gL3, 0, none⟩) nL3 nL3)), (4, some (.slice (some ⟨gL4, 0, none⟩) nL4 nL4)), (0, some _)]) ⟨rfl, rfl, rfl, rfl, trivial⟩ ?_
  have ge_L3 : H.next ≤ gL3 := by omega
  have ge_L4 : H.next ≤ gL4 := by omega
  have nx_HL1 := lst1.nx
  replace hle := hle.st lst1 (fun k hk => ⟨by omega, by omega, trivial⟩)
  have lt_at_L3 := GHeap.lt_of_get at_L3
  have lt_at_L4 := GHeap.lt_of_get at_L4
  replace h := base_h.mono hle
  have i4 := Ints.of_get at_L4
  have hl3 : (clsL (kerB xs) k).length = k := length_clsL _ _
  have hl4 : (seenL xs k).length ≤ k := by rw [length_seenL]; exact reps_le _ _
  obtain rfl := ln_L4
  have hix := idxL_lt (seenL xs k) (xs.getD k 0)
  refine .seq (fun K5 hK5 => ?_)
  refine .seq (fun K6 hK6 => ?_)
  refine .region (.m rfl rfl rfl (.move rfl) (.m rfl rfl rfl (.move rfl) (.m rfl rfl rfl (.len sl_22_A rfl) ?_)))
  refine .m rfl rfl rfl (.cmp rfl rfl rfl) (.nil ?_)
  refine hK6 _ _ ?_
  refine .cond rfl (fun h12 => ?_) (fun h12 => ?_)
  ·
   try simp only [sps] at h12
   refine .skip ?_
   refine hK5 _ _ ?_
   refine .seq (fun K7 hK7 => ?_)
   refine .block ?_
   refine .seq (fun K8 hK8 => ?_)
   refine .region (.m rfl rfl rfl (.move rfl) (.m rfl rfl rfl (.move rfl) (.m rfl rfl rfl (.move rfl) ?_)))
   refine .m rfl rfl rfl (.idxN sl_22_A (by assumption) rfl rfl (by omega)) ?_
   refine .m rfl rfl rfl (.loadI on_2_A (by assumption) rfl (by omega)) ?_
   refine .callQ rfl rfl rfl rfl @Try.call143 rfl (l01Index_c) ?_
   refine .m rfl rfl rfl (.assign rfl) (.nil ?_)
   refine hK8 _ _ ?_
   refine .seq (fun K9 hK9 => ?_)
   refine .seq (fun K10 hK10 => ?_)
   refine .region (.m rfl rfl rfl (.move rfl) (.m rfl rfl rfl (.cmp rfl rfl rfl) (.nil ?_)))
   refine hK10 _ _ ?_
   refine .cond rfl (fun h22 => ?_) (fun h22 => ?_)
   ·
    try simp only [sps] at h22
    refine .seq (fun K11 hK11 => ?_)
    refine .region (.m rfl rfl rfl (.move rfl) (.m rfl rfl rfl (.len sl_22_A rfl) (.m rfl rfl rfl (.assign rfl) ?_)))
    refine .nil ?_
    refine hK11 _ _ ?_
    refine .region (.m rfl rfl rfl (.move rfl) (.m rfl rfl rfl (.move rfl) (.m rfl rfl rfl (.move rfl) ?_)))
    refine .m rfl rfl rfl (.idxN sl_22_A (by assumption) rfl rfl (by omega)) ?_
    refine .m rfl rfl rfl (.loadI on_2_A (by assumption) rfl (by omega)) ?_
    refine .r rfl rfl rfl (.litR rfl sl_22_A ze_2_E rfl rfl (by omega) (by omega) rfl rfl) ?_
    rintro _ H30 ⟨g30, rfl, le30, ge30, at30⟩
    have nx_H30 := le30.1
    replace hle := hle.trans le30
    replace lst1 := lst1.le le30
    replace at_L3 := le30.2 _ _ at_L3
    replace at_L4 := le30.2 _ _ at_L4
    have lt_at30 := GHeap.lt_of_get at30
    replace h := base_h.mono hle
    refine .r rfl rfl rfl (.appendI rfl sl_22_A ze_2_E rfl by_2_E sl_22_A rfl rfl (by assumption) (by assumption) (by first | omega | (simp <;> omega)) (by omega) (by omega)) ?_
    rintro _ H31 ⟨g31, rfl, st31, ge31, at31⟩
    have nx_H31 := st31.nx
    replace hle := hle.st st31 (fun k hk => ⟨by omega, trivial⟩)
    replace lst1 := lst1.st st31 (fun k hk ho => by simp only [out, and_true] at ho ⊢ <;> first | exact ho | exact ho.1 | exact ho.2 | exact ho.2.1 | exact ho.2.2 | exact ho.2.2.1 | exact ho.2.2.2 | omega)
    replace at_L3 := st31.same _ _ ⟨ap1_0, trivial⟩ at_L3
    have ne_g30_gL4 : g30 ≠ gL4 := by omega
    replace at30 := st31.same _ _ ⟨ne_g30_gL4, trivial⟩ at30
    have lt_at31 := GHeap.lt_of_get at31
    replace h := base_h.mono hle
    refine .m rfl rfl rfl (.assign rfl) (.nil ?_)
    refine hK9 _ _ ?_
    refine .region (.m rfl rfl rfl (.move rfl) (.m rfl rfl rfl (.move rfl) ?_))
    refine .r rfl rfl rfl (.litR rfl sl_22_A ze_2_E rfl rfl (by omega) (by omega) rfl rfl) ?_
    rintro _ H34 ⟨g34, rfl, le34, ge34, at34⟩
    have nx_H34 := le34.1
    replace hle := hle.trans le34
    replace lst1 := lst1.le le34
    replace at_L3 := le34.2 _ _ at_L3
    replace at30 := le34.2 _ _ at30
    replace at31 := le34.2 _ _ at31
    have lt_at34 := GHeap.lt_of_get at34
    replace h := base_h.mono hle
    refine .r rfl rfl rfl (.appendI rfl sl_22_A ze_2_E rfl by_2_E sl_22_A rfl rfl (by assumption) (by assumption) (by first | omega | (simp <;> omega)) (by omega) (by omega)) ?_
    rintro _ H35 ⟨g35, rfl, st35, ge35, at35⟩
    have nx_H35 := st35.nx
    replace hle := hle.st st35 (fun k hk => ⟨by omega, trivial⟩)
    replace lst1 := lst1.st st35 (fun k hk ho => by simp only [out, and_true] at ho ⊢ <;> first | exact ho | exact ho.1 | exact ho.2 | exact ho.2.1 | exact ho.2.2 | exact ho.2.2.1 | exact ho.2.2.2 | omega)
    have ne_g30_gL3 : g30 ≠ gL3 := by omega
    replace at30 := st35.same _ _ ⟨ne_g30_gL3, trivial⟩ at30
    have ne_g31_gL3 : g31 ≠ gL3 := by omega
    replace at31 := st35.same _ _ ⟨ne_g31_gL3, trivial⟩ at31
    have ne_g34_gL3 : g34 ≠ gL3 := by omega
    replace at34 := st35.same _ _ ⟨ne_g34_gL3, trivial⟩ at34
    have lt_at35 := GHeap.lt_of_get at35
    replace h := base_h.mono hle
    refine .m rfl rfl rfl (.assign rfl) (.nil ?_)
    refine hK7 _ _ ?_
    refine .region (.m rfl rfl rfl (.move rfl) ?_)
    refine .m rfl rfl rfl (.add rfl rfl rfl (by omega) (by omega)) ?_
    refine .m rfl rfl rfl (.assign rfl) (.nil ?_)
    refine hKL1 ((k + 1, _, _, _, _)) _ _ ?_ ?_ ⟨rfl, rfl, rfl, rfl, trivial⟩
    ·
     refine ⟨lst1, by first | assumption | (rw [(cls_new h22).1]; assumption) | (rw [(cls_new h22).2]; assumption) | (rw [(cls_old h22).1]; assumption) | (rw [(cls_old h22).2]; assumption), by omega, by first | omega | (simp only [List.length_append, List.length_cons, List.length_nil] <;> omega) | (rw [(cls_new h22).1] <;> (first | omega | (simp only [List.length_append, List.length_cons, List.length_nil] <;> omega))) | (rw [(cls_new h22).2] <;> (first | omega | (simp only [List.length_append, List.length_cons, List.length_nil] <;> omega))) | (rw [(cls_old h22).1] <;> (first | omega | (simp only [List.length_append, List.length_cons, List.length_nil] <;> omega))) | (rw [(cls_old h22).2] <;> (first | omega | (simp only [List.length_append, List.length_cons, List.length_nil] <;> omega))), by first | assumption | (rw [(cls_new h22).1]; assumption) | (rw [(cls_new h22).2]; assumption) | (rw [(cls_old h22).1]; assumption) | (rw [(cls_old h22).2]; assumption), by omega, by first | omega | (simp only [List.length_append, List.length_cons, List.length_nil] <;> omega) | (rw [(cls_new h22).1] <;> (first | omega | (simp only [List.length_append, List.length_cons, List.length_nil] <;> omega))) | (rw [(cls_new h22).2] <;> (first | omega | (simp only [List.length_append, List.length_cons, List.length_nil] <;> omega))) | (rw [(cls_old h22).1] <;> (first | omega | (simp only [List.length_append, List.length_cons, List.length_nil] <;> omega))) | (rw [(cls_old h22).2] <;> (first | omega | (simp only [List.length_append, List.length_cons, List.length_nil] <;> omega))), by omega, ?_⟩
     omega
    (dsimp only; omega)
   try simp only [sps] at h22
   refine .skip ?_
   refine hK9 _ _ ?_
   refine .region (.m rfl rfl rfl (.move rfl) (.m rfl rfl rfl (.move rfl) ?_))
   refine .r rfl rfl rfl (.litR rfl sl_22_A ze_2_E rfl rfl (by omega) (by omega) rfl rfl) ?_
   rintro _ H34x2 ⟨g34x2, rfl, le34x2, ge34x2, at34x2⟩
   have nx_H34x2 := le34x2.1
   replace hle := hle.trans le34x2
   replace lst1 := lst1.le le34x2
   replace at_L3 := le34x2.2 _ _ at_L3
   replace at_L4 := le34x2.2 _ _ at_L4
   have lt_at34x2 := GHeap.lt_of_get at34x2
   replace h := base_h.mono hle
   refine .r rfl rfl rfl (.appendI rfl sl_22_A ze_2_E rfl by_2_E sl_22_A rfl rfl (by assumption) (by assumption) (by first | omega | (simp <;> omega)) (by omega) (by omega)) ?_
   rintro _ H35x2 ⟨g35x2, rfl, st35x2, ge35x2, at35x2⟩
   have nx_H35x2 := st35x2.nx
   replace hle := hle.st st35x2 (fun k hk => ⟨by omega, trivial⟩)
   replace lst1 := lst1.st st35x2 (fun k hk ho => by simp only [out, and_true] at ho ⊢ <;> first | exact ho | exact ho.1 | exact ho.2 | exact ho.2.1 | exact ho.2.2 | exact ho.2.2.1 | exact ho.2.2.2 | omega)
   replace at_L4 := st35x2.same _ _ ⟨(Ne.symm ap1_0), trivial⟩ at_L4
   have ne_g34x2_gL3 : g34x2 ≠ gL3 := by omega
   replace at34x2 := st35x2.same _ _ ⟨ne_g34x2_gL3, trivial⟩ at34x2
   have lt_at35x2 := GHeap.lt_of_get at35x2
   replace h := base_h.mono hle
   refine .m rfl rfl rfl (.assign rfl) (.nil ?_)
   refine hK7 _ _ ?_
   refine .region (.m rfl rfl rfl (.move rfl) ?_)
   refine .m rfl rfl rfl (.add rfl rfl rfl (by omega) (by omega)) ?_
   refine .m rfl rfl rfl (.assign rfl) (.nil ?_)
   refine hKL1 ((k + 1, _, _, _, _)) _ _ ?_ ?_ ⟨rfl, rfl, rfl, rfl, trivial⟩
   ·
    refine ⟨lst1, by first | assumption | (rw [(cls_new h22).1]; assumption) | (rw [(cls_new h22).2]; assumption) | (rw [(cls_old h22).1]; assumption) | (rw [(cls_old h22).2]; assumption), by omega, by first | omega | (simp only [List.length_append, List.length_cons, List.length_nil] <;> omega) | (rw [(cls_new h22).1] <;> (first | omega | (simp only [List.length_append, List.length_cons, List.length_nil] <;> omega))) | (rw [(cls_new h22).2] <;> (first | omega | (simp only [List.length_append, List.length_cons, List.length_nil] <;> omega))) | (rw [(cls_old h22).1] <;> (first | omega | (simp only [List.length_append, List.length_cons, List.length_nil] <;> omega))) | (rw [(cls_old h22).2] <;> (first | omega | (simp only [List.length_append, List.length_cons, List.length_nil] <;> omega))), by first | assumption | (rw [(cls_new h22).1]; assumption) | (rw [(cls_new h22).2]; assumption) | (rw [(cls_old h22).1]; assumption) | (rw [(cls_old h22).2]; assumption), by omega, by first | omega | (simp only [List.length_append, List.length_cons, List.length_nil] <;> omega) | (rw [(cls_new h22).1] <;> (first | omega | (simp only [List.length_append, List.length_cons, List.length_nil] <;> omega))) | (rw [(cls_new h22).2] <;> (first | omega | (simp only [List.length_append, List.length_cons, List.length_nil] <;> omega))) | (rw [(cls_old h22).1] <;> (first | omega | (simp only [List.length_append, List.length_cons, List.length_nil] <;> omega))) | (rw [(cls_old h22).2] <;> (first | omega | (simp only [List.length_append, List.length_cons, List.length_nil] <;> omega))), by omega, ?_⟩
    omega
   (dsimp only; omega)
  try simp only [sps] at h12
  refine .exit ?_
  refine hK3 _ _ ?_
  refine .seq (fun K12 hK12 => ?_)
  refine .region (.m rfl rfl rfl (.move rfl) (.m rfl rfl rfl (.assign rfl) (.nil ?_)))
  refine hK12 _ _ ?_
  refine .ret ?_
  refine hret _ _ ?_
  refine ⟨_, rfl, ?_⟩
  obtain rfl : k = xs.length := by omega
  exact ⟨hle, _, by rw [ln_L3], at_L3, by omega⟩
theorem l01ClassesN_c {a : Option Addr} {n : Nat} {xs : List Int} {H : GHeap} (hn : xs.length = n) (h : Ints H a xs := by assumption) (hl : n ≤ 1048576 := by omega) :
    GCalls Try.prog 132 [.slice a n n] H (NewInts 2 H (clsL (kerB xs) n)) := by
  subst hn
  exact l01Classes_c h hl
set_option maxHeartbeats 4000000 in
theorem l01Join_c {a : Option Addr} {n : Nat} {pss : List (List Int)} {r : Nat → Option Addr} {H : GHeap} (h : Intss H a pss r := by assumption) (hn : n ≤ 1048576 := by omega) (hl : pss.length ≤ 1048576 := by omega)
    (hp : ∀ i, i < pss.length → 2 ≤ (pss.getD i []).length ∧ 0 ≤ (pss.getD i []).getD 0 0 ∧ (pss.getD i []).getD 0 0 < n ∧ 0 ≤ (pss.getD i []).getD 1 0 ∧ (pss.getD i []).getD 1 0 < n) :
    GCalls Try.prog 89 [.int .i64 (n : Int), .slice a pss.length pss.length] H (NewInts 2 H (joinL n (pss.map fun p => (pA p, pB p)))) := by
  refine GCalls.body (N := 68) (rs := [.tmp 4]) Try.func89 rfl rfl rfl rfl (fun Qx hret hend => ?_)
  refine .forget (fr' := [(0, some _), (1, some _)]) ⟨rfl, rfl, trivial⟩ ?_
  have hle := GHeap.Le.refl H
  have base_h := h
  refine .seq (fun K1 hK1 => ?_)
  refine .region (.m rfl rfl rfl (.assign rfl) (.nil ?_))
  refine hK1 _ _ ?_
  refine .seq (fun K2 hK2 => ?_)
  refine .region ?_
  refine .r rfl rfl rfl (.litR rfl sl_22_A ze_2_E rfl rfl (by omega) (by omega) rfl rfl) ?_
  rintro _ H11 ⟨g11, rfl, le11, ge11, at11⟩
  have nx_H11 := le11.1
  replace hle := hle.trans le11
  have lt_at11 := GHeap.lt_of_get at11
  replace h := base_h.mono hle
  replace at11 : GHeap.get H11 g11 = some (.row (ints []) 2 true) := at11
  refine .m rfl rfl rfl (.assign rfl) (.nil ?_)
  refine hK2 _ _ ?_
  refine .seq (fun K3 hK3 => ?_)
  refine .seq (fun K4 hK4 => ?_)
  refine .region (.m rfl rfl rfl (.assign rfl) (.nil ?_))
  refine hK4 _ _ ?_
  refine .block ?_
  refine .loopR (σ := Nat × Nat × Nat) [(0, some _), (1, some _)] (fun (k, gL5, nL5) => [(6, some (.int .i64 (k : Int))), (5, some (.slice (some ⟨gL5, 0, none⟩) nL5 nL5))]) (fun (k, gL5, nL5) H' => St [g11] H11 H' ∧ H'.get gL5 = some (.row (ints (numsL k)) 2 true) ∧ (gL5 = g11 ∨ H11.next ≤ gL5) ∧ nL5 = (numsL k).length ∧ k ≤ n) (fun (k, gL5, nL5) => n - k) ((0, _, _)) ⟨rfl, rfl, trivial⟩ ⟨rfl, rfl, trivial⟩ ?_ ?_
  ·
   refine ⟨.refl _ _, by first | assumption | exact at11 | simpa using at11, .inl rfl, by first | rfl | assumption | simp | omega, ?_⟩
   omega
  rintro ⟨k, gL5, nL5⟩ HL1 ⟨lst1, at_L5, pl_L5, ln_L5, hI⟩ KL1 hKL1
  refine .forget (fr' := [(6, some (.int .i64 (k : Int))), (5, some (.slice (some ⟨gL5, 0, none⟩) nL5 nL5)), (0, some _), (1, some _)]) ⟨rfl, rfl, rfl, rfl, trivial⟩ ?_
  have ge_L5 : H.next ≤ gL5 := by omega
  have nx_HL1 := lst1.nx
  replace hle := hle.st lst1 (fun k hk => ⟨by omega, trivial⟩)
  have lt_at_L5 := GHeap.lt_of_get at_L5
  replace h := base_h.mono hle
  have hl5 : (numsL k).length = k := length_numsL _
  refine .seq (fun K5 hK5 => ?_)
  refine .seq (fun K6 hK6 => ?_)
  refine .region (.m rfl rfl rfl (.move rfl) (.m rfl rfl rfl (.move rfl) (.m rfl rfl rfl (.cmp rfl rfl rfl) ?_)))
  refine .nil ?_
  refine hK6 _ _ ?_
  refine .cond rfl (fun h14 => ?_) (fun h14 => ?_)
  ·
   try simp only [sps] at h14
   refine .skip ?_
   refine hK5 _ _ ?_
   refine .seq (fun K7 hK7 => ?_)
   refine .block ?_
   refine .region (.m rfl rfl rfl (.move rfl) (.m rfl rfl rfl (.move rfl) ?_))
   refine .r rfl rfl rfl (.litR rfl sl_22_A ze_2_E rfl rfl (by omega) (by omega) rfl rfl) ?_
   rintro _ H19 ⟨g19, rfl, le19, ge19, at19⟩
   have nx_H19 := le19.1
   replace hle := hle.trans le19
   replace lst1 := lst1.le le19
   replace at_L5 := le19.2 _ _ at_L5
   have lt_at19 := GHeap.lt_of_get at19
   replace h := base_h.mono hle
   refine .r rfl rfl rfl (.appendI rfl sl_22_A ze_2_E rfl by_2_E sl_22_A rfl rfl (by assumption) (by assumption) (by first | omega | (simp <;> omega)) (by omega) (by omega)) ?_
   rintro _ H20 ⟨g20, rfl, st20, ge20, at20⟩
   have nx_H20 := st20.nx
   replace hle := hle.st st20 (fun k hk => ⟨by omega, trivial⟩)
   replace lst1 := lst1.st st20 (fun k hk ho => by simp only [out, and_true] at ho ⊢ <;> first | exact ho | exact ho.1 | exact ho.2 | exact ho.2.1 | exact ho.2.2 | exact ho.2.2.1 | exact ho.2.2.2 | omega)
   have ne_g19_gL5 : g19 ≠ gL5 := by omega
   replace at19 := st20.same _ _ ⟨ne_g19_gL5, trivial⟩ at19
   have lt_at20 := GHeap.lt_of_get at20
   replace h := base_h.mono hle
   refine .m rfl rfl rfl (.assign rfl) (.nil ?_)
   refine hK7 _ _ ?_
   refine .region (.m rfl rfl rfl (.move rfl) ?_)
   refine .m rfl rfl rfl (.add rfl rfl rfl (by omega) (by omega)) ?_
   refine .m rfl rfl rfl (.assign rfl) (.nil ?_)
   refine hKL1 ((k + 1, _, _)) _ _ ?_ ?_ ⟨rfl, rfl, rfl, rfl, trivial⟩
   ·
    refine ⟨lst1, by first | assumption | (rw [numsL_succ k]; assumption), by omega, by first | omega | (simp only [List.length_append, List.length_cons, List.length_nil] <;> omega) | (rw [numsL_succ k] <;> (first | omega | (simp only [List.length_append, List.length_cons, List.length_nil] <;> omega))), ?_⟩
    omega
   (dsimp only; omega)
  try simp only [sps] at h14
  refine .exit ?_
  refine hK3 _ _ ?_
  refine .seq (fun K8 hK8 => ?_)
  refine .seq (fun K9 hK9 => ?_)
  refine .region (.m rfl rfl rfl (.assign rfl) (.nil ?_))
  refine hK9 _ _ ?_
  refine .block ?_
  obtain rfl : k = n := by omega
  rw [length_numsL] at ln_L5
  obtain rfl := ln_L5.symm
  refine .loopR (σ := Nat × List Int) [(1, some _), (5, some _)] (fun (j, lab) => [(7, some (.int .i64 (j : Int)))]) (fun (j, lab) H' => St [gL5] HL1 H' ∧ H'.get gL5 = some (.row (ints lab) 2 true) ∧ j ≤ pss.length ∧ lab.length = k ∧ Ker lab (joinK (pairL pss j)) k) (fun (j, lab) => pss.length - j) ((0, numsL k)) ⟨rfl, rfl, trivial⟩ ⟨rfl, trivial⟩ ?_ ?_
  ·
   refine ⟨.refl _ _, by first | assumption | exact at_L5 | simpa using at_L5, ?_⟩
   exact ⟨by omega, length_numsL _, by rw [pairL_zero]; exact Ker.start fun i hi => numsL_get (by omega)⟩
  rintro ⟨j, lab⟩ HL2 ⟨lst2, at_L5, hI⟩ KL2 hKL2
  refine .forget (fr' := [(7, some (.int .i64 (j : Int))), (1, some _), (5, some _)]) ⟨rfl, rfl, rfl, trivial⟩ ?_
  have nx_HL2 := lst2.nx
  replace hle := hle.st lst2 (fun k hk => ⟨by omega, trivial⟩)
  replace lst1 := lst1.st lst2 (fun k hk ho => by simp only [out, and_true] at ho ⊢ <;> first | exact ho | exact ho.1 | exact ho.2 | exact ho.2.1 | exact ho.2.2 | exact ho.2.2.1 | exact ho.2.2.2 | omega)
  have lt_at_L5 := GHeap.lt_of_get at_L5
  replace h := base_h.mono hle
  obtain ⟨hj, hlab, hK⟩ := hI
  have i5 := Ints.of_get at_L5
  have i5s : SlA HL2 _ _ _ := i5
  rw [hlab] at i5s
  refine .seq (fun K10 hK10 => ?_)
  refine .seq (fun K11 hK11 => ?_)
  refine .region (.m rfl rfl rfl (.move rfl) (.m rfl rfl rfl (.move rfl) (.m rfl rfl rfl (.len sl_23_B rfl) ?_)))
  refine .m rfl rfl rfl (.cmp rfl rfl rfl) (.nil ?_)
  refine hK11 _ _ ?_
  refine .cond rfl (fun h24 => ?_) (fun h24 => ?_)
  ·
   simp only [sps] at h24
   have q1 := hp j (by omega)
   have q2 := h.2 j (by omega)
   have q3 : pA (pss.getD j []) < k := by unfold pA; omega
   have q4 : pB (pss.getD j []) < k := by unfold pB; omega
   have q2 := h.2 j (by omega)
   refine .skip ?_
   refine hK10 _ _ ?_
   refine .seq (fun K12 hK12 => ?_)
   refine .block ?_
   refine .seq (fun K13 hK13 => ?_)
   refine .regionD mixed_orders_B (.q 0 (.q 1 (.q 2 (.q 3 (.q 4 (.q 5 (.q 6 (.q 7 (.q 8 (.q 9 (.q 10 (.q 11 (.q 12 (.q 13 (.q 14 (.q 15 (.q 16 (.q 17 (.q 18 (.q 19 (.done))))))))))))))))))))) (by kernel_rfl) ?_
   refine .m rfl rfl rfl rfl (.refl _) (.move rfl) (.m rfl rfl rfl rfl (.refl _) (.move rfl) (.m rfl rfl rfl rfl (.refl _) (.move rfl) ?_))
   refine .m rfl rfl rfl rfl (.refl _) (.idxN sl_23_B (Intss.sl (by assumption)) rfl rfl (by omega)) ?_
   refine .m rfl rfl rfl rfl (.refl _) (.loadR on_22_B (by assumption) rfl (by omega)) ?_
   refine .m rfl rfl rfl rfl (.refl _) (.idxN (j := 0) sl_22_A (by assumption) rfl rfl (by omega)) ?_
   refine .m rfl rfl rfl rfl (.refl _) (.loadI on_2_A (by assumption) rfl (by omega)) ?_
   refine .m rfl rfl rfl rfl (.refl _) (.idx1 sl_22_A (by first | assumption | exact SlA.of_row at_L5 (by first | rfl | (simp; done) | (simp <;> omega))) rfl rfl (by omega) (by omega)) ?_
   refine .m rfl rfl rfl rfl (.refl _) (.loadI on_2_A (by first | assumption | exact Ints.of_get at_L5) rfl (by omega)) ?_
   refine .m rfl rfl rfl rfl (.refl _) (.move rfl) (.m rfl rfl rfl rfl (.refl _) (.move rfl) (.m rfl rfl rfl rfl (.refl _) (.move rfl) ?_))
   refine .m rfl rfl rfl rfl (.refl _) (.idxN sl_23_B (Intss.sl (by assumption)) rfl rfl (by omega)) ?_
   refine .m rfl rfl rfl rfl (.refl _) (.loadR on_22_B (by assumption) rfl (by omega)) ?_
   refine .m rfl rfl rfl rfl (.refl _) (.idxN (j := 1) sl_22_A (by assumption) rfl rfl (by omega)) ?_
   refine .m rfl rfl rfl rfl (.refl _) (.loadI on_2_A (by assumption) rfl (by omega)) ?_
   refine .m rfl rfl rfl rfl (.refl _) (.idx1 sl_22_A (by first | assumption | exact SlA.of_row at_L5 (by first | rfl | (simp; done) | (simp <;> omega))) rfl rfl (by omega) (by omega)) ?_
   refine .m rfl rfl rfl rfl (.refl _) (.loadI on_2_A (by first | assumption | exact Ints.of_get at_L5) rfl (by omega)) ?_
   refine .m rfl rfl rfl rfl (.refl _) (.assign rfl) (.m rfl rfl rfl rfl (.refl _) (.assign rfl) ?_)
   refine .done ?_
   refine hK13 _ _ ?_
   refine .seq (fun K14 hK14 => ?_)
   refine .region (.m rfl rfl rfl (.assign rfl) (.nil ?_))
   refine hK14 _ _ ?_
   refine .block ?_
   refine .loopR (σ := Nat) [(1, some _), (5, some _), (7, some _), (8, some _), (9, some _)] (fun e => [(10, some (.int .i64 (e : Int)))]) (fun e H' => St [gL5] HL2 H' ∧ H'.get gL5 = some (.row (ints (relab lab (lab.getD (pA (pss.getD j [])) 0) (lab.getD (pB (pss.getD j [])) 0) e)) 2 true) ∧ e ≤ lab.length) (fun e => lab.length - e) (0) ⟨rfl, rfl, rfl, rfl, rfl, trivial⟩ ⟨rfl, trivial⟩ ?_ ?_
   ·
    refine ⟨.refl _ _, by rw [relab_zero]; assumption, ?_⟩
    omega
   rintro e HL3 ⟨lst3, at_L5, hI⟩ KL3 hKL3
   refine .forget (fr' := [(10, some (.int .i64 (e : Int))), (1, some _), (5, some _), (7, some _), (8, some _), (9, some _)]) ⟨rfl, rfl, rfl, rfl, rfl, rfl, trivial⟩ ?_
   have nx_HL3 := lst3.nx
   replace hle := hle.st lst3 (fun k hk => ⟨by omega, trivial⟩)
   replace lst1 := lst1.st lst3 (fun k hk ho => by simp only [out, and_true] at ho ⊢ <;> first | exact ho | exact ho.1 | exact ho.2 | exact ho.2.1 | exact ho.2.2 | exact ho.2.2.1 | exact ho.2.2.2 | omega)
   replace lst2 := lst2.st lst3 (fun k hk ho => by simp only [out, and_true] at ho ⊢ <;> first | exact ho | exact ho.1 | exact ho.2 | exact ho.2.1 | exact ho.2.2 | exact ho.2.2.1 | exact ho.2.2.2 | omega)
   have lt_at_L5 := GHeap.lt_of_get at_L5
   replace h := base_h.mono hle
   clear q2
   have q2 := h.2 j (by omega)
   have i5 := Ints.of_get at_L5
   have hlr := length_relab lab (lab.getD (pA (pss.getD j [])) 0) (lab.getD (pB (pss.getD j [])) 0) e
   have i5s : SlA HL3 _ _ _ := i5
   rw [hlr, hlab] at i5s
   refine .seq (fun K15 hK15 => ?_)
   refine .seq (fun K16 hK16 => ?_)
   refine .region (.m rfl rfl rfl (.move rfl) (.m rfl rfl rfl (.move rfl) (.m rfl rfl rfl (.len sl_22_A rfl) ?_)))
   refine .m rfl rfl rfl (.cmp rfl rfl rfl) (.m rfl rfl rfl (.move rfl) ?_)
   refine .split (fun h49 => ?_) (fun h49 => ?_)
   ·
    try simp only [sps] at h49
    refine .mg rfl rfl rfl rfl rfl (.move rfl) (.mg rfl rfl rfl rfl rfl (.move rfl) (.mg rfl rfl rfl rfl rfl (.cmp rfl rfl rfl) (.m rfl rfl rfl (.pickT rfl rfl) ?_)))
    refine .nil ?_
    refine hK16 _ _ ?_
    refine .cond rfl (fun h53 => ?_) (fun h53 => ?_)
    ·
     try simp only [sps] at h53
     refine .skip ?_
     refine hK15 _ _ ?_
     refine .seq (fun K17 hK17 => ?_)
     refine .block ?_
     refine .seq (fun K18 hK18 => ?_)
     refine .region (.m rfl rfl rfl (.move rfl) (.m rfl rfl rfl (.move rfl) ?_))
     refine .m rfl rfl rfl (.idxN sl_22_A (by first | assumption | exact SlA.of_row at_L5 (by first | rfl | (simp; done) | (simp <;> omega))) rfl rfl (by omega)) ?_
     refine .m rfl rfl rfl (.loadI on_2_A (by first | assumption | exact Ints.of_get at_L5) rfl (by omega)) ?_
     refine .m rfl rfl rfl (.move rfl) (.m rfl rfl rfl (.cmp rfl rfl rfl) (.nil ?_))
     refine hK18 _ _ ?_
     refine .cond rfl (fun h61 => ?_) (fun h61 => ?_)
     ·
      simp only [sps] at h61
      rw [relab_getD (by omega), if_neg (by omega)] at h61
      refine .region (.m rfl rfl rfl (.move rfl) (.m rfl rfl rfl (.move rfl) (.m rfl rfl rfl (.move rfl) ?_)))
      refine .m rfl rfl rfl (.idxN sl_22_A (by first | assumption | exact SlA.of_row at_L5 (by first | rfl | (simp; done) | (simp <;> omega))) rfl rfl (by omega)) ?_
      refine .r0 rfl rfl (.storeI rfl sz_2_E rfl rfl (by assumption) (by first | omega | (simp <;> omega))) ?_
      rintro _ H14004 ⟨rfl, st14004, at14004⟩
      have nx_H14004 := st14004.nx
      replace hle := hle.st st14004 (fun k hk => ⟨by omega, trivial⟩)
      replace lst1 := lst1.st st14004 (fun k hk ho => by simp only [out, and_true] at ho ⊢ <;> first | exact ho | exact ho.1 | exact ho.2 | exact ho.2.1 | exact ho.2.2 | exact ho.2.2.1 | exact ho.2.2.2 | omega)
      replace lst2 := lst2.st st14004 (fun k hk ho => by simp only [out, and_true] at ho ⊢ <;> first | exact ho | exact ho.1 | exact ho.2 | exact ho.2.1 | exact ho.2.2 | exact ho.2.2.1 | exact ho.2.2.2 | omega)
      replace lst3 := lst3.st st14004 (fun k hk ho => by simp only [out, and_true] at ho ⊢ <;> first | exact ho | exact ho.1 | exact ho.2 | exact ho.2.1 | exact ho.2.2 | exact ho.2.2.1 | exact ho.2.2.2 | omega)
      have lt_at14004 := GHeap.lt_of_get at14004
      replace h := base_h.mono hle
      clear q2
      have q2 := h.2 j (by omega)
      refine .nil ?_
      refine hK17 _ _ ?_
      refine .region (.m rfl rfl rfl (.move rfl) ?_)
      refine .m rfl rfl rfl (.add rfl rfl rfl (by omega) (by omega)) ?_
      refine .m rfl rfl rfl (.assign rfl) (.nil ?_)
      refine hKL3 (e + 1) _ _ ?_ ?_ ⟨rfl, rfl, rfl, rfl, rfl, rfl, trivial⟩
      ·
       refine ⟨lst3, by first | (rw [relab_T (b := lab.getD (pB (pss.getD j [])) 0) (by omega) h61]; have e9 := at14004; rw [Nat.zero_add] at e9; exact e9) | (rw [relab_F (b := lab.getD (pB (pss.getD j [])) 0) (by omega) h61]; assumption), ?_⟩
       omega
      omega
     simp only [sps] at h61
     rw [relab_getD (by omega), if_neg (by omega)] at h61
     refine .skip ?_
     refine hK17 _ _ ?_
     refine .region (.m rfl rfl rfl (.move rfl) ?_)
     refine .m rfl rfl rfl (.add rfl rfl rfl (by omega) (by omega)) ?_
     refine .m rfl rfl rfl (.assign rfl) (.nil ?_)
     refine hKL3 (e + 1) _ _ ?_ ?_ ⟨rfl, rfl, rfl, rfl, rfl, rfl, trivial⟩
     ·
      refine ⟨lst3, by first | (rw [relab_T (b := lab.getD (pB (pss.getD j [])) 0) (by omega) h61]; have e9 := at14004; rw [Nat.zero_add] at e9; exact e9) | (rw [relab_F (b := lab.getD (pB (pss.getD j [])) 0) (by omega) h61]; assumption), ?_⟩
      omega
     omega
    simp only [sps] at h53
    refine .exit ?_
    refine hK12 _ _ ?_
    refine .region (.m rfl rfl rfl (.move rfl) ?_)
    refine .m rfl rfl rfl (.add rfl rfl rfl (by omega) (by omega)) ?_
    refine .m rfl rfl rfl (.assign rfl) (.nil ?_)
    refine hKL2 ((j + 1, relab lab (lab.getD (pA (pss.getD j [])) 0) (lab.getD (pB (pss.getD j [])) 0) e)) _ _ ?_ ?_ ⟨rfl, rfl, rfl, trivial⟩
    ·
     refine ⟨lst2, by assumption, ?_⟩
     exact ⟨by omega, by rw [length_relab]; omega, by rw [pairL_succ (by omega), joinK_snoc]; exact hK.relab hlab (by omega) (by omega) (by first | exact .inl (by omega) | exact .inr h53)⟩
    (dsimp only; omega)
   simp only [sps] at h49
   refine .sg rfl rfl rfl rfl rfl (.sg rfl rfl rfl rfl rfl (.sg rfl rfl rfl rfl rfl (.m rfl rfl rfl (.pickF rfl rfl) ?_)))
   refine .nil ?_
   refine hK16 _ _ ?_
   refine .condF rfl ?_
   refine .exit ?_
   refine hK12 _ _ ?_
   refine .region (.m rfl rfl rfl (.move rfl) ?_)
   refine .m rfl rfl rfl (.add rfl rfl rfl (by omega) (by omega)) ?_
   refine .m rfl rfl rfl (.assign rfl) (.nil ?_)
   refine hKL2 ((j + 1, relab lab (lab.getD (pA (pss.getD j [])) 0) (lab.getD (pB (pss.getD j [])) 0) e)) _ _ ?_ ?_ ⟨rfl, rfl, rfl, trivial⟩
   ·
    refine ⟨lst2, by assumption, ?_⟩
    exact ⟨by omega, by rw [length_relab]; omega, by rw [pairL_succ (by omega), joinK_snoc]; exact hK.relab hlab (by omega) (by omega) (by first | exact .inl (by omega) | exact .inr h53)⟩
   (dsimp only; omega)
  try simp only [sps] at h24
  refine .exit ?_
  refine hK8 _ _ ?_
  refine .seq (fun K19 hK19 => ?_)
  refine .region ?_
  obtain rfl : j = pss.length := by omega
  refine .m rfl rfl rfl (.move rfl) ?_
  refine .call rfl rfl rfl rfl @Try.call132 rfl (l01ClassesN_c hlab) ?_
  rintro _ H67 ⟨le67, g67, rfl, at67, ge67⟩
  have nx_H67 := le67.1
  replace hle := hle.trans le67
  replace lst1 := lst1.le le67
  replace at_L5 := le67.2 _ _ at_L5
  have lt_at67 := GHeap.lt_of_get at67
  replace h := base_h.mono hle
  have i67 := Ints.of_get at67
  refine .m rfl rfl rfl (.assign rfl) (.nil ?_)
  refine hK19 _ _ ?_
  refine .ret ?_
  refine hret _ _ ?_
  refine ⟨_, rfl, ?_⟩
  rw [pairL_all] at hK
  have e1 := hK.cls
  exact ⟨hle, g67, by rw [length_joinL, length_clsL], by unfold joinL; rw [← e1]; exact at67, by omega⟩
theorem l01JoinN_c {a : Option Addr} {n' : Int} {n L : Nat} {pss : List (List Int)} {r : Nat → Option Addr} {H : GHeap} (hn' : n' = (n : Int)) (hL : pss.length = L) (h : Intss H a pss r) (hn : n ≤ 1048576) (hl : L ≤ 1048576)
    (hp : ∀ i, i < pss.length → 2 ≤ (pss.getD i []).length ∧ 0 ≤ (pss.getD i []).getD 0 0 ∧ (pss.getD i []).getD 0 0 < n ∧ 0 ≤ (pss.getD i []).getD 1 0 ∧ (pss.getD i []).getD 1 0 < n) :
    GCalls Try.prog 89 [.int .i64 n', .slice a L L] H (NewInts 2 H (joinL n (pss.map fun p => (pA p, pB p)))) := by
  subst hn' hL
  exact l01Join_c h hn hl hp
theorem l01JoinM_c {a : Option Addr} {n' : Int} {n L : Nat} {pss : List (List Int)} {r : Nat → Option Addr} {cs : List Int} {H : GHeap} (hcs : joinL n (pss.map fun p => (pA p, pB p)) = cs) (hn' : n' = (n : Int)) (hL : pss.length = L) (h : Intss H a pss r) (hn : n ≤ 1048576) (hl : L ≤ 1048576)
    (hp : ∀ i, i < pss.length → 2 ≤ (pss.getD i []).length ∧ 0 ≤ (pss.getD i []).getD 0 0 ∧ (pss.getD i []).getD 0 0 < n ∧ 0 ≤ (pss.getD i []).getD 1 0 ∧ (pss.getD i []).getD 1 0 < n) :
    GCalls Try.prog 89 [.int .i64 n', .slice a L L] H (NewInts 2 H cs) := by
  subst hcs
  exact l01JoinN_c hn' hL h hn hl hp
end Go.Proofs.Ytgnfekfdmgnhcaa
/- Partitions: the program's joiner. No condition but those of each statement. -/
namespace Go.Proofs.Ytgnfekfdmgnhcaa
open Go Go.GL Go.RowKit Go.Proofs
theorem sl_128_Pb : sliceT Try.prog 128 = some (2, 1) := by kernel_rfl
theorem sl_106_Pb : sliceT Try.prog 106 = some (2, 1) := by kernel_rfl
theorem mp_183_Pb : mapIT Try.prog 183 = some 2 := by kernel_rfl
theorem zv_2_Pb : zvT Try.prog 2 = some (.int .i64 0) := by kernel_rfl
theorem joinerOf_c {n : Int} {H : GHeap} (h0 : 0 ≤ n := by omega) (hn : n ≤ 1048576 := by omega) : GCalls Try.prog 93 [.int .i64 n] H (NewInts 2 H (numsL n.toNat)) := by
  refine GCalls.body (N := 5) (rs := [.tmp 2]) Try.func93 rfl rfl rfl rfl (fun Qx hret hend => ?_)
  refine .forget (fr' := [(0, some _)]) ⟨rfl, trivial⟩ ?_
  have hle := GHeap.Le.refl H
  refine .seq (fun K1 hK1 => ?_)
  refine .region (.m rfl rfl rfl (.assign rfl) (.nil ?_))
  refine hK1 _ _ ?_
  refine .seq (fun K2 hK2 => ?_)
  refine .region (.m rfl rfl rfl (.move rfl) ?_)
  refine .call rfl rfl rfl rfl @Try.call136 rfl (numbers_c) ?_
  rintro _ H4 ⟨le4, g4, rfl, at4, ge4⟩
  have nx_H4 := le4.1
  replace hle := hle.trans le4
  have lt_at4 := GHeap.lt_of_get at4
  have i4 := Ints.of_get at4
  refine .m rfl rfl rfl (.assign rfl) (.nil ?_)
  refine hK2 _ _ ?_
  refine .ret ?_
  refine hret _ _ ?_
  refine ⟨_, rfl, ?_⟩
  exact ⟨hle, g4, rfl, at4, by omega⟩
theorem root_c {g N : Nat} {x : Int} {js : List Int} {H : GHeap} (hg : H.get g = some (.row (ints js) 2 true) := by assumption) (hF : Forest js := by assumption) (hN : js.length = N := by assumption) (hn : N ≤ 1048576 := by omega) (h0 : 0 ≤ x := by omega) (hx : x < N := by omega) :
    GCalls Try.prog 137 [.slice (some ⟨g, 0, none⟩) N N, .int .i64 x] H (fun v H' => v = .int .i64 (rootOf js x.toNat : Int) ∧ St [g] H H' ∧ ∃ js', H'.get g = some (.row (ints js') 2 true) ∧ js'.length = N ∧ Forest js' ∧ ∀ z, z < N → rootOf js' z = rootOf js z) := by
  refine GCalls.body (N := 26) (rs := [.tmp 4]) Try.func137 rfl rfl rfl rfl (fun Qx hret hend => ?_)
  refine .forget (fr' := [(0, some _), (1, some _)]) ⟨rfl, rfl, trivial⟩ ?_
  have lt_hg := GHeap.lt_of_get hg
  refine .seq (fun K1 hK1 => ?_)
  refine .region (.m rfl rfl rfl (.assign rfl) (.nil ?_))
  refine hK1 _ _ ?_
  refine .seq (fun K2 hK2 => ?_)
  refine .block ?_
  refine .loopR (σ := Int × List Int) [(0, some _)] (fun (y, ks) => [(1, some (.int .i64 y))]) (fun (y, ks) H' => St [g] H H' ∧ H'.get g = some (.row (ints ks) 2 true) ∧ 0 ≤ y ∧ y < N ∧ ks.length = N ∧ Forest ks ∧ (∀ z, z < N → rootOf ks z = rootOf js z) ∧ rootOf js y.toNat = rootOf js x.toNat) (fun (y, ks) => y.toNat) ((x, js)) ⟨rfl, trivial⟩ ⟨rfl, trivial⟩ ?_ ?_
  ·
   refine ⟨.refl _ _, by first | assumption | exact hg | simpa using hg, ?_⟩
   exact ⟨by omega, by omega, hN, hF, fun _ _ => rfl, rfl⟩
  rintro ⟨y, ks⟩ HL1 ⟨lst1, at_L0, hI⟩ KL1 hKL1
  refine .forget (fr' := [(1, some (.int .i64 y)), (0, some _)]) ⟨rfl, rfl, trivial⟩ ?_
  have nx_HL1 := lst1.nx
  have lt_at_L0 := GHeap.lt_of_get at_L0
  obtain ⟨hy0, hy, hkl, hkF, hkr, hyr⟩ := hI
  have i0 := Ints.of_get at_L0
  have i0s : SlA HL1 _ _ _ := i0
  rw [hkl] at i0s
  have u1 := hkF.up y.toNat (by omega)
  refine .seq (fun K3 hK3 => ?_)
  refine .seq (fun K4 hK4 => ?_)
  refine .region (.m rfl rfl rfl (.move rfl) (.m rfl rfl rfl (.move rfl) ?_))
  refine .m rfl rfl rfl (.idx1 sl_128_Pb (by first | assumption | exact SlA.of_row at_L0 (by first | rfl | (simp; done) | (simp <;> omega))) rfl rfl (by omega) (by omega)) ?_
  refine .m rfl rfl rfl (.loadI on_2_A (by first | assumption | exact Ints.of_get at_L0) rfl (by omega)) ?_
  refine .m rfl rfl rfl (.move rfl) (.m rfl rfl rfl (.cmp rfl rfl rfl) (.nil ?_))
  refine hK4 _ _ ?_
  refine .cond rfl (fun h10 => ?_) (fun h10 => ?_)
  ·
   simp only [sps] at h10
   have u2 := hkF.up (ks.getD y.toNat 0).toNat (by omega)
   refine .skip ?_
   refine hK3 _ _ ?_
   refine .block ?_
   refine .seq (fun K5 hK5 => ?_)
   refine .region (.m rfl rfl rfl (.move rfl) (.m rfl rfl rfl (.move rfl) (.m rfl rfl rfl (.move rfl) ?_)))
   refine .m rfl rfl rfl (.move rfl) (.m rfl rfl rfl (.move rfl) ?_)
   refine .m rfl rfl rfl (.idx1 sl_128_Pb (by first | assumption | exact SlA.of_row at_L0 (by first | rfl | (simp; done) | (simp <;> omega))) rfl rfl (by omega) (by omega)) ?_
   refine .m rfl rfl rfl (.loadI on_2_A (by first | assumption | exact Ints.of_get at_L0) rfl (by omega)) ?_
   refine .m rfl rfl rfl (.idx1 sl_128_Pb (by first | assumption | exact SlA.of_row at_L0 (by first | rfl | (simp; done) | (simp <;> omega))) rfl rfl (by omega) (by omega)) ?_
   refine .m rfl rfl rfl (.loadI on_2_A (by first | assumption | exact Ints.of_get at_L0) rfl (by omega)) ?_
   refine .m rfl rfl rfl (.idx1 sl_128_Pb (by first | assumption | exact SlA.of_row at_L0 (by first | rfl | (simp; done) | (simp <;> omega))) rfl rfl (by omega) (by omega)) ?_
   refine .r0 rfl rfl (.storeI rfl sz_2_E rfl rfl (by assumption) (by first | omega | (simp <;> omega))) ?_
   rintro _ H2010 ⟨rfl, st2010, at2010⟩
   have nx_H2010 := st2010.nx
   replace lst1 := lst1.st st2010 (fun k hk ho => by simp only [out, and_true] at ho ⊢ <;> first | exact ho | exact ho.1 | exact ho.2 | exact ho.2.1 | exact ho.2.2 | exact ho.2.2.1 | exact ho.2.2.2 | omega)
   have lt_at2010 := GHeap.lt_of_get at2010
   rw [Nat.zero_add] at at2010
   refine .nil ?_
   refine hK5 _ _ ?_
   refine .region ?_
   have i9 := Ints.of_get at2010
   have i9s : SlA H2010 _ _ _ := i9
   rw [List.length_set, hkl] at i9s
   have hls : (ks.set y.toNat (ks.getD (ks.getD y.toNat 0).toNat 0)).length = ks.length := List.length_set
   refine .m rfl rfl rfl (.move rfl) (.m rfl rfl rfl (.move rfl) ?_)
   refine .m rfl rfl rfl (.idx1 sl_128_Pb (by first | assumption | exact SlA.of_row at2010 (by first | rfl | (simp; done) | (simp <;> omega))) rfl rfl (by omega) (by omega)) ?_
   refine .m rfl rfl rfl (.loadI on_2_A (by first | assumption | exact Ints.of_get at2010) rfl (by omega)) ?_
   refine .m rfl rfl rfl (.assign rfl) (.nil ?_)
   refine hKL1 (((ks.set y.toNat (ks.getD (ks.getD y.toNat 0).toNat 0)).getD y.toNat 0, ks.set y.toNat (ks.getD (ks.getD y.toNat 0).toNat 0))) _ _ ?_ ?_ ⟨rfl, rfl, trivial⟩
   ·
    refine ⟨lst1, by assumption, ?_⟩
    obtain ⟨f1, f2⟩ := rootOf_set hkF (x := y.toNat) (y := (ks.getD (ks.getD y.toNat 0).toNat 0).toNat) (by omega) (by omega) (by rw [rootOf_parent hkF (by omega), rootOf_parent hkF (by omega)])
    rw [Int.toNat_of_nonneg u2.1] at f1 f2
    have hgy : (ks.set y.toNat (ks.getD (ks.getD y.toNat 0).toNat 0)).getD y.toNat 0 = ks.getD (ks.getD y.toNat 0).toNat 0 := by rw [getD_set (by omega), if_pos rfl]
    rw [hgy]
    refine ⟨by omega, by omega, by rw [List.length_set]; exact hkl, f1, fun z hz => by rw [f2 z (by omega)]; exact hkr z hz, ?_⟩
    rw [← hkr _ (by omega), rootOf_parent hkF (by omega), rootOf_parent hkF (by omega), hkr _ (by omega)]
    exact hyr
   have hgy : (ks.set y.toNat (ks.getD (ks.getD y.toNat 0).toNat 0)).getD y.toNat 0 = ks.getD (ks.getD y.toNat 0).toNat 0 := by rw [getD_set (by omega), if_pos rfl]
   dsimp only
   rw [hgy]
   omega
  simp only [sps] at h10
  refine .exit ?_
  refine hK2 _ _ ?_
  refine .seq (fun K6 hK6 => ?_)
  refine .region (.m rfl rfl rfl (.move rfl) (.m rfl rfl rfl (.assign rfl) (.nil ?_)))
  refine hK6 _ _ ?_
  refine .ret ?_
  refine hret _ _ ?_
  refine ⟨_, rfl, ?_⟩
  have e1 : rootOf ks y.toNat = y.toNat := rootOf_fix (by omega)
  refine ⟨?_, lst1, ks, at_L0, hkl, hkF, hkr⟩
  rw [← hyr, ← hkr _ (by omega), e1, Int.toNat_of_nonneg hy0]
theorem join_c {g N : Nat} {p q : Int} {js : List Int} {K : Nat → Nat → Bool} {H : GHeap} (hg : H.get g = some (.row (ints js) 2 true) := by assumption) (hK : RootK js K N := by assumption) (hn : N ≤ 1048576 := by omega) (h0 : 0 ≤ p := by omega) (hp : p < N := by omega) (h1 : 0 ≤ q := by omega) (hq : q < N := by omega) :
    GCalls Try.prog 95 [.slice (some ⟨g, 0, none⟩) N N, .int .i64 p, .int .i64 q] H (fun v H' => (∃ b, v = .bool b) ∧ St [g] H H' ∧ ∃ js', H'.get g = some (.row (ints js') 2 true) ∧ RootK js' (stepK K p.toNat q.toNat) N) := by
  have hN := hK.1
  have hF := hK.2.1
  refine GCalls.body (N := 26) (rs := [.tmp 6]) Try.func95 rfl rfl rfl rfl (fun Qx hret hend => ?_)
  refine .forget (fr' := [(0, some _), (1, some _), (2, some _)]) ⟨rfl, rfl, rfl, trivial⟩ ?_
  have lt_hg := GHeap.lt_of_get hg
  refine .seq (fun K1 hK1 => ?_)
  refine .region (.m rfl rfl rfl (.assign rfl) (.nil ?_))
  refine hK1 _ _ ?_
  refine .seq (fun K2 hK2 => ?_)
  refine .region (.m rfl rfl rfl (.move rfl) (.m rfl rfl rfl (.move rfl) ?_))
  refine .call rfl rfl rfl rfl @Try.call137 rfl (root_c) ?_
  rintro _ H11 ⟨rfl, st11, js11, at11, hl11, hf11, hr11⟩
  have nx_H11 := st11.nx
  have lt_at11 := GHeap.lt_of_get at11
  refine .m rfl rfl rfl (.move rfl) (.m rfl rfl rfl (.move rfl) ?_)
  refine .call rfl rfl rfl rfl @Try.call137 rfl (root_c) ?_
  rintro _ H14 ⟨rfl, st14, js14, at14, hl14, hf14, hr14⟩
  have nx_H14 := st14.nx
  have lt_at14 := GHeap.lt_of_get at14
  refine .m rfl rfl rfl (.assign rfl) (.m rfl rfl rfl (.assign rfl) (.nil ?_))
  refine hK2 _ _ ?_
  refine .seq (fun K3 hK3 => ?_)
  refine .region ?_
  have lp := rootOf_le js p.toNat
  have lq := rootOf_le js11 q.toNat
  have i9 := Ints.of_get at14
  have i9s : SlA H14 _ _ _ := i9
  rw [hl14] at i9s
  have e1 := hr11 q.toNat (by omega)
  have hK2 := (hK.same (by omega) hf11 (fun z hz => hr11 z (by omega))).same (by omega) hf14 (fun z hz => hr14 z (by omega))
  have hj := hK2.join (p := p.toNat) (q := q.toNat) (by omega) (by omega)
  have e2 : rootOf js14 p.toNat = rootOf js p.toNat := by rw [hr14 _ (by omega), hr11 _ (by omega)]
  have e3 : rootOf js14 q.toNat = rootOf js11 q.toNat := hr14 _ (by omega)
  have e4 : (max ((rootOf js p.toNat : Nat) : Int) ((rootOf js11 q.toNat : Nat) : Int)).toNat = max (rootOf js p.toNat) (rootOf js11 q.toNat) := by omega
  have e5 : min ((rootOf js p.toNat : Nat) : Int) ((rootOf js11 q.toNat : Nat) : Int) = ((min (rootOf js p.toNat) (rootOf js11 q.toNat) : Nat) : Int) := by omega
  refine .m rfl rfl rfl (.move rfl) (.m rfl rfl rfl (.move rfl) (.m rfl rfl rfl (.move rfl) (.m rfl rfl rfl (.max2 rfl rfl) ?_)))
  refine .m rfl rfl rfl (.move rfl) (.m rfl rfl rfl (.move rfl) (.m rfl rfl rfl (.min2 rfl rfl) ?_))
  refine .m rfl rfl rfl (.idx1 sl_128_Pb (by first | assumption | exact SlA.of_row at14 (by first | rfl | (simp; done) | (simp <;> omega))) rfl rfl (by omega) (by omega)) ?_
  refine .r0 rfl rfl (.storeI rfl sz_2_E rfl rfl (by assumption) (by first | omega | (simp <;> omega))) ?_
  rintro _ H2008 ⟨rfl, st2008, at2008⟩
  have nx_H2008 := st2008.nx
  have lt_at2008 := GHeap.lt_of_get at2008
  rw [Nat.zero_add] at at2008
  refine .nil ?_
  refine hK3 _ _ ?_
  refine .seq (fun K4 hK4 => ?_)
  refine .region (.m rfl rfl rfl (.move rfl) (.m rfl rfl rfl (.move rfl) (.m rfl rfl rfl (.cmp rfl rfl rfl) ?_)))
  refine .m rfl rfl rfl (.assign rfl) (.nil ?_)
  refine hK4 _ _ ?_
  refine .ret ?_
  refine hret _ _ ?_
  refine ⟨_, rfl, ?_⟩
  rw [e2, e3] at hj
  refine ⟨⟨_, rfl⟩, ?_, _, at2008, ?_⟩
  · exact (st11.st st14 (fun k _ h => h)).st st2008 (fun k _ h => h)
  · rw [e4, e5]; exact hj
theorem normal_c {a : Option Addr} {xs : List Int} {H : GHeap} (h : Ints H a xs := by assumption) (hl : xs.length ≤ 1048576 := by omega) :
    GCalls Try.prog 138 [.slice a xs.length xs.length] H (NewInts 2 H (clsL (kerB xs) xs.length)) := by
  refine GCalls.body (N := 39) (rs := [.tmp 2]) Try.func138 rfl rfl rfl rfl (fun Qx hret hend => ?_)
  refine .forget (fr' := [(0, some _)]) ⟨rfl, trivial⟩ ?_
  have hle := GHeap.Le.refl H
  have base_h := h
  refine .seq (fun K1 hK1 => ?_)
  refine .region (.m rfl rfl rfl (.assign rfl) (.nil ?_))
  refine hK1 _ _ ?_
  refine .seq (fun K2 hK2 => ?_)
  refine .region ?_
  refine .r rfl rfl rfl (.makeMapR rfl) ?_
  rintro _ H9 ⟨g9, rfl, le9, ge9, at9⟩
  have nx_H9 := le9.1
  replace hle := hle.trans le9
  have lt_at9 := GHeap.lt_of_get at9
  replace h := base_h.mono hle
  refine .m rfl rfl rfl (.assign rfl) (.nil ?_)
  refine hK2 _ _ ?_
  refine .seq (fun K3 hK3 => ?_)
  refine .region (.m rfl rfl rfl (.move rfl) (.m rfl rfl rfl (.len sl_22_A rfl) ?_))
  refine .r rfl rfl rfl (.makeIN rfl sl_106_Pb ze_2_E by_2_E rfl rfl (by omega) (by omega) (by omega)) ?_
  rintro _ H12 ⟨g12, rfl, le12, ge12, at12⟩
  have nx_H12 := le12.1
  replace hle := hle.trans le12
  replace at9 := le12.2 _ _ at9
  have lt_at12 := GHeap.lt_of_get at12
  replace h := base_h.mono hle
  refine .m rfl rfl rfl (.assign rfl) (.nil ?_)
  refine hK3 _ _ ?_
  refine .seq (fun K4 hK4 => ?_)
  refine .seq (fun K5 hK5 => ?_)
  refine .region (.m rfl rfl rfl (.move rfl) (.m rfl rfl rfl (.len sl_22_A rfl) (.m rfl rfl rfl (.move rfl) ?_)))
  refine .nil ?_
  refine hK5 _ _ ?_
  refine .block ?_
  have at9' : GHeap.get H12 g9 = some (.map (imap (seenE xs 0))) := by rw [seenE_zero]; exact at9
  refine .loopR (σ := Nat) [(3, some _), (4, some _), (13, some _), (14, some _)] (fun k => [(15, some (.int .i64 (k : Int)))]) (fun k H' => St [g9, g12] H12 H' ∧ H'.get g9 = some (.map (imap ((seenE xs k)))) ∧ H'.get g12 = some (.row (ints (part0 xs.length (clsAt (kerB xs)) k)) 2 true) ∧ k ≤ xs.length) (fun k => xs.length - k) (0) ⟨rfl, rfl, rfl, rfl, trivial⟩ ⟨rfl, trivial⟩ ?_ ?_
  ·
   refine ⟨.refl _ _, by first | assumption | (rw [part0_zero]; simpa using at12), by first | assumption | (rw [part0_zero]; simpa using at12), ?_⟩
   omega
  rintro k HL1 ⟨lst1, at_L3, at_L4, hI⟩ KL1 hKL1
  refine .forget (fr' := [(15, some (.int .i64 (k : Int))), (3, some _), (4, some _), (13, some _), (14, some _)]) ⟨rfl, rfl, rfl, rfl, rfl, trivial⟩ ?_
  have nx_HL1 := lst1.nx
  replace hle := hle.st lst1 (fun k hk => ⟨by omega, by omega, trivial⟩)
  have lt_at_L3 := GHeap.lt_of_get at_L3
  have lt_at_L4 := GHeap.lt_of_get at_L4
  replace h := base_h.mono hle
  have i4 := Ints.of_get at_L4
  have i4s : SlA HL1 _ _ _ := i4
  rw [length_part0] at i4s
  have hl4 : (part0 xs.length (clsAt (kerB xs)) k).length = xs.length := length_part0 _ _ _
  refine .seq (fun K6 hK6 => ?_)
  refine .region (.m rfl rfl rfl (.cmp rfl rfl rfl) (.nil ?_))
  refine hK6 _ _ ?_
  refine .seq (fun K7 hK7 => ?_)
  refine .cond rfl (fun h16 => ?_) (fun h16 => ?_)
  ·
   try simp only [sps] at h16
   refine .skip ?_
   refine hK7 _ _ ?_
   refine .seq (fun K8 hK8 => ?_)
   refine .block ?_
   refine .seq (fun K9 hK9 => ?_)
   refine .region (.m rfl rfl rfl (.move rfl) ?_)
   refine .m rfl rfl rfl (.idxN sl_22_A (by assumption) rfl rfl (by omega)) ?_
   refine .m rfl rfl rfl (.loadI on_2_A (by assumption) rfl (by omega)) ?_
   refine .m rfl rfl rfl (.assign rfl) (.m rfl rfl rfl (.assign rfl) (.nil ?_))
   refine hK9 _ _ ?_
   refine .seq (fun K10 hK10 => ?_)
   refine .region (.m rfl rfl rfl (.move rfl) (.m rfl rfl rfl (.move rfl) ?_))
   refine .d rfl rfl rfl (.lookupR rfl mp_183_Pb zv_2_Pb rfl rfl (by assumption) CIs.mk) ?_
   refine .m rfl rfl rfl (.move rfl) (.m rfl rfl rfl (.extract rfl rfl) (.m rfl rfl rfl (.extract rfl rfl) (.m rfl rfl rfl (.assign rfl) ?_)))
   refine .m rfl rfl rfl (.assign rfl) (.nil ?_)
   refine hK10 _ _ ?_
   refine .seq (fun K11 hK11 => ?_)
   refine .seq (fun K12 hK12 => ?_)
   refine .region (.m rfl rfl rfl (.move rfl) (.m rfl rfl rfl (.not rfl) (.nil ?_)))
   refine hK12 _ _ ?_
   refine .cond rfl (fun h27 => ?_) (fun h27 => ?_)
   ·
    simp only [sps] at h27
    obtain ⟨q1, q2⟩ : idxL (seenL xs k) (xs.getD k 0) < 0 ∧ lookE (seenE xs k) (xs.getD k 0) = none := by
      rcases lookE_seen xs k (xs.getD k 0) with h | h
      · exact h
      · rw [h.2] at h27; cases h27
    refine .seq (fun K13 hK13 => ?_)
    refine .region (.m rfl rfl rfl (.move rfl) ?_)
    refine .d rfl rfl rfl (.lenMap rfl mp_183_Pb rfl (by assumption) CIs.mk) ?_
    refine .m rfl rfl rfl (.assign rfl) (.nil ?_)
    refine hK13 _ _ ?_
    refine .region (.m rfl rfl rfl (.move rfl) (.m rfl rfl rfl (.move rfl) (.m rfl rfl rfl (.move rfl) ?_)))
    refine .r0 rfl rfl (.mapPutR rfl mp_183_Pb rfl rfl rfl (by assumption) (by assumption)) ?_
    rintro _ H9003 ⟨rfl, st9003, at9003⟩
    have nx_H9003 := st9003.nx
    replace hle := hle.st st9003 (fun k hk => ⟨by omega, trivial⟩)
    replace lst1 := lst1.st st9003 (fun k hk ho => by simp only [out, and_true] at ho ⊢ <;> first | exact ho | exact ho.1 | exact ho.2 | exact ho.2.1 | exact ho.2.2 | exact ho.2.2.1 | exact ho.2.2.2 | omega)
    have ne_g12_g9 : g12 ≠ g9 := by omega
    replace at_L4 := st9003.same _ _ ⟨ne_g12_g9, trivial⟩ at_L4
    have lt_at9003 := GHeap.lt_of_get at9003
    replace h := base_h.mono hle
    refine .nil ?_
    refine hK11 _ _ ?_
    refine .region ?_
    have i4 := Ints.of_get at_L4
    have i4s : SlA _ _ _ _ := i4
    rw [length_part0] at i4s
    refine .m rfl rfl rfl (.move rfl) (.m rfl rfl rfl (.move rfl) (.m rfl rfl rfl (.move rfl) ?_))
    refine .m rfl rfl rfl (.idxN sl_106_Pb (by first | assumption | exact SlA.of_row at_L4 (by first | rfl | (simp; done) | (simp <;> omega))) rfl rfl (by omega)) ?_
    refine .r0 rfl rfl (.storeI rfl sz_2_E rfl rfl (by assumption) (by first | omega | (simp <;> omega))) ?_
    rintro _ H10004 ⟨rfl, st10004, at10004⟩
    have nx_H10004 := st10004.nx
    replace hle := hle.st st10004 (fun k hk => ⟨by omega, trivial⟩)
    replace lst1 := lst1.st st10004 (fun k hk ho => by simp only [out, and_true] at ho ⊢ <;> first | exact ho | exact ho.1 | exact ho.2 | exact ho.2.1 | exact ho.2.2 | exact ho.2.2.1 | exact ho.2.2.2 | omega)
    replace at9003 := st10004.same _ _ ⟨(Ne.symm ne_g12_g9), trivial⟩ at9003
    have lt_at10004 := GHeap.lt_of_get at10004
    replace h := base_h.mono hle
    rw [Nat.zero_add] at at10004
    refine .nil ?_
    refine hK8 _ _ ?_
    refine .region ?_
    refine .m rfl rfl rfl (.add rfl rfl rfl (by omega) (by omega)) ?_
    refine .m rfl rfl rfl (.move rfl) (.nil ?_)
    refine hKL1 (k + 1) _ _ ?_ ?_ ⟨rfl, rfl, rfl, rfl, rfl, trivial⟩
    ·
     refine ⟨lst1, by first | assumption | (rw [seenE_new (cls_new q1).2]; assumption) | (rw [seenE_old (cls_old q1).2]; assumption) | (rw [part0_set (by omega) (clsAt_new q1)]; assumption) | (rw [part0_set (by omega) (clsAt_old q1 q2)]; assumption), by first | assumption | (rw [seenE_new (cls_new q1).2]; assumption) | (rw [seenE_old (cls_old q1).2]; assumption) | (rw [part0_set (by omega) (clsAt_new q1)]; assumption) | (rw [part0_set (by omega) (clsAt_old q1 q2)]; assumption), ?_⟩
     omega
    omega
   simp only [sps] at h27
   obtain ⟨q1, q2⟩ : 0 ≤ idxL (seenL xs k) (xs.getD k 0) ∧ lookE (seenE xs k) (xs.getD k 0) = some (idxL (seenL xs k) (xs.getD k 0)) := by
     rcases lookE_seen xs k (xs.getD k 0) with h | h
     · rw [h.2] at h27; cases h27
     · exact h
   refine .skip ?_
   refine hK11 _ _ ?_
   refine .region ?_
   have i4 := Ints.of_get at_L4
   have i4s : SlA _ _ _ _ := i4
   rw [length_part0] at i4s
   refine .m rfl rfl rfl (.move rfl) (.m rfl rfl rfl (.move rfl) (.m rfl rfl rfl (.move rfl) ?_))
   refine .m rfl rfl rfl (.idxN sl_106_Pb (by first | assumption | exact SlA.of_row at_L4 (by first | rfl | (simp; done) | (simp <;> omega))) rfl rfl (by omega)) ?_
   refine .r0 rfl rfl (.storeI rfl sz_2_E rfl rfl (by assumption) (by first | omega | (simp <;> omega))) ?_
   rintro _ H10004x2 ⟨rfl, st10004x2, at10004x2⟩
   have nx_H10004x2 := st10004x2.nx
   replace hle := hle.st st10004x2 (fun k hk => ⟨by omega, trivial⟩)
   replace lst1 := lst1.st st10004x2 (fun k hk ho => by simp only [out, and_true] at ho ⊢ <;> first | exact ho | exact ho.1 | exact ho.2 | exact ho.2.1 | exact ho.2.2 | exact ho.2.2.1 | exact ho.2.2.2 | omega)
   have ne_g9_g12 : g9 ≠ g12 := by omega
   replace at_L3 := st10004x2.same _ _ ⟨ne_g9_g12, trivial⟩ at_L3
   have lt_at10004x2 := GHeap.lt_of_get at10004x2
   replace h := base_h.mono hle
   rw [Nat.zero_add] at at10004x2
   refine .nil ?_
   refine hK8 _ _ ?_
   refine .region ?_
   refine .m rfl rfl rfl (.add rfl rfl rfl (by omega) (by omega)) ?_
   refine .m rfl rfl rfl (.move rfl) (.nil ?_)
   refine hKL1 (k + 1) _ _ ?_ ?_ ⟨rfl, rfl, rfl, rfl, rfl, trivial⟩
   ·
    refine ⟨lst1, by first | assumption | (rw [seenE_new (cls_new q1).2]; assumption) | (rw [seenE_old (cls_old q1).2]; assumption) | (rw [part0_set (by omega) (clsAt_new q1)]; assumption) | (rw [part0_set (by omega) (clsAt_old q1 q2)]; assumption), by first | assumption | (rw [seenE_new (cls_new q1).2]; assumption) | (rw [seenE_old (cls_old q1).2]; assumption) | (rw [part0_set (by omega) (clsAt_new q1)]; assumption) | (rw [part0_set (by omega) (clsAt_old q1 q2)]; assumption), ?_⟩
    omega
   omega
  try simp only [sps] at h16
  refine .exit ?_
  refine hK4 _ _ ?_
  refine .seq (fun K14 hK14 => ?_)
  refine .region (.m rfl rfl rfl (.move rfl) (.m rfl rfl rfl (.assign rfl) (.nil ?_)))
  refine hK14 _ _ ?_
  refine .ret ?_
  refine hret _ _ ?_
  refine ⟨_, rfl, ?_⟩
  obtain rfl : k = xs.length := by omega
  exact ⟨hle, _, by rw [length_clsL], by unfold clsL; rw [← part0_all]; exact at_L4, by omega⟩
theorem normalN_c {a : Option Addr} {n : Nat} {xs : List Int} {H : GHeap} (hn : xs.length = n) (h : Ints H a xs := by assumption) (hl : n ≤ 1048576 := by omega) :
    GCalls Try.prog 138 [.slice a n n] H (NewInts 2 H (clsL (kerB xs) n)) := by
  subst hn
  exact normal_c h hl
theorem partition_c {g N : Nat} {js : List Int} {K : Nat → Nat → Bool} {H : GHeap} (hg : H.get g = some (.row (ints js) 2 true) := by assumption) (hK : RootK js K N := by assumption) (hn : N ≤ 1048576 := by omega) :
    GCalls Try.prog 97 [.slice (some ⟨g, 0, none⟩) N N] H (fun v H' => ∃ g', v = .slice (some ⟨g', 0, none⟩) N N ∧ St [g] H H' ∧ H.next ≤ g' ∧ H'.get g' = some (.row (ints (clsL K N)) 2 true)) := by
  have hgl := GHeap.lt_of_get hg
  refine GCalls.body (N := 22) (rs := [.tmp 2]) Try.func97 rfl rfl rfl rfl (fun Qx hret hend => ?_)
  refine .forget (fr' := [(0, some _)]) ⟨rfl, trivial⟩ ?_
  have lt_hg := GHeap.lt_of_get hg
  refine .seq (fun K1 hK1 => ?_)
  refine .region (.m rfl rfl rfl (.assign rfl) (.nil ?_))
  refine hK1 _ _ ?_
  refine .seq (fun K2 hK2 => ?_)
  refine .region (.m rfl rfl rfl (.move rfl) (.m rfl rfl rfl (.len sl_128_Pb rfl) ?_))
  refine .r rfl rfl rfl (.makeIN rfl sl_22_A ze_2_E by_2_E rfl rfl (by omega) (by omega) (by omega)) ?_
  rintro _ H7 ⟨g7, rfl, le7, ge7, at7⟩
  have nx_H7 := le7.1
  replace hg := le7.2 _ _ hg
  have lt_at7 := GHeap.lt_of_get at7
  refine .m rfl rfl rfl (.assign rfl) (.nil ?_)
  refine hK2 _ _ ?_
  refine .seq (fun K3 hK3 => ?_)
  refine .seq (fun K4 hK4 => ?_)
  refine .region (.m rfl rfl rfl (.move rfl) (.m rfl rfl rfl (.len sl_128_Pb rfl) (.m rfl rfl rfl (.move rfl) ?_)))
  refine .nil ?_
  refine hK4 _ _ ?_
  refine .block ?_
  refine .loopR (σ := Nat × List Int) [(0, some _), (3, some _), (9, some _)] (fun (k, ks) => [(10, some (.int .i64 (k : Int)))]) (fun (k, ks) H' => St [g, g7] H7 H' ∧ H'.get g = some (.row (ints ks) 2 true) ∧ H'.get g7 = some (.row (ints (part0 N (fun i => (rootOf js i : Int)) k)) 2 true) ∧ k ≤ N ∧ ks.length = N ∧ Forest ks ∧ ∀ z, z < N → rootOf ks z = rootOf js z) (fun (k, ks) => N - k) ((0, js)) ⟨rfl, rfl, rfl, trivial⟩ ⟨rfl, trivial⟩ ?_ ?_
  ·
   refine ⟨.refl _ _, by first | assumption | (rw [part0_zero]; simpa using at7), by first | assumption | (rw [part0_zero]; simpa using at7), ?_⟩
   exact ⟨by omega, hK.1, hK.2.1, fun _ _ => rfl⟩
  rintro ⟨k, ks⟩ HL1 ⟨lst1, at_L0, at_L3, hI⟩ KL1 hKL1
  refine .forget (fr' := [(10, some (.int .i64 (k : Int))), (0, some _), (3, some _), (9, some _)]) ⟨rfl, rfl, rfl, rfl, trivial⟩ ?_
  have nx_HL1 := lst1.nx
  have lt_at_L0 := GHeap.lt_of_get at_L0
  have lt_at_L3 := GHeap.lt_of_get at_L3
  obtain ⟨hk, hkl, hkF, hkr⟩ := hI
  have hl3 : (part0 N (fun i => (rootOf js i : Int)) k).length = N := length_part0 _ _ _
  refine .seq (fun K5 hK5 => ?_)
  refine .region (.m rfl rfl rfl (.cmp rfl rfl rfl) (.nil ?_))
  refine hK5 _ _ ?_
  refine .seq (fun K6 hK6 => ?_)
  refine .cond rfl (fun h11 => ?_) (fun h11 => ?_)
  ·
   try simp only [sps] at h11
   refine .skip ?_
   refine hK6 _ _ ?_
   refine .seq (fun K7 hK7 => ?_)
   refine .block ?_
   refine .seq (fun K8 hK8 => ?_)
   refine .region (.m rfl rfl rfl (.move rfl) (.m rfl rfl rfl (.assign rfl) (.nil ?_)))
   refine hK8 _ _ ?_
   refine .region (.m rfl rfl rfl (.move rfl) (.m rfl rfl rfl (.move rfl) (.m rfl rfl rfl (.move rfl) ?_)))
   refine .m rfl rfl rfl (.move rfl) ?_
   refine .call rfl rfl rfl rfl @Try.call137 rfl (root_c (x := (k : Int))) ?_
   rintro _ H17 ⟨rfl, st17, js17, at17, hl17, hf17, hr17⟩
   have nx_H17 := st17.nx
   replace lst1 := lst1.st st17 (fun k hk ho => by simp only [out, and_true] at ho ⊢ <;> first | exact ho | exact ho.1 | exact ho.2 | exact ho.2.1 | exact ho.2.2 | exact ho.2.2.1 | exact ho.2.2.2 | omega)
   have ne_g7_g : g7 ≠ g := by omega
   replace at_L3 := st17.same _ _ ⟨ne_g7_g, trivial⟩ at_L3
   have lt_at17 := GHeap.lt_of_get at17
   have i3s : SlA _ _ _ _ := Ints.of_get at_L3
   rw [length_part0] at i3s
   refine .m rfl rfl rfl (.idxN sl_22_A (by first | assumption | exact SlA.of_row at_L3 (by first | rfl | (simp; done) | (simp <;> omega))) rfl rfl (by omega)) ?_
   refine .r0 rfl rfl (.storeI rfl sz_2_E rfl rfl (by assumption) (by first | omega | (simp <;> omega))) ?_
   rintro _ H5006 ⟨rfl, st5006, at5006⟩
   have nx_H5006 := st5006.nx
   replace lst1 := lst1.st st5006 (fun k hk ho => by simp only [out, and_true] at ho ⊢ <;> first | exact ho | exact ho.1 | exact ho.2 | exact ho.2.1 | exact ho.2.2 | exact ho.2.2.1 | exact ho.2.2.2 | omega)
   replace at17 := st5006.same _ _ ⟨(Ne.symm ne_g7_g), trivial⟩ at17
   have lt_at5006 := GHeap.lt_of_get at5006
   rw [Nat.zero_add] at at5006
   refine .nil ?_
   refine hK7 _ _ ?_
   refine .region ?_
   refine .m rfl rfl rfl (.add rfl rfl rfl (by omega) (by omega)) ?_
   refine .m rfl rfl rfl (.move rfl) (.nil ?_)
   refine hKL1 ((k + 1, js17)) _ _ ?_ ?_ ⟨rfl, rfl, rfl, rfl, trivial⟩
   ·
    refine ⟨lst1, by first | assumption | (rw [part0_set (v := ((rootOf ks (k : Int).toNat : Nat) : Int)) (by omega) (by rw [Int.toNat_natCast, hkr _ (by omega)])]; assumption), by first | assumption | (rw [part0_set (v := ((rootOf ks (k : Int).toNat : Nat) : Int)) (by omega) (by rw [Int.toNat_natCast, hkr _ (by omega)])]; assumption), ?_⟩
    exact ⟨by omega, hl17, hf17, fun z hz => by rw [hr17 z hz]; exact hkr z hz⟩
   (dsimp only; omega)
  try simp only [sps] at h11
  refine .exit ?_
  refine hK3 _ _ ?_
  refine .seq (fun K9 hK9 => ?_)
  refine .region ?_
  obtain rfl : k = N := by omega
  have hker := hK.ker (lab := part0 k (fun i => (rootOf js i : Int)) k) fun i hi => by rw [part0_all, List.getD_eq_getElem?_getD]; simp [hi]
  refine .m rfl rfl rfl (.move rfl) ?_
  refine .call rfl rfl rfl rfl @Try.call138 rfl (normalN_c (length_part0 _ _ _) (Ints.of_get at_L3)) ?_
  rintro _ H21 ⟨le21, g21, rfl, at21, ge21⟩
  have nx_H21 := le21.1
  replace lst1 := lst1.le le21
  replace at_L0 := le21.2 _ _ at_L0
  replace at_L3 := le21.2 _ _ at_L3
  have lt_at21 := GHeap.lt_of_get at21
  have i21 := Ints.of_get at21
  refine .m rfl rfl rfl (.assign rfl) (.nil ?_)
  refine hK9 _ _ ?_
  refine .ret ?_
  refine hret _ _ ?_
  refine ⟨_, rfl, ?_⟩
  refine ⟨g21, by rw [length_clsL], ?_, by omega, ?_⟩
  · exact ((St.of_le le7).st lst1 (fun k hk (ho : out [g] k) => ⟨ho.1, by omega, trivial⟩))
  · rw [← hker.cls]; exact at21
end Go.Proofs.Ytgnfekfdmgnhcaa
/- Lists of small numbers as texts, and maps from such texts to places. No condition. -/
namespace Go.GL
def u8s (ns : List Int) : List Value := ns.map (Value.int .u8)
@[simp] theorem length_u8s (ns : List Int) : (u8s ns).length = ns.length := by simp [u8s]
theorem u8s_take {xs : List Int} {j : Nat} (h : j < xs.length) : u8s (xs.take (j + 1)) = u8s (xs.take j) ++ [.int .u8 (xs.getD j 0)] := by
  unfold u8s
  rw [List.take_add_one, List.getElem?_eq_getElem h, List.map_append, List.getD_eq_getElem?_getD, List.getElem?_eq_getElem h]; rfl
theorem u8_cells {H : GHeap} {g : Nat} {ns : List Int} {e : TypeId} {own : Bool} (h : H.get g = some (.row (u8s ns) e own)) : ∀ i v, ns[i]? = some v → H.cell g (0 + i) = some (.int .u8 v) := fun i v hv => by
  rw [GHeap.cell_of h, Nat.zero_add]
  unfold u8s
  rw [List.getElem?_map, hv]; rfl
/-- The text of a list of small numbers. -/
def keyB (xs : List Int) : ByteArray := bytesOf (xs ++ [255])
def keyL (xs : List Int) : Nat → List Int
  | 0 => []
  | _ + 1 => xs ++ [255]
theorem bytesOf_data (ns : List Int) : (bytesOf ns).data.toList = ns.map fun n => UInt8.ofNat n.toNat := by
  have key : ∀ (ns : List Int) (s : ByteArray), (ns.foldl (fun r n => r.push (UInt8.ofNat n.toNat)) s).data.toList = s.data.toList ++ ns.map fun n => UInt8.ofNat n.toNat := by
    intro ns
    induction ns with
    | nil => intro s; simp
    | cons n ns ih => intro s; rw [List.foldl_cons, ih]; simp [ByteArray.push]
  unfold bytesOf
  rw [key]; simp
theorem u8_inj {a b : Int} (ha : 0 ≤ a ∧ a ≤ 255) (hb : 0 ≤ b ∧ b ≤ 255) (h : UInt8.ofNat a.toNat = UInt8.ofNat b.toNat) : a = b := by
  have := congrArg UInt8.toNat h
  simp only [UInt8.toNat_ofNat'] at this
  omega
theorem keyB_inj {xs ys : List Int} (hl : xs.length = ys.length) (hx : ∀ i, i < xs.length → 0 ≤ xs.getD i 0 ∧ xs.getD i 0 ≤ 255) (hy : ∀ i, i < ys.length → 0 ≤ ys.getD i 0 ∧ ys.getD i 0 ≤ 255) (h : keyB xs = keyB ys) : xs = ys := by
  have h1 := congrArg (fun b : ByteArray => b.data.toList) h
  simp only [keyB, bytesOf_data, List.map_append] at h1
  have h2 := List.append_inj_left' h1 rfl
  refine eq_of_getD hl fun i hi => ?_
  have h3 := congrArg (fun l : List UInt8 => l[i]?) h2
  simp only [List.getElem?_map] at h3
  have a1 := hx i (by omega)
  have a2 := hy i (by omega)
  rw [List.getElem?_eq_getElem (by omega), List.getElem?_eq_getElem (by omega)] at h3
  simp only [Option.map_some, Option.some.injEq] at h3
  rw [List.getD_eq_getElem?_getD, List.getElem?_eq_getElem (by omega)] at a1 ⊢
  rw [List.getD_eq_getElem?_getD, List.getElem?_eq_getElem (by omega)] at a2 ⊢
  exact u8_inj a1 a2 h3
/-- Where a list lies in a list of lists, or -1. -/
def idxLL (xss : List (List Int)) (t : List Int) : Int := match firstN xss.length fun i => xss.getD i [] == t with | some i => (i : Int) | none => -1
theorem idxLL_some {xss : List (List Int)} {t : List Int} {i : Nat} (hi : i < xss.length) (h : xss.getD i [] = t) (hb : ∀ j, j < i → ¬ xss.getD j [] = t) : idxLL xss t = i := by
  unfold idxLL
  rw [firstN_some hi (by simpa using h) fun j hj => by simpa using hb j hj]
theorem idxLL_none {xss : List (List Int)} {t : List Int} (h : ∀ j, j < xss.length → ¬ xss.getD j [] = t) : idxLL xss t = -1 := by
  unfold idxLL
  rw [firstN_none fun j hj => by simpa using h j hj]
theorem getD_inj {xss : List (List Int)} (hn : xss.Nodup) {i j : Nat} (hi : i < xss.length) (hj : j < xss.length) (h : xss.getD i [] = xss.getD j []) : i = j := by
  rw [List.getD_eq_getElem?_getD, List.getD_eq_getElem?_getD, List.getElem?_eq_getElem hi, List.getElem?_eq_getElem hj] at h
  exact (List.getElem_inj hn).1 (by simpa using h)
theorem idxLL_at {xss : List (List Int)} (hn : xss.Nodup) {i : Nat} (hi : i < xss.length) : idxLL xss (xss.getD i []) = i := idxLL_some hi rfl fun j hj e => by have := getD_inj hn (by omega) hi e; omega
theorem idxLL_mem {xss : List (List Int)} (hn : xss.Nodup) {t : List Int} (h : t ∈ xss) : ∃ i : Nat, i < xss.length ∧ xss.getD i [] = t ∧ idxLL xss t = i := by
  obtain ⟨i, hi, e⟩ := List.getElem_of_mem h
  have e2 : xss.getD i [] = t := by rw [List.getD_eq_getElem?_getD, List.getElem?_eq_getElem hi, e]; rfl
  exact ⟨i, hi, e2, by rw [← e2]; exact idxLL_at hn hi⟩
/-- Lists of one length of small numbers, no two alike. -/
structure Keys (n : Nat) (xss : List (List Int)) : Prop where
  nd : xss.Nodup
  ok : ∀ t ∈ xss, t.length = n ∧ ∀ i, i < n → 0 ≤ t.getD i 0 ∧ t.getD i 0 ≤ 255
def plE (xss : List (List Int)) (k : Nat) : List (ByteArray × Int) := (List.range k).map fun (i : Nat) => (keyB (xss.getD i []), (i : Int))
theorem plE_succ (xss : List (List Int)) (k : Nat) : plE xss (k + 1) = plE xss k ++ [(keyB (xss.getD k []), (k : Int))] := by simp [plE, List.range_succ]
theorem lookS_plE {n : Nat} {xss : List (List Int)} (h : Keys n xss) {i : Nat} (hi : i < xss.length) : ∀ {k : Nat}, k ≤ xss.length → lookS (plE xss k) (keyB (xss.getD i [])) = if i < k then some (i : Int) else none
  | 0, _ => rfl
  | k + 1, hk => by
    have ih := lookS_plE h hi (k := k) (by omega)
    rw [plE_succ, lookS_snoc, ih]
    by_cases e : k = i
    · subst e
      rw [if_neg (by omega), if_pos rfl, if_pos (by omega)]; rfl
    · have hne : ¬ keyB (xss.getD k []) = keyB (xss.getD i []) := fun hk' => by
        have o1 := h.ok _ (getD_mem_list (d := []) (show k < xss.length by omega))
        have o2 := h.ok _ (getD_mem_list (d := []) hi)
        exact e (getD_inj h.nd (by omega) hi (keyB_inj (by omega) (fun j hj => o1.2 j (by omega)) (fun j hj => o2.2 j (by omega)) hk'))
      rw [if_neg hne]
      by_cases e2 : i < k
      · rw [if_pos e2, if_pos (by omega)]; rfl
      · rw [if_neg e2, if_neg (by omega)]; rfl
theorem lookS_new {n : Nat} {xss : List (List Int)} (h : Keys n xss) {k : Nat} (hk : k < xss.length) : lookS (plE xss k) (keyB (xss.getD k [])) = none := by
  rw [lookS_plE h hk (by omega), if_neg (by omega)]
theorem lookS_all {n : Nat} {xss : List (List Int)} (h : Keys n xss) {t : List Int} (ht : t ∈ xss) : (lookS (plE xss xss.length) (keyB t)).getD 0 = idxLL xss t := by
  obtain ⟨i, hi, e1, e2⟩ := idxLL_mem h.nd ht
  rw [e2, ← e1, lookS_plE h hi (Nat.le_refl _), if_pos hi]; rfl
end Go.GL
/- Lists that are nil as long as they are empty: a number is kept for the block that they will lie in. No condition. -/
namespace Go.GL
open Go.RowKit
/-- A list's block: where it lay, or behind n. -/
structure PL (g g0 n : Nat) : Prop where
  or : g = g0 ∨ n ≤ g
theorem PL.ne {g g0 n x : Nat} (h : PL g g0 n) (h0 : x ≠ g0) (hx : x < n) : x ≠ g := by
  rcases h.or with rfl | h
  · exact h0
  · omega
theorem PL.trans {g g1 g0 n n' : Nat} (h : PL g g1 n') (h' : PL g1 g0 n) (hn : n ≤ n') : PL g g0 n := by
  rcases h.or with rfl | h
  · exact h'
  · exact ⟨.inr (by omega)⟩
theorem PL.ge {g g0 n b : Nat} (h : PL g g0 n) (h0 : b ≤ g0) (hn : b ≤ n) : b ≤ g := by
  rcases h.or with rfl | h
  · exact h0
  · omega
def nz : Nat → Nat → Option Addr
  | 0, _ => none
  | _ + 1, g => some ⟨g, 0, none⟩
theorem nz_pos {k g : Nat} (h : 0 < k) : nz k g = some ⟨g, 0, none⟩ := by
  cases k with
  | zero => omega
  | succ k => rfl
structure NO (H : GHeap) (g : Nat) (cs : List Value) (e : TypeId) (k : Nat) : Prop where
  lt : g < H.next
  or : (k = 0 ∧ cs = []) ∨ (0 < k ∧ H.get g = some (.row cs e true))
theorem NO.le {H H' : GHeap} {g k : Nat} {cs : List Value} {e : TypeId} (h : NO H g cs e k) (s : H.Le H') : NO H' g cs e k := ⟨by have := h.lt; have := s.1; omega, h.or.imp id fun h => ⟨h.1, s.2 _ _ h.2⟩⟩
theorem NO.st {H H' : GHeap} {g k : Nat} {bs : List Nat} {cs : List Value} {e : TypeId} (h : NO H g cs e k) (s : St bs H H') (ho : out bs g) : NO H' g cs e k := ⟨by have := h.lt; have := s.nx; omega, h.or.imp id fun h => ⟨h.1, s.same _ _ ho h.2⟩⟩
theorem NO.start {H : GHeap} {g k : Nat} {cs : List Value} {e : TypeId} (h : g < H.next) (hk : k = 0) (hc : cs = []) : NO H g cs e k := ⟨h, .inl ⟨hk, hc⟩⟩
theorem NO.of {H : GHeap} {g k : Nat} {cs : List Value} {e : TypeId} (h : H.get g = some (.row cs e true)) (hk : 0 < k) : NO H g cs e k := ⟨GHeap.lt_of_get h, .inr ⟨hk, h⟩⟩
theorem NO.get {H : GHeap} {g k : Nat} {cs : List Value} {e : TypeId} (h : NO H g cs e k) (hk : 0 < k) : H.get g = some (.row cs e true) := by
  rcases h.or with ⟨h, _⟩ | ⟨_, h⟩
  · omega
  · exact h
theorem NO.nil {H : GHeap} {g k : Nat} {cs : List Value} {e : TypeId} (h : NO H g cs e k) (hk : k = 0) : cs = [] := by
  rcases h.or with ⟨_, h⟩ | ⟨h, _⟩
  · exact h
  · omega
theorem NO.sl {H : GHeap} {g k n : Nat} {cs : List Value} {e : TypeId} (h : NO H g cs e k) (hn : cs.length = n) : SlA H (nz k g) n (fun i => cs.getD i (.bool false)) := by
  rcases h.or with ⟨rfl, rfl⟩ | ⟨h1, h2⟩
  · exact .inl hn.symm
  · rw [nz_pos h1]; exact SlA.of_row h2 hn
theorem Sim.hold {P : Program} {B : Nat} {w0 : World} {ρ : Place} {H : GHeap} {w : World} (hs : Sim P B w0 ρ H w) : Sim P B w0 ρ ⟨H.objs ++ [none]⟩ w := by
  have hg : ∀ {g : Nat} {o : GObj}, GHeap.get ⟨H.objs ++ [none]⟩ g = some o → H.get g = some o := fun {g o} h => by
    unfold GHeap.get at h ⊢
    rcases Nat.lt_trichotomy g H.objs.length with hl | hl | hl
    · rwa [List.getElem?_append_left hl] at h
    · subst hl; simp at h
    · rw [List.getElem?_eq_none (by simp; omega)] at h; cases h
  exact ⟨fun g h => hs.dom g (by have : (GHeap.mk (H.objs ++ [none])).next = H.next + 1 := by simp [GHeap.next]
                                 omega), fun g o h => hs.live g o (hg h), fun g g' o o' s s' h1 h2 => hs.apart g g' o o' s s' (hg h1) (hg h2), hs.base, hs.below⟩
/-- A number is kept. -/
theorem GT.hold {P : Program} {N : Nat} {c : Code} {Q : Exit → Slots → GHeap → Prop} {fr : Slots} {H : GHeap} (h : ∀ H', H.Le H' → H'.next = H.next + 1 → GT P N c Q fr H') : GT P N c Q fr H := fun B w0 ρ a w hs hf =>
  h ⟨H.objs ++ [none]⟩ ⟨by simp [GHeap.next], fun g o hg => by
    have hl : g < H.objs.length := GHeap.lt_of_get hg
    unfold GHeap.get at hg ⊢
    rwa [List.getElem?_append_left hl]⟩ (by simp [GHeap.next]) B w0 ρ a w hs.hold hf
section
variable {P : Program} {o : Oper} {fr : Slots} {H : GHeap}
end
end Go.GL
/- Lists of small numbers as texts, places of lists. No condition but those of each statement. -/
namespace Go.Proofs.Ytgnfekfdmgnhcaa
open Go Go.GL Go.RowKit Go.Proofs
theorem byt_164_Ke : bytesT Try.prog 164 = true := by kernel_rfl
theorem st_9_Ke : isStringT Try.prog 9 = true := by kernel_rfl
theorem sl_164_Ke : sliceT Try.prog 164 = some (5, 1) := by kernel_rfl
theorem ze_5_Ke : zeroT Try.prog 5 = some ([.int .u8 0], 1) := by kernel_rfl
theorem us_2_Ke : (Try.prog.underlying 2).isSome = true := by kernel_rfl
theorem it_5_Ke : intT Try.prog 5 = some .u8 := by kernel_rfl
theorem by_5_Ke : (Try.prog.info? 5).map (·.bytes) = some 1 := by kernel_rfl
theorem mps_117_Ke : mapST Try.prog 117 = some 2 := by kernel_rfl
set_option maxHeartbeats 4000000 in
theorem key_c {g n : Nat} {a : Option Addr} {xs : List Int} {e : TypeId} {H : GHeap} (h1 : H.get g = some (.row [.slice a n n] e true) := by assumption) (h2 : Ints H a xs := by assumption) (hn : n = xs.length := by rfl) (hb : ∀ i, i < n → 0 ≤ xs.getD i 0 ∧ xs.getD i 0 ≤ 255) (hl : n ≤ 1000 := by omega) :
    GCalls Try.prog 96 [.slice (some ⟨g, 0, none⟩) 1 1] H (Ret (.string (keyB xs)) H) := by
  refine GCalls.ret rfl ?_
  subst hn
  refine GCalls.body (N := 33) (rs := [.tmp 2]) Try.func96 rfl rfl rfl rfl (fun Qx hret hend => ?_)
  refine .forget (fr' := [(0, some _)]) ⟨rfl, trivial⟩ ?_
  have hle := GHeap.Le.refl H
  have lt_h1 := GHeap.lt_of_get h1
  have base_h2 := h2
  refine .seq (fun K1 hK1 => ?_)
  refine .region (.m rfl rfl rfl (.assign rfl) (.nil ?_))
  refine hK1 _ _ ?_
  refine .seq (fun K2 hK2 => ?_)
  refine .region ?_
  refine .r rfl rfl rfl (.litR rfl sl_164_Ke ze_5_Ke rfl rfl (by omega) (by omega) rfl rfl) ?_
  rintro _ H8 ⟨g8, rfl, le8, ge8, at8⟩
  have nx_H8 := le8.1
  replace hle := hle.trans le8
  replace h1 := le8.2 _ _ h1
  have lt_at8 := GHeap.lt_of_get at8
  replace h2 := base_h2.mono hle
  replace at8 : GHeap.get H8 g8 = some (.row (ints []) 5 true) := at8
  refine .m rfl rfl rfl (.assign rfl) (.nil ?_)
  refine hK2 _ _ ?_
  refine .seq (fun K3 hK3 => ?_)
  refine .seq (fun K4 hK4 => ?_)
  refine .region (.m rfl rfl rfl (.move rfl) (.m rfl rfl rfl (.len sl_23_B rfl) (.m rfl rfl rfl (.move rfl) ?_)))
  refine .nil ?_
  refine hK4 _ _ ?_
  refine .block ?_
  refine .loopR (σ := Nat × Nat × Nat) [(9, some _), (10, some _)] (fun (k, gL3, nL3) => [(11, some (.int .i64 (k : Int))), (3, some (.slice (some ⟨gL3, 0, none⟩) nL3 nL3))]) (fun (k, gL3, nL3) H' => St [g8] H8 H' ∧ H'.get gL3 = some (.row ((u8s (keyL xs k))) 5 true) ∧ (gL3 = g8 ∨ H8.next ≤ gL3) ∧ nL3 = (u8s (keyL xs k)).length ∧ k ≤ 1) (fun (k, gL3, nL3) => 1 - k) ((0, _, _)) ⟨rfl, rfl, trivial⟩ ⟨rfl, rfl, trivial⟩ ?_ ?_
  ·
   refine ⟨.refl _ _, by first | assumption | exact at8 | simpa using at8, .inl rfl, by first | rfl | assumption | simp | omega, ?_⟩
   omega
  rintro ⟨k, gL3, nL3⟩ HL1 ⟨lst1, at_L3, pl_L3, ln_L3, hI⟩ KL1 hKL1
  refine .forget (fr' := [(11, some (.int .i64 (k : Int))), (3, some (.slice (some ⟨gL3, 0, none⟩) nL3 nL3)), (9, some _), (10, some _)]) ⟨rfl, rfl, rfl, rfl, trivial⟩ ?_
  have ge_L3 : H.next ≤ gL3 := by omega
  have nx_HL1 := lst1.nx
  replace hle := hle.st lst1 (fun k hk => ⟨by omega, trivial⟩)
  have ne_g_g8 : g ≠ g8 := by omega
  replace h1 := lst1.same _ _ ⟨ne_g_g8, trivial⟩ h1
  have lt_at_L3 := GHeap.lt_of_get at_L3
  replace h2 := base_h2.mono hle
  refine .seq (fun K5 hK5 => ?_)
  refine .region (.m rfl rfl rfl (.cmp rfl rfl rfl) (.nil ?_))
  refine hK5 _ _ ?_
  refine .seq (fun K6 hK6 => ?_)
  refine .cond rfl (fun h12 => ?_) (fun h12 => ?_)
  ·
   simp only [sps] at h12
   obtain rfl : k = 0 := by omega
   refine .skip ?_
   refine hK6 _ _ ?_
   refine .seq (fun K7 hK7 => ?_)
   refine .block ?_
   refine .seq (fun K8 hK8 => ?_)
   refine .region ?_
   refine .m rfl rfl rfl (.idxN sl_23_B (SlA.of_row (n := 1) h1 rfl) rfl rfl (by omega)) ?_
   refine .m rfl rfl rfl (.loadE on_22_B (SlA.of_row (n := 1) h1 rfl) rfl (by omega)) ?_
   refine .m rfl rfl rfl (.assign rfl) (.nil ?_)
   refine hK8 _ _ ?_
   refine .seq (fun K9 hK9 => ?_)
   refine .seq (fun K10 hK10 => ?_)
   refine .region (.m rfl rfl rfl (.move rfl) (.m rfl rfl rfl (.len sl_22_A rfl) (.m rfl rfl rfl (.move rfl) ?_)))
   refine .nil ?_
   refine hK10 _ _ ?_
   refine .block ?_
   refine .loopR (σ := Nat × Nat × Nat) [(9, some _), (10, some _), (11, some _), (15, some _), (16, some _)] (fun (j, gL3v2, nL3v2) => [(17, some (.int .i64 (j : Int))), (3, some (.slice (some ⟨gL3v2, 0, none⟩) nL3v2 nL3v2))]) (fun (j, gL3v2, nL3v2) H' => St [gL3] HL1 H' ∧ H'.get gL3v2 = some (.row ((u8s (xs.take j))) 5 true) ∧ (gL3v2 = gL3 ∨ HL1.next ≤ gL3v2) ∧ nL3v2 = (u8s (xs.take j)).length ∧ j ≤ xs.length) (fun (j, gL3v2, nL3v2) => xs.length - j) ((0, _, _)) ⟨rfl, rfl, rfl, rfl, rfl, trivial⟩ ⟨rfl, rfl, trivial⟩ ?_ ?_
   ·
    refine ⟨.refl _ _, by first | assumption | exact at_L3 | simpa using at_L3, .inl rfl, by first | rfl | assumption | simp | omega, ?_⟩
    omega
   rintro ⟨j, gL3v2, nL3v2⟩ HL2 ⟨lst2, at_L3v2, pl_L3v2, ln_L3v2, hI⟩ KL2 hKL2
   refine .forget (fr' := [(17, some (.int .i64 (j : Int))), (3, some (.slice (some ⟨gL3v2, 0, none⟩) nL3v2 nL3v2)), (9, some _), (10, some _), (11, some _), (15, some _), (16, some _)]) ⟨rfl, rfl, rfl, rfl, rfl, rfl, rfl, trivial⟩ ?_
   have ge_L3v2 : H.next ≤ gL3v2 := by omega
   have nx_HL2 := lst2.nx
   replace hle := hle.st lst2 (fun k hk => ⟨by omega, trivial⟩)
   replace lst1 := lst1.st lst2 (fun k hk ho => by simp only [out, and_true] at ho ⊢ <;> first | exact ho | exact ho.1 | exact ho.2 | exact ho.2.1 | exact ho.2.2 | exact ho.2.2.1 | exact ho.2.2.2 | omega)
   have ne_g_gL3 : g ≠ gL3 := by omega
   replace h1 := lst2.same _ _ ⟨ne_g_gL3, trivial⟩ h1
   have lt_at_L3v2 := GHeap.lt_of_get at_L3v2
   replace h2 := base_h2.mono hle
   have hfl : (u8s (xs.take j)).length = j := by simp; omega
   refine .seq (fun K11 hK11 => ?_)
   refine .region (.m rfl rfl rfl (.cmp rfl rfl rfl) (.nil ?_))
   refine hK11 _ _ ?_
   refine .seq (fun K12 hK12 => ?_)
   refine .cond rfl (fun h18 => ?_) (fun h18 => ?_)
   ·
    simp only [sps] at h18
    have q0 := hb j (by omega)
    refine .skip ?_
    refine hK12 _ _ ?_
    refine .seq (fun K13 hK13 => ?_)
    refine .block ?_
    refine .seq (fun K14 hK14 => ?_)
    refine .region ?_
    refine .m rfl rfl rfl (.idxN sl_22_A (by assumption) rfl rfl (by omega)) ?_
    refine .m rfl rfl rfl (.loadI on_2_A (by assumption) rfl (by omega)) ?_
    refine .m rfl rfl rfl (.assign rfl) (.nil ?_)
    refine hK14 _ _ ?_
    refine .region (.m rfl rfl rfl (.move rfl) (.m rfl rfl rfl (.move rfl) ?_))
    refine .m rfl rfl rfl (.convU8 us_2_Ke it_5_Ke rfl (by omega) (by omega)) ?_
    refine .r rfl rfl rfl (.litR rfl sl_164_Ke ze_5_Ke rfl rfl (by omega) (by omega) rfl rfl) ?_
    rintro _ H24 ⟨g24, rfl, le24, ge24, at24⟩
    have nx_H24 := le24.1
    replace hle := hle.trans le24
    replace lst1 := lst1.le le24
    replace lst2 := lst2.le le24
    replace h1 := le24.2 _ _ h1
    replace at_L3v2 := le24.2 _ _ at_L3v2
    have lt_at24 := GHeap.lt_of_get at24
    replace h2 := base_h2.mono hle
    refine .r rfl rfl rfl (.appendV rfl sl_164_Ke ze_5_Ke rfl by_5_Ke sl_164_Ke rfl rfl (by assumption) (by assumption) (by first | omega | (simp <;> omega)) rfl rfl (by omega) (by omega)) ?_
    rintro _ H25 ⟨g25, rfl, st25, ge25, at25⟩
    have nx_H25 := st25.nx
    replace hle := hle.st st25 (fun k hk => ⟨by omega, trivial⟩)
    replace lst1 := lst1.st st25 (fun k hk ho => by simp only [out, and_true] at ho ⊢ <;> first | exact ho | exact ho.1 | exact ho.2 | exact ho.2.1 | exact ho.2.2 | exact ho.2.2.1 | exact ho.2.2.2 | omega)
    replace lst2 := lst2.st st25 (fun k hk ho => by simp only [out, and_true] at ho ⊢ <;> first | exact ho | exact ho.1 | exact ho.2 | exact ho.2.1 | exact ho.2.2 | exact ho.2.2.1 | exact ho.2.2.2 | omega)
    have ne_g_gL3v2 : g ≠ gL3v2 := by omega
    replace h1 := st25.same _ _ ⟨ne_g_gL3v2, trivial⟩ h1
    have ne_g24_gL3v2 : g24 ≠ gL3v2 := by omega
    replace at24 := st25.same _ _ ⟨ne_g24_gL3v2, trivial⟩ at24
    have lt_at25 := GHeap.lt_of_get at25
    replace h2 := base_h2.mono hle
    refine .m rfl rfl rfl (.assign rfl) (.nil ?_)
    refine hK13 _ _ ?_
    refine .region ?_
    refine .m rfl rfl rfl (.add rfl rfl rfl (by omega) (by omega)) ?_
    refine .m rfl rfl rfl (.move rfl) (.nil ?_)
    refine hKL2 ((j + 1, _, _)) _ _ ?_ ?_ ⟨rfl, rfl, rfl, rfl, rfl, rfl, rfl, trivial⟩
    ·
     refine ⟨lst2, by first | assumption | (rw [u8s_take (by omega)]; assumption), by omega, by first | omega | (simp only [List.length_append, List.length_cons, List.length_nil] <;> omega) | (rw [u8s_take (by omega)] <;> (first | omega | (simp only [List.length_append, List.length_cons, List.length_nil] <;> omega))), ?_⟩
     omega
    (dsimp only; omega)
   try simp only [sps] at h18
   refine .exit ?_
   refine hK9 _ _ ?_
   refine .region ?_
   obtain rfl : j = xs.length := by omega
   rw [List.take_length] at at_L3v2 ln_L3v2
   have hfl : (u8s xs).length = xs.length := by simp
   refine .m rfl rfl rfl (.move rfl) ?_
   refine .r rfl rfl rfl (.litR rfl sl_164_Ke ze_5_Ke rfl rfl (by omega) (by omega) rfl rfl) ?_
   rintro _ H28 ⟨g28, rfl, le28, ge28, at28⟩
   have nx_H28 := le28.1
   replace hle := hle.trans le28
   replace lst1 := lst1.le le28
   replace h1 := le28.2 _ _ h1
   replace at_L3v2 := le28.2 _ _ at_L3v2
   have lt_at28 := GHeap.lt_of_get at28
   replace h2 := base_h2.mono hle
   refine .r rfl rfl rfl (.appendV rfl sl_164_Ke ze_5_Ke rfl by_5_Ke sl_164_Ke rfl rfl (by assumption) (by assumption) (by first | omega | (simp <;> omega)) rfl rfl (by omega) (by omega)) ?_
   rintro _ H29 ⟨g29, rfl, st29, ge29, at29⟩
   have nx_H29 := st29.nx
   replace hle := hle.st st29 (fun k hk => ⟨by omega, trivial⟩)
   replace lst1 := lst1.st st29 (fun k hk ho => by simp only [out, and_true] at ho ⊢ <;> first | exact ho | exact ho.1 | exact ho.2 | exact ho.2.1 | exact ho.2.2 | exact ho.2.2.1 | exact ho.2.2.2 | omega)
   have ne_g_gL3v2 : g ≠ gL3v2 := by omega
   replace h1 := st29.same _ _ ⟨ne_g_gL3v2, trivial⟩ h1
   have ne_g28_gL3v2 : g28 ≠ gL3v2 := by omega
   replace at28 := st29.same _ _ ⟨ne_g28_gL3v2, trivial⟩ at28
   have lt_at29 := GHeap.lt_of_get at29
   replace h2 := base_h2.mono hle
   refine .m rfl rfl rfl (.assign rfl) (.nil ?_)
   refine hK7 _ _ ?_
   refine .region ?_
   refine .m rfl rfl rfl (.add rfl rfl rfl (by omega) (by omega)) ?_
   refine .m rfl rfl rfl (.move rfl) (.nil ?_)
   have hk1 : u8s xs ++ [.int .u8 255] = u8s (keyL xs (0 + 1)) := by simp [u8s, keyL]
   have hk2 : (u8s (keyL xs (0 + 1))).length = (u8s xs).length + 1 := by rw [← hk1]; simp
   have at29b : GHeap.get H29 g29 = some (.row (u8s (keyL xs (0 + 1))) 5 true) := by rw [← hk1]; exact at29
   refine hKL1 ((0 + 1, _, _)) _ _ ?_ ?_ ⟨rfl, rfl, rfl, rfl, trivial⟩
   ·
    refine ⟨lst1, by assumption, by omega, by first | omega | (simp only [List.length_append, List.length_cons, List.length_nil] <;> omega), ?_⟩
    omega
   (dsimp only; omega)
  try simp only [sps] at h12
  refine .exit ?_
  refine hK3 _ _ ?_
  refine .seq (fun K15 hK15 => ?_)
  refine .region ?_
  have hke : k = 1 := by omega
  refine .m rfl rfl rfl (.move rfl) ?_
  refine .m rfl rfl rfl (.bytesStr (ns := xs ++ [255]) byt_164_Ke st_9_Ke rfl (by rw [ln_L3]; simp [hke, keyL]) (by rw [ln_L3]; simp [hke, keyL]) (u8_cells (by rw [hke] at at_L3; exact at_L3))) ?_
  refine .m rfl rfl rfl (.assign rfl) (.nil ?_)
  refine hK15 _ _ ?_
  refine .ret ?_
  refine hret _ _ ?_
  refine ⟨_, rfl, ?_⟩
  exact ⟨rfl, hle⟩
theorem places_c {a : Option Addr} {n : Nat} {xss : List (List Int)} {r : Nat → Option Addr} {H : GHeap} (h : Intss H a xss r := by assumption) (hk : Keys n xss := by assumption) (hn : n ≤ 1000 := by omega) (hl : xss.length ≤ 1000000 := by omega) :
    GCalls Try.prog 92 [.slice a xss.length xss.length] H (fun v H' => H.Le H' ∧ ∃ g, v = .map (some g) ∧ H'.get g = some (.map (smap (plE xss xss.length))) ∧ H.next ≤ g) := by
  refine GCalls.body (N := 21) (rs := [.tmp 2]) Try.func92 rfl rfl rfl rfl (fun Qx hret hend => ?_)
  refine .forget (fr' := [(0, some _)]) ⟨rfl, trivial⟩ ?_
  have hle := GHeap.Le.refl H
  have base_h := h
  refine .seq (fun K1 hK1 => ?_)
  refine .region (.m rfl rfl rfl (.assign rfl) (.nil ?_))
  refine hK1 _ _ ?_
  refine .seq (fun K2 hK2 => ?_)
  refine .region ?_
  refine .r rfl rfl rfl (.makeMapR rfl) ?_
  rintro _ H6 ⟨g6, rfl, le6, ge6, at6⟩
  have nx_H6 := le6.1
  replace hle := hle.trans le6
  have lt_at6 := GHeap.lt_of_get at6
  replace h := base_h.mono hle
  refine .m rfl rfl rfl (.assign rfl) (.nil ?_)
  refine hK2 _ _ ?_
  refine .seq (fun K3 hK3 => ?_)
  refine .seq (fun K4 hK4 => ?_)
  refine .region (.m rfl rfl rfl (.move rfl) (.m rfl rfl rfl (.len sl_23_B rfl) (.m rfl rfl rfl (.move rfl) ?_)))
  refine .nil ?_
  refine hK4 _ _ ?_
  refine .block ?_
  refine .loopR (σ := Nat) [(3, some _), (7, some _), (8, some _)] (fun k => [(9, some (.int .i64 (k : Int)))]) (fun k H' => St [g6] H6 H' ∧ H'.get g6 = some (.map (smap (plE xss k))) ∧ k ≤ xss.length) (fun k => xss.length - k) (0) ⟨rfl, rfl, rfl, trivial⟩ ⟨rfl, trivial⟩ ?_ ?_
  ·
   refine ⟨.refl _ _, by first | assumption | exact at6 | simpa using at6, ?_⟩
   omega
  rintro k HL1 ⟨lst1, at_L3, hI⟩ KL1 hKL1
  refine .forget (fr' := [(9, some (.int .i64 (k : Int))), (3, some _), (7, some _), (8, some _)]) ⟨rfl, rfl, rfl, rfl, trivial⟩ ?_
  have nx_HL1 := lst1.nx
  replace hle := hle.st lst1 (fun k hk => ⟨by omega, trivial⟩)
  have lt_at_L3 := GHeap.lt_of_get at_L3
  replace h := base_h.mono hle
  refine .seq (fun K5 hK5 => ?_)
  refine .region (.m rfl rfl rfl (.cmp rfl rfl rfl) (.nil ?_))
  refine hK5 _ _ ?_
  refine .seq (fun K6 hK6 => ?_)
  refine .cond rfl (fun h10 => ?_) (fun h10 => ?_)
  ·
   simp only [sps] at h10
   have ho := hk.ok _ (getD_mem_list (d := []) (show k < xss.length by omega))
   have hnew := lookS_new hk (show k < xss.length by omega)
   have u1 := h.2 k (by omega)
   refine .skip ?_
   refine hK6 _ _ ?_
   refine .seq (fun K7 hK7 => ?_)
   refine .block ?_
   refine .seq (fun K8 hK8 => ?_)
   refine .region (.m rfl rfl rfl (.move rfl) ?_)
   refine .m rfl rfl rfl (.idxN sl_23_B (Intss.sl (by assumption)) rfl rfl (by omega)) ?_
   refine .m rfl rfl rfl (.loadR on_22_B (by assumption) rfl (by omega)) ?_
   refine .m rfl rfl rfl (.assign rfl) (.m rfl rfl rfl (.assign rfl) (.nil ?_))
   refine hK8 _ _ ?_
   refine .region (.m rfl rfl rfl (.move rfl) (.m rfl rfl rfl (.move rfl) ?_))
   refine .r rfl rfl rfl (.litR rfl sl_23_B ze_22_E rfl rfl (by omega) (by omega) rfl rfl) ?_
   rintro _ H16 ⟨g16, rfl, le16, ge16, at16⟩
   have nx_H16 := le16.1
   replace hle := hle.trans le16
   replace lst1 := lst1.le le16
   replace at_L3 := le16.2 _ _ at_L3
   have lt_at16 := GHeap.lt_of_get at16
   replace h := base_h.mono hle
   clear u1
   have u1 := h.2 k (by omega)
   refine .callQ rfl rfl rfl rfl @Try.call96 rfl (key_c (xs := xss.getD k []) at16 u1 rfl (fun i hi => ho.2 i (by omega)) (by omega)) ?_
   refine .m rfl rfl rfl (.move rfl) ?_
   refine .r0 rfl rfl (.mapPutS rfl mps_117_Ke rfl rfl rfl (by assumption) (by assumption)) ?_
   rintro _ H5005 ⟨rfl, st5005, at5005⟩
   have nx_H5005 := st5005.nx
   replace hle := hle.st st5005 (fun k hk => ⟨by omega, trivial⟩)
   replace lst1 := lst1.st st5005 (fun k hk ho => by simp only [out, and_true] at ho ⊢ <;> first | exact ho | exact ho.1 | exact ho.2 | exact ho.2.1 | exact ho.2.2 | exact ho.2.2.1 | exact ho.2.2.2 | omega)
   have ne_g16_g6 : g16 ≠ g6 := by omega
   replace at16 := st5005.same _ _ ⟨ne_g16_g6, trivial⟩ at16
   have lt_at5005 := GHeap.lt_of_get at5005
   replace h := base_h.mono hle
   clear u1
   have u1 := h.2 k (by omega)
   refine .nil ?_
   refine hK7 _ _ ?_
   refine .region ?_
   refine .m rfl rfl rfl (.add rfl rfl rfl (by omega) (by omega)) ?_
   refine .m rfl rfl rfl (.move rfl) (.nil ?_)
   refine hKL1 (k + 1) _ _ ?_ ?_ ⟨rfl, rfl, rfl, rfl, trivial⟩
   ·
    refine ⟨lst1, by first | assumption | (rw [plE_succ]; assumption), ?_⟩
    omega
   omega
  try simp only [sps] at h10
  refine .exit ?_
  refine hK3 _ _ ?_
  refine .seq (fun K9 hK9 => ?_)
  refine .region (.m rfl rfl rfl (.move rfl) (.m rfl rfl rfl (.assign rfl) (.nil ?_)))
  refine hK9 _ _ ?_
  refine .ret ?_
  refine hret _ _ ?_
  refine ⟨_, rfl, ?_⟩
  obtain rfl : k = xss.length := by omega
  exact ⟨hle, g6, rfl, at_L3, by omega⟩
end Go.Proofs.Ytgnfekfdmgnhcaa
/- Quotients of categories: what a congruence is, said in two ways. No condition. -/
namespace Go.GL
/-- The first with k's label. -/
abbrev rep (xs : List Int) (k : Nat) : Nat := least (kerB xs) k
theorem rep_lab (xs : List Int) (k : Nat) : xs.getD (rep xs k) 0 = xs.getD k 0 := by
  have := (least_mate (kerB_eqv xs (k + 1)) (i := k) (by omega)).1
  unfold kerB at this
  exact eq_of_beq this
theorem rep_eq {xs : List Int} {a b : Nat} : rep xs a = rep xs b ↔ xs.getD a 0 = xs.getD b 0 := by
  have := least_congr_mate (kerB_eqv xs (a + b + 1)) (i := a) (j := b) (by omega) (by omega)
  rw [this]; simp [kerB]
theorem foldK_mono {a b : Nat} : ∀ {qs : List (Nat × Nat)} {K : Nat → Nat → Bool}, K a b = true → (qs.foldl (fun K p => stepK K p.1 p.2) K) a b = true
  | [], _, h => h
  | _ :: qs, _, h => foldK_mono (qs := qs) (by show stepK _ _ _ a b = true; unfold stepK; rw [h]; rfl)
theorem joinK_refl (ps : List (Nat × Nat)) (a : Nat) : joinK ps a a = true := foldK_mono (by simp)
theorem joinK_more {ps qs : List (Nat × Nat)} {a b : Nat} (h : joinK ps a b = true) : joinK (ps ++ qs) a b = true := by
  unfold joinK at h ⊢
  rw [List.foldl_append]
  exact foldK_mono h
theorem joinK_mem {ps : List (Nat × Nat)} {p : Nat × Nat} (h : p ∈ ps) : joinK ps p.1 p.2 = true := by
  obtain ⟨l, r, rfl⟩ := List.append_of_mem h
  rw [show l ++ p :: r = (l ++ [p]) ++ r by simp]
  refine joinK_more ?_
  rw [joinK_snoc]
  unfold stepK
  rw [joinK_refl, joinK_refl]
  simp
theorem foldK_sub {E : Nat → Nat → Bool} {n : Nat} (e : Eqv E n) : ∀ {qs : List (Nat × Nat)} {K : Nat → Nat → Bool}, (∀ a b, a < n → b < n → K a b = true → E a b = true) → (∀ p ∈ qs, p.1 < n ∧ p.2 < n ∧ E p.1 p.2 = true) →
    ∀ a b, a < n → b < n → (qs.foldl (fun K p => stepK K p.1 p.2) K) a b = true → E a b = true
  | [], _, hK, _ => hK
  | p :: qs, K, hK, h => foldK_sub e (qs := qs) (fun a b ha hb hs => by
      obtain ⟨h1, h2, h3⟩ := h p (by simp)
      unfold stepK at hs
      simp only [Bool.or_eq_true, Bool.and_eq_true] at hs
      rcases hs with (hs | ⟨k1, k2⟩) | ⟨k1, k2⟩
      · exact hK a b ha hb hs
      · exact e.tr a p.1 b ha h1 hb (hK _ _ ha h1 k1) (e.tr p.1 p.2 b h1 h2 hb h3 (hK _ _ h2 hb k2))
      · exact e.tr a p.2 b ha h2 hb (hK _ _ ha h2 k1) (e.tr p.2 p.1 b h2 h1 hb (e.sy _ _ h1 h2 h3) (hK _ _ h1 hb k2))) fun q hq => h q (by simp [hq])
theorem joinK_sub {E : Nat → Nat → Bool} {n : Nat} (e : Eqv E n) {ps : List (Nat × Nat)} (h : ∀ p ∈ ps, p.1 < n ∧ p.2 < n ∧ E p.1 p.2 = true) {a b : Nat} (ha : a < n) (hb : b < n) (hk : joinK ps a b = true) : E a b = true :=
  foldK_sub e (fun a b ha _ hs => by obtain rfl : a = b := by simpa using hs
                                     exact e.rf a ha) h a b ha hb hk
theorem foldK_root {n : Nat} : ∀ {qs : List (Nat × Nat)} {K : Nat → Nat → Bool} {j : List Int}, RootK j K n → (∀ p ∈ qs, p.1 < n ∧ p.2 < n) → ∃ j', RootK j' (qs.foldl (fun K p => stepK K p.1 p.2) K) n
  | [], _, j, hj, _ => ⟨j, hj⟩
  | p :: qs, _, _, hj, h => foldK_root (qs := qs) (hj.join (h p (by simp)).1 (h p (by simp)).2) fun q hq => h q (by simp [hq])
theorem joinK_eqv {n : Nat} {ps : List (Nat × Nat)} (h : ∀ p ∈ ps, p.1 < n ∧ p.2 < n) : Eqv (joinK ps) n := by
  obtain ⟨j, _, _, hk⟩ := foldK_root (qs := ps) (RootK.start (length_numsL n) fun i hi => numsL_get hi) h
  refine ⟨fun a _ => joinK_refl ps a, fun a b ha hb hab => ?_, fun a b c ha hb hc h1 h2 => ?_⟩
  · have h1 := (hk a b ha hb).trans hab
    have := (hk b a hb ha)
    refine this.symm.trans ?_
    simp only [beq_iff_eq] at h1 ⊢
    exact h1.symm
  · have k1 := (hk a b ha hb).trans h1
    have k2 := (hk b c hb hc).trans h2
    refine (hk a c ha hc).symm.trans ?_
    simp only [beq_iff_eq] at k1 k2 ⊢
    exact k1.trans k2
/-- Each number with the first one of its label. -/
def pairsL (xs : List Int) (m : Nat) : List (List Int) := (List.range m).map fun i => [(rep xs i : Int), (i : Int)]
@[simp] theorem length_pairsL (xs : List Int) (m : Nat) : (pairsL xs m).length = m := by simp [pairsL]
/-- a; b. -/
abbrev Cat.tn (c : Cat) (a b : Nat) : Nat := ((c.comp.getD a []).getD b 0).toNat
theorem Cat.Shape.tn {c : Cat} (h : c.Shape) {a b : Nat} (ha : a < c.src.length) (hb : b < c.src.length) (e : c.tgt.getD a 0 = c.src.getD b 0) :
    c.tn a b < c.src.length ∧ c.src.getD (c.tn a b) 0 = c.src.getD a 0 ∧ c.tgt.getD (c.tn a b) 0 = c.tgt.getD b 0 ∧ (c.comp.getD a []).getD b 0 = (c.tn a b : Int) := by
  have h1 := (Cat.Cell.pos e).1 (h.cell a (by have := h.cl; omega) b hb)
  obtain ⟨h2, h3, h4, h5⟩ := h1
  exact ⟨by unfold Cat.tn; omega, h4, h5, by unfold Cat.tn; omega⟩
/-- Labels of one class lie side by side. -/
def Cat.ParOk (c : Cat) (xs : List Int) : Prop := ∀ k, k < c.src.length → c.src.getD (rep xs k) 0 = c.src.getD k 0 ∧ c.tgt.getD (rep xs k) 0 = c.tgt.getD k 0
/-- The class of a composite is told by the classes of its parts. -/
def Cat.CmpOk (c : Cat) (xs : List Int) : Prop := ∀ i, i < c.src.length → ∀ j, j < c.src.length → c.tgt.getD i 0 = c.src.getD j 0 → xs.getD (c.tn i j) 0 = xs.getD (c.tn (rep xs i) (rep xs j)) 0
/-- A congruence. -/
structure Cat.Cong (c : Cat) (xs : List Int) : Prop where
  len : xs.length = c.src.length
  nor : clsL (kerB xs) xs.length = xs
  par : c.ParOk xs
  cmp : c.CmpOk xs

/-! ### The list of all that must be joined. -/
def Cat.quOk (c : Cat) (xs : List Int) (t : Nat × Nat × Nat) : Bool := decide (c.tgt.getD t.2.1 0 = c.src.getD (rep xs t.1) 0) && decide (c.tgt.getD (rep xs t.1) 0 = c.src.getD t.2.2 0)
def Cat.quRow (c : Cat) (xs : List Int) (t : Nat × Nat × Nat) : List Int := [(c.tn (c.tn t.2.1 (rep xs t.1)) t.2.2 : Int), (c.tn (c.tn t.2.1 t.1) t.2.2 : Int)]
def quT (n k i j : Nat) : List (Nat × Nat × Nat) := nest3 (fun a b d => (a, b, d)) (fun _ => n) (fun _ _ => n) k i j
def Cat.quL (c : Cat) (xs : List Int) (k i j : Nat) : List (List Int) := pairsL xs c.src.length ++ ((quT c.src.length k i j).filter (c.quOk xs)).map (c.quRow xs)
theorem Cat.quL_zero (c : Cat) (xs : List Int) : c.quL xs 0 0 0 = pairsL xs c.src.length := by simp [Cat.quL, quT, nest3_zero]
@[simp] theorem Cat.quL_len0 (c : Cat) (xs : List Int) : (c.quL xs 0 0 0).length = c.src.length := by rw [Cat.quL_zero, length_pairsL]
/-! ### The program's test. -/
/-- The first k labels are numbered in order. -/
def NorK (xs : List Int) (k : Nat) : Prop := ∀ i, i < k → xs.getD i 0 = clsAt (kerB xs) i
theorem NorK.zero (xs : List Int) : NorK xs 0 := fun i hi => by omega
theorem reps_lt_of {xs : List Int} {j k : Nat} (hj : least (kerB xs) j = j) (h : j < k) : reps (kerB xs) j < reps (kerB xs) k := by
  have h5 := reps_mono (K := kerB xs) (a := j + 1) h
  rw [reps_succ, if_pos hj] at h5
  omega
theorem NorK.old {xs : List Int} {k : Nat} (h : NorK xs k) (hl : least (kerB xs) k < k) : xs.getD k 0 = clsAt (kerB xs) k ∧ xs.getD k 0 < (reps (kerB xs) k : Int) := by
  have h1 := rep_lab xs k
  have h2 := h _ hl
  have hi := least_idem (kerB_eqv xs (k + 1)) (i := k) (by omega)
  have h3 := reps_lt_of (xs := xs) hi hl
  unfold clsAt at h2 ⊢
  rw [hi] at h2
  unfold rep at h1
  omega
theorem NorK.lo {xs : List Int} {k : Nat} (h : NorK xs k) (h0 : 0 ≤ xs.getD k 0) (h1 : xs.getD k 0 < (reps (kerB xs) k : Int)) : NorK xs (k + 1) ∧ reps (kerB xs) (k + 1) = reps (kerB xs) k := by
  obtain ⟨j, hj, hjj, hr, _⟩ := seenL_at (xs := xs) (i := k) (m := (xs.getD k 0).toNat) (by rw [length_seenL]; omega)
  have hx : xs.getD j 0 = xs.getD k 0 := by
    rw [h j hj]; unfold clsAt; rw [hjj]; omega
  have hlt : least (kerB xs) k < k := by
    have e : rep xs j = rep xs k := rep_eq.2 hx
    unfold rep at e
    omega
  refine ⟨fun i hi => ?_, by rw [reps_succ, if_neg (by omega)]; rfl⟩
  by_cases e : i < k
  · exact h i e
  · obtain rfl : i = k := by omega
    exact (h.old hlt).1
theorem NorK.hi {xs : List Int} {k : Nat} (h : NorK xs k) (h1 : xs.getD k 0 = (reps (kerB xs) k : Int)) : NorK xs (k + 1) ∧ reps (kerB xs) (k + 1) = reps (kerB xs) k + 1 := by
  have hk : least (kerB xs) k = k := by
    have := least_le (kerB xs) k
    refine Classical.byContradiction fun hne => ?_
    have := (h.old (by omega)).2
    omega
  refine ⟨fun i hi => ?_, by rw [reps_succ, if_pos hk]⟩
  by_cases e : i < k
  · exact h i e
  · obtain rfl : i = k := by omega
    unfold clsAt; rw [hk]; exact h1
end Go.GL
/- Quotients of categories: the quotient itself. No condition. -/
namespace Go.GL
/-- The first arrows of the classes among the first n. -/
def repL (xs : List Int) (n : Nat) : List Nat := (List.range n).filter fun i => rep xs i == i
/-- The quotient. -/
def Cat.quoX (c : Cat) (xs : List Int) (i j : Nat) : Int := if 0 ≤ (c.comp.getD i []).getD j 0 then xs.getD ((c.comp.getD i []).getD j 0).toNat 0 else (c.comp.getD i []).getD j 0
def Cat.quo (c : Cat) (xs : List Int) : Cat where
  obj := c.obj
  src := (repL xs xs.length).map fun i => c.src.getD i 0
  tgt := (repL xs xs.length).map fun i => c.tgt.getD i 0
  idn := c.idn.map fun a => xs.getD a.toNat 0
  comp := (repL xs xs.length).map fun i => (repL xs xs.length).map fun j => c.quoX xs i j

/-! ### Arrays that are filled from behind: the first one of each label stays. -/
def fromL (xs : List Int) (n e : Nat) (v : Int) : Option Nat := (List.range n).find? fun i => decide (e ≤ i) && xs.getD i 0 == v
def backL (xs : List Int) (f : Nat → Int) (m n e : Nat) : List Int := (List.range m).map fun (v : Nat) => match fromL xs n e v with | some i => f i | none => 0
@[simp] theorem length_backL (xs : List Int) (f : Nat → Int) (m n e : Nat) : (backL xs f m n e).length = m := by simp [backL]
end Go.GL
/- Rows of their own beside other blocks; tables that are filled row by row. No condition. -/
namespace Go.GL
/-- None of the first n rows lies in one of these blocks. -/
def Off (r : Nat → Option Addr) (n : Nat) (gs : List Nat) : Prop := ∀ i, i < n → ∀ g, r i = some ⟨g, 0, none⟩ → out gs g
theorem Off.nil (r : Nat → Option Addr) (n : Nat) : Off r n [] := fun _ _ _ _ => trivial
theorem Off.cons {r : Nat → Option Addr} {n g : Nat} {gs : List Nat} (h : ∀ i, i < n → r i ≠ some ⟨g, 0, none⟩) (h' : Off r n gs) : Off r n (g :: gs) := fun i hi k hk => ⟨fun e => h i hi (by rw [hk, e]), h' i hi k hk⟩
theorem Off.head {r : Nat → Option Addr} {n g : Nat} {gs : List Nat} (h : Off r n (g :: gs)) : ∀ i, i < n → r i ≠ some ⟨g, 0, none⟩ := fun i hi e => (h i hi g e).1 rfl
theorem Off.zero (r : Nat → Option Addr) (gs : List Nat) : Off r 0 gs := fun _ hi => by omega
theorem OwnRows.st {b k : Nat} {bs : List Nat} {H H' : GHeap} {e : TypeId} {r : Nat → Option Addr} {X : Nat → List Int} (h : OwnRows b H e r X k) (s : St bs H H') (ho : Off r k bs) : OwnRows b H' e r X k := ⟨fun i hi => by
  obtain ⟨x, h1, h2, h3⟩ := h.row i hi
  exact ⟨x, h1, h2, s.same x _ (ho i hi x h1) h3⟩, h.inj⟩
theorem OwnL.st {b : Nat} {bs : List Nat} {H H' : GHeap} {e : TypeId} {r : Nat → Option Addr} {xss : List (List Int)} (h : OwnL b H e r xss) (s : St bs H H') (ho : Off r xss.length bs) : OwnL b H' e r xss := OwnRows.st h s ho
theorem OwnL.ne {b g : Nat} {H : GHeap} {e : TypeId} {r : Nat → Option Addr} {xss : List (List Int)} (h : OwnL b H e r xss) (hg : H.next ≤ g) : ∀ i, i < xss.length → r i ≠ some ⟨g, 0, none⟩ := fun i hi e => by
  obtain ⟨x, h1, _, h3⟩ := h.row i hi
  rw [h1] at e
  cases e
  have := GHeap.lt_of_get h3
  omega
/-! ### Tables -/
/-- The first k of n lists are there. -/
def fillS (r : Nat → Option Addr) (n k : Nat) : List Value := (List.range n).map fun i => if i < k then .slice (r i) n n else .slice none 0 0
@[simp] theorem length_fillS (r : Nat → Option Addr) (n k : Nat) : (fillS r n k).length = n := by simp [fillS]
/-- A list filled from the front. -/
def fillI (c : Nat → Int) (n k : Nat) : List Int := (List.range n).map fun i => if i < k then c i else 0
@[simp] theorem length_fillI (c : Nat → Int) (n k : Nat) : (fillI c n k).length = n := by simp [fillI]
/-- A table of composites: -1 where the ends do not meet. -/
def tabC (src tgt : List Int) (X : Nat → Nat → Int) (i j : Nat) : Int := if tgt.getD i 0 = src.getD j 0 then X i j else -1
def tabR (src tgt : List Int) (X : Nat → Nat → Int) (n i : Nat) : List Int := (List.range n).map (tabC src tgt X i)
@[simp] theorem length_tabR (src tgt : List Int) (X : Nat → Nat → Int) (n i : Nat) : (tabR src tgt X n i).length = n := by simp [tabR]
end Go.GL
/- Quotients of categories: the first arrows as numbers, and the result. No condition. -/
namespace Go.GL
def repI (xs : List Int) (n : Nat) : List Int := (repL xs n).map fun (i : Nat) => (i : Int)
@[simp] theorem length_repI (xs : List Int) (n : Nat) : (repI xs n).length = (repL xs n).length := by simp [repI]
theorem NorK.lt {xs : List Int} {n k : Nat} (h : NorK xs n) (hk : k < n) : xs.getD k 0 < (reps (kerB xs) n : Int) := by
  rw [h k hk]
  unfold clsAt
  have := reps_lt_of (least_idem (kerB_eqv xs n) hk) (Nat.lt_of_le_of_lt (least_le (kerB xs) k) hk)
  omega
end Go.GL
/- Rows of truth values, made and written in place; parts that connectives make. No condition. -/
namespace Go.GL
def tabB (n : Nat) (p : Nat → Bool) : List Bool := (List.range n).map p
@[simp] theorem length_tabB (n : Nat) (p : Nat → Bool) : (tabB n p).length = n := by simp [tabB]
theorem tabB_congr {n : Nat} {p q : Nat → Bool} (h : ∀ i, i < n → p i = q i) : tabB n p = tabB n q := List.map_congr_left fun i hi => h i (List.mem_range.1 hi)
/-- Slices of whole rows. -/
def slsN (r : Nat → Nat) (L : Nat → Nat) (k : Nat) : List Value := (List.range k).map fun i => .slice (some ⟨r i, 0, none⟩) (L i) (L i)
@[simp] theorem length_slsN (r : Nat → Nat) (L : Nat → Nat) (k : Nat) : (slsN r L k).length = k := by simp [slsN]
def updN (r : Nat → Nat) (k g : Nat) : Nat → Nat := fun i => if i = k then g else r i
theorem updN_eq (r : Nat → Nat) (k g : Nat) : updN r k g k = g := by simp [updN]
theorem updN_ne {r : Nat → Nat} {k i g : Nat} (h : i ≠ k) : updN r k g i = r i := by simp [updN, h]
/-- Rows of elements of type e live on. -/
def LastsV (e : TypeId) (H H' : GHeap) : Prop := ∀ x cs, H.get x = some (.row cs e true) → H'.get x = some (.row cs e true)
theorem LastsV.trans {e : TypeId} {A B C : GHeap} (h : LastsV e A B) (h' : LastsV e B C) : LastsV e A C := fun x xs hx => h' x xs (h x xs hx)
theorem LastsV.of_le {e : TypeId} {H H' : GHeap} (h : H.Le H') : LastsV e H H' := fun x cs hx => h.2 x _ hx
/-- Rows of truth values, no two alike; L: their lengths, M: what they hold. -/
structure OwnB (b : Nat) (H : GHeap) (e : TypeId) (r : Nat → Nat) (L : Nat → Nat) (M : Nat → Nat → Bool) (k : Nat) : Prop where
  row : ∀ i, i < k → b ≤ r i ∧ H.get (r i) = some (.row (bools (tabB (L i) (M i))) e true)
  inj : ∀ i j, i < k → j < k → r i = r j → i = j
theorem OwnB.zero (b : Nat) (H : GHeap) (e : TypeId) (r : Nat → Nat) (L : Nat → Nat) (M : Nat → Nat → Bool) : OwnB b H e r L M 0 := ⟨fun i hi => by omega, fun i j hi => by omega⟩
theorem OwnB.keep {b k : Nat} {H H' : GHeap} {e : TypeId} {r : Nat → Nat} {L : Nat → Nat} {M : Nat → Nat → Bool} (h : OwnB b H e r L M k) (s : LastsV e H H') : OwnB b H' e r L M k := ⟨fun i hi => ⟨(h.row i hi).1, s _ _ (h.row i hi).2⟩, h.inj⟩
theorem OwnB.succ {b g k : Nat} {H H' : GHeap} {e : TypeId} {r : Nat → Nat} {L : Nat → Nat} {M : Nat → Nat → Bool} (h : OwnB b H e r L M k) (s : LastsV e H H')
    (hg : H'.get g = some (.row (bools (tabB (L k) (M k))) e true)) (hn : H.next ≤ g) (hb : b ≤ g) : OwnB b H' e (updN r k g) L M (k + 1) := by
  have lt : ∀ i, i < k → r i < g := fun i hi => Nat.lt_of_lt_of_le (GHeap.lt_of_get (h.row i hi).2) hn
  refine ⟨fun i hi => ?_, fun i j hi hj hij => ?_⟩
  · by_cases ek : i = k
    · subst ek; rw [updN_eq]; exact ⟨hb, hg⟩
    · rw [updN_ne ek]; exact ⟨(h.row i (by omega)).1, s _ _ (h.row i (by omega)).2⟩
  · by_cases ei : i = k
    · by_cases ej : j = k
      · omega
      · subst ei
        rw [updN_eq, updN_ne ej] at hij
        have := lt j (by omega)
        omega
    · by_cases ej : j = k
      · subst ej
        rw [updN_eq, updN_ne ei] at hij
        have := lt i (by omega)
        omega
      · rw [updN_ne ei, updN_ne ej] at hij
        exact h.inj i j (by omega) (by omega) hij
/-- A row is written to. -/
theorem OwnB.put {b k i : Nat} {H H' : GHeap} {e : TypeId} {r : Nat → Nat} {L : Nat → Nat} {M M' : Nat → Nat → Bool} (h : OwnB b H e r L M k) (hi : i < k) (s : St [r i] H H') (hg : H'.get (r i) = some (.row (bools (tabB (L i) (M' i))) e true))
    (hM : ∀ j, j < k → j ≠ i → ∀ d, d < L j → M' j d = M j d) : OwnB b H' e r L M' k := ⟨fun j hj => by
  by_cases ej : j = i
  · subst ej; exact ⟨(h.row j hj).1, hg⟩
  · refine ⟨(h.row j hj).1, ?_⟩
    rw [tabB_congr (hM j hj ej)]
    exact s.same _ _ ⟨fun er => ej (h.inj j i hj hi er), trivial⟩ (h.row j hj).2, h.inj⟩
theorem OwnB.congr {b k : Nat} {H : GHeap} {e : TypeId} {r : Nat → Nat} {L : Nat → Nat} {M M' : Nat → Nat → Bool} (h : OwnB b H e r L M k) (hM : ∀ j, j < k → ∀ d, d < L j → M' j d = M j d) : OwnB b H e r L M' k :=
  ⟨fun j hj => ⟨(h.row j hj).1, by rw [tabB_congr (hM j hj)]; exact (h.row j hj).2⟩, h.inj⟩
/-- A list of lists of truth values. -/
structure BMat (b : Nat) (H : GHeap) (g : Nat) (e1 e2 : TypeId) (r : Nat → Nat) (L : Nat → Nat) (M : Nat → Nat → Bool) (n : Nat) : Prop where
  hd : H.get g = some (.row (slsN r L n) e1 true)
  gb : b ≤ g
  own : OwnB b H e2 r L M n
theorem BMat.keep {b b' n g : Nat} {H H' : GHeap} {e1 e2 : TypeId} {r : Nat → Nat} {L : Nat → Nat} {M : Nat → Nat → Bool} (h : BMat b H g e1 e2 r L M n) (k : Keep b' H H') (hb : b' ≤ b) : BMat b' H' g e1 e2 r L M n :=
  ⟨k _ _ (by have := h.gb; omega) h.hd, by have := h.gb; omega, fun i hi => ⟨by have := (h.own.row i hi).1; omega, k _ _ (by have := (h.own.row i hi).1; omega) (h.own.row i hi).2⟩, h.own.inj⟩
theorem BMat.mono {b n g : Nat} {H H' : GHeap} {e1 e2 : TypeId} {r : Nat → Nat} {L : Nat → Nat} {M : Nat → Nat → Bool} (h : BMat b H g e1 e2 r L M n) (hle : H.Le H') : BMat b H' g e1 e2 r L M n :=
  ⟨hle.2 _ _ h.hd, h.gb, fun i hi => ⟨(h.own.row i hi).1, hle.2 _ _ (h.own.row i hi).2⟩, h.own.inj⟩
theorem BMat.congr {b n g : Nat} {H : GHeap} {e1 e2 : TypeId} {r : Nat → Nat} {L : Nat → Nat} {M M' : Nat → Nat → Bool} (h : BMat b H g e1 e2 r L M n) (hM : ∀ j, j < n → ∀ d, d < L j → M' j d = M j d) : BMat b H g e1 e2 r L M' n := ⟨h.hd, h.gb, h.own.congr hM⟩
theorem BMat.row {b n g i : Nat} {H : GHeap} {e1 e2 : TypeId} {r : Nat → Nat} {L : Nat → Nat} {M : Nat → Nat → Bool} (h : BMat b H g e1 e2 r L M n) (hi : i < n) : Bools H (some ⟨r i, 0, none⟩) (tabB (L i) (M i)) := Bools.of_get (h.own.row i hi).2
/-- Two matrices, the second made behind the first: no row of the one is one of the other. -/
theorem BMat.lt {b n g i : Nat} {H : GHeap} {e1 e2 : TypeId} {r : Nat → Nat} {L : Nat → Nat} {M : Nat → Nat → Bool} (h : BMat b H g e1 e2 r L M n) : g < H.next ∧ (i < n → r i < H.next) := ⟨GHeap.lt_of_get h.hd, fun hi => GHeap.lt_of_get (h.own.row i hi).2⟩
theorem BMat.sl {b n g : Nat} {H : GHeap} {e1 e2 : TypeId} {r : Nat → Nat} {L : Nat → Nat} {M : Nat → Nat → Bool} (h : BMat b H g e1 e2 r L M n) : SlA H (some ⟨g, 0, none⟩) n (fun i => .slice (some ⟨r i, 0, none⟩) (L i) (L i)) :=
  .inr ⟨g, 0, rfl, fun i hi => by rw [GHeap.cell_of h.hd, Nat.zero_add]; simp [slsN, hi]⟩
theorem BMat.put {b n g i : Nat} {H H' : GHeap} {e1 e2 : TypeId} {r : Nat → Nat} {L : Nat → Nat} {M M' : Nat → Nat → Bool} (h : BMat b H g e1 e2 r L M n) (hi : i < n) (s : St [r i] H H') (hg : H'.get (r i) = some (.row (bools (tabB (L i) (M' i))) e2 true))
    (hM : ∀ j, j < n → j ≠ i → ∀ d, d < L j → M' j d = M j d) (hne : (e1 != e2) = true) : BMat b H' g e1 e2 r L M' n := ⟨by
    simp only [bne_iff_ne, ne_eq] at hne
    refine s.same _ _ ⟨fun ex => ?_, trivial⟩ h.hd
    have h1 := h.hd
    rw [ex, (h.own.row i hi).2] at h1
    injection h1 with h1
    injection h1 with _ h1 _
    exact hne h1.symm, h.gb, h.own.put hi s hg hM⟩
/-- Another matrix of rows of its own stays when a row of this one is written to. -/
theorem BMat.st {b n g k : Nat} {H H' : GHeap} {e1 e2 : TypeId} {r : Nat → Nat} {L : Nat → Nat} {M : Nat → Nat → Bool} (h : BMat b H g e1 e2 r L M n) (s : St [k] H H') (hlt : k < b) : BMat b H' g e1 e2 r L M n :=
  ⟨s.same _ _ ⟨by have := h.gb; omega, trivial⟩ h.hd, h.gb, fun i hi => ⟨(h.own.row i hi).1, s.same _ _ ⟨by have := (h.own.row i hi).1; omega, trivial⟩ (h.own.row i hi).2⟩, h.own.inj⟩
end Go.GL
/- Isomorphism classes of objects, skeletons, parts of categories: plain laws. No condition. -/
namespace Go.GL
theorem Cat.inv_mate {c : Cat} {f : Nat} (hS : c.Shape) (hf : f < c.src.length) (h : 0 ≤ c.inv f) : c.Alike (c.tgt.getD f 0) (c.src.getD f 0) := by
  unfold Cat.inv at h
  rw [Int.toNat_natCast] at h
  obtain ⟨g, hg, hb⟩ := (firstIn_ge (fun g hg => by obtain ⟨f, _, _, _, rfl⟩ := Cat.mem_hom.1 hg; omega)).1 h
  refine ⟨g, hg, ?_⟩
  obtain ⟨k, k1, k2, k3, rfl⟩ := Cat.mem_hom.1 hg
  unfold Cat.inv
  rw [Int.toNat_natCast, k2, k3]
  refine (firstIn_ge (fun g hg => by obtain ⟨f, _, _, _, rfl⟩ := Cat.mem_hom.1 hg; omega)).2 ⟨f, Cat.mem_hom.2 ⟨f, hf, rfl, rfl, rfl⟩, ?_⟩
  simp only [Cat.invB, sps, Int.toNat_natCast] at hb ⊢
  rw [k2, k3]
  exact ⟨hb.2, hb.1⟩
theorem Cat.Alike.symm {c : Cat} {x y : Int} (hS : c.Shape) (h : c.Alike x y) : c.Alike y x := by
  obtain ⟨g, hg, hi⟩ := h
  obtain ⟨k, k1, k2, k3, rfl⟩ := Cat.mem_hom.1 hg
  have := Cat.inv_mate hS k1 hi
  rwa [k2, k3] at this
/-! ### The first of each class. -/
/-- The arrows between objects. -/
def Cat.among (c : Cat) (os : List Int) : List Int := filtN c.src.length fun f => os.contains (c.src.getD f 0) && os.contains (c.tgt.getD f 0)
/-! ### Parts. -/
def Cat.partO (c : Cat) (xs : List Int) : List Int := filtN c.obj.toNat fun x => xs.contains (c.idn.getD x 0)
def Cat.partR (c : Cat) (xs : List Int) (f : Int) : List Int := xs.map fun g => idxL xs (c.th f g)
def Cat.part (c : Cat) (xs : List Int) : Cat where
  obj := ((c.partO xs).length : Int)
  src := xs.map fun f => idxL (c.partO xs) (c.src.getD f.toNat 0)
  tgt := xs.map fun f => idxL (c.partO xs) (c.tgt.getD f.toNat 0)
  idn := (c.partO xs).map fun x => idxL xs (c.idn.getD x.toNat 0)
  comp := xs.map fun f => c.partR xs f
structure Cat.Closed (c : Cat) (xs : List Int) : Prop where
  filt : ∃ P, xs = filtN c.src.length P
  id : ∀ f ∈ xs, c.idn.getD (c.src.getD f.toNat 0).toNat 0 ∈ xs ∧ c.idn.getD (c.tgt.getD f.toNat 0).toNat 0 ∈ xs
  th : ∀ f ∈ xs, ∀ g ∈ xs, 0 ≤ c.th f g → c.th f g ∈ xs
theorem Cat.Closed.lt {c : Cat} {xs : List Int} (h : c.Closed xs) : ∀ f ∈ xs, 0 ≤ f ∧ f < c.src.length := fun f hf => by
  obtain ⟨P, rfl⟩ := h.filt
  obtain ⟨i, h1, _, rfl⟩ := mem_filtN.1 hf
  omega
theorem Cat.Closed.len {c : Cat} {xs : List Int} (h : c.Closed xs) : xs.length ≤ c.src.length := by
  obtain ⟨P, rfl⟩ := h.filt
  exact filtN_le _ _
end Go.GL
/- Parts of categories: the arrays that are filled on the way, and the skeleton as a result. No condition. -/
namespace Go.GL
theorem filtN_nodup (n : Nat) (P : Nat → Bool) : (filtN n P).Nodup := by
  unfold filtN
  exact List.pairwise_map.2 ((List.nodup_range.sublist List.filter_sublist).imp fun h e => h (by omega))
theorem nodup_getD {xs : List Int} (hn : xs.Nodup) {i j : Nat} (hi : i < xs.length) (hj : j < xs.length) (h : xs.getD i 0 = xs.getD j 0) : i = j := by
  rw [List.getD_eq_getElem?_getD, List.getD_eq_getElem?_getD, List.getElem?_eq_getElem hi, List.getElem?_eq_getElem hj] at h
  exact (List.getElem_inj hn).1 (by simpa using h)
/-! ### The numbers of arrows. -/
def numF (xs : List Int) (m i : Nat) : List Int := (List.range m).map fun (v : Nat) => if (v : Int) ∈ xs.take i then idxL xs v else 0
@[simp] theorem length_numF (xs : List Int) (m i : Nat) : (numF xs m i).length = m := by simp [numF]
/-! ### The places of objects. -/
abbrev Cat.hasId (c : Cat) (xs : List Int) (x : Nat) : Bool := xs.contains (c.idn.getD x 0)
def Cat.plF (c : Cat) (xs : List Int) (n k : Nat) : List Int := (List.range n).map fun (x : Nat) => if x < k ∧ c.hasId xs x = true then ((filtN x (c.hasId xs)).length : Int) else 0
@[simp] theorem Cat.length_plF (c : Cat) (xs : List Int) (n k : Nat) : (c.plF xs n k).length = n := by simp [Cat.plF]
/-! ### Rows and lists that grow. -/
theorem Cat.Closed.has {c : Cat} {xs : List Int} (h : c.Closed xs) {f : Int} (hf : f ∈ xs) (hS : c.Shape) : (0 ≤ c.src.getD f.toNat 0 ∧ c.src.getD f.toNat 0 < c.obj ∧ c.idn.getD (c.src.getD f.toNat 0).toNat 0 ∈ xs) ∧ 0 ≤ c.tgt.getD f.toNat 0 ∧ c.tgt.getD f.toNat 0 < c.obj ∧ c.idn.getD (c.tgt.getD f.toNat 0).toNat 0 ∈ xs := by
  have b := h.lt f hf
  have s1 := hS.src f.toNat (by omega)
  have s2 := hS.tgt f.toNat (by have := hS.tl; omega)
  have hi := h.id f hf
  exact ⟨⟨s1.1, s1.2, hi.1⟩, s2.1, s2.2, hi.2⟩
end Go.GL
/- Classes of left extensions: the same pairs told in two ways. No condition. -/
namespace Go.GL
theorem mem_nest3 {α : Type} {pr : Nat → Nat → Nat → α} {s1 : Nat → Nat} {s2 : Nat → Nat → Nat} {k a b t : Nat} (ha : a < k) (hb : b < s1 a) (ht : t < s2 a b) : pr a b t ∈ nest3 pr s1 s2 k 0 0 := by
  unfold nest3 nestL
  refine List.mem_append.2 (.inl (List.mem_flatMap.2 ⟨a, List.mem_range.2 ha, List.mem_append.2 (.inl (List.mem_flatMap.2 ⟨b, List.mem_range.2 hb, List.mem_map.2 ⟨t, List.mem_range.2 ht, rfl⟩⟩))⟩))
theorem nest3_nodup {α : Type} {pr : Nat → Nat → Nat → α} {s1 : Nat → Nat} {s2 : Nat → Nat → Nat} {k : Nat} (h : ∀ a b t a' b' t', a < k → b < s1 a → t < s2 a b → a' < k → b' < s1 a' → t' < s2 a' b' → pr a b t = pr a' b' t' → a = a' ∧ b = b' ∧ t = t') : (nest3 pr s1 s2 k 0 0).Nodup := by
  unfold nest3 nestL
  simp only [List.range_zero, List.map_nil, List.append_nil, List.flatMap_nil]
  refine List.pairwise_flatMap.2 ⟨fun a ha => List.pairwise_flatMap.2 ⟨fun b hb => List.pairwise_map.2 ?_, ?_⟩, ?_⟩
  · exact List.nodup_range.imp_of_mem fun {t t'} ht ht' hne e => hne (h a b t a b t' (List.mem_range.1 ha) (List.mem_range.1 hb) (List.mem_range.1 ht) (List.mem_range.1 ha) (List.mem_range.1 hb) (List.mem_range.1 ht') e).2.2
  · refine List.nodup_range.imp_of_mem fun {b b'} hb hb' hne x hx y hy e => ?_
    obtain ⟨t, ht, rfl⟩ := List.mem_map.1 hx
    obtain ⟨t', ht', rfl⟩ := List.mem_map.1 hy
    exact hne (h a b t a b' t' (List.mem_range.1 ha) (List.mem_range.1 hb) (List.mem_range.1 ht) (List.mem_range.1 ha) (List.mem_range.1 hb') (List.mem_range.1 ht') e).2.1
  · refine List.nodup_range.imp_of_mem fun {a a'} ha ha' hne x hx y hy e => ?_
    obtain ⟨b, hb, hx⟩ := List.mem_flatMap.1 hx
    obtain ⟨b', hb', hy⟩ := List.mem_flatMap.1 hy
    obtain ⟨t, ht, rfl⟩ := List.mem_map.1 hx
    obtain ⟨t', ht', rfl⟩ := List.mem_map.1 hy
    exact hne (h a b t a' b' t' (List.mem_range.1 ha) (List.mem_range.1 hb) (List.mem_range.1 ht) (List.mem_range.1 ha') (List.mem_range.1 hb') (List.mem_range.1 ht') e).1
/-- The same pairs make the same classes. -/
theorem joinL_same {n : Nat} {ps qs : List (Nat × Nat)} (hp : ∀ p ∈ ps, p.1 < n ∧ p.2 < n) (hq : ∀ p ∈ qs, p.1 < n ∧ p.2 < n) (h : ∀ p, p ∈ ps ↔ p ∈ qs) : joinL n ps = joinL n qs := by
  unfold joinL
  refine clsL_congr fun a b ha hb => ?_
  rw [Bool.eq_iff_iff]
  exact ⟨joinK_sub (joinK_eqv hq) (fun p hp' => ⟨(hp p hp').1, (hp p hp').2, joinK_mem ((h p).1 hp')⟩) ha hb, joinK_sub (joinK_eqv hp) (fun p hp' => ⟨(hq p hp').1, (hq p hp').2, joinK_mem ((h p).2 hp')⟩) ha hb⟩
structure LcOk (k : Fun) (f : SFun) : Prop where
  hk : k.Is
  hf : f.Is
  he : f.sh = k.s
def lcE (k : Fun) (f : SFun) (y : Int) : List (List Int) := leL k f y k.ob.length 0 0
theorem lcE_mem {k : Fun} {f : SFun} {y : Int} {x e : Nat} {h : Int} (hx : x < k.ob.length) (hh : h ∈ k.t.hom (k.ob.getD x 0) y) (he : (e : Int) < f.sz.getD x 0) : [(x : Int), h, (e : Int)] ∈ lcE k f y := by
  obtain ⟨i, hi, e1⟩ := List.getElem_of_mem hh
  have := mem_nest3 (pr := lePr k y) (s1 := fun x => (k.t.hom (k.ob.getD x 0) y).length) (s2 := fun x _ => (f.sz.getD x 0).toNat) hx hi (t := e) (by omega)
  unfold lePr at this
  rw [List.getD_eq_getElem?_getD (l := k.t.hom _ _), List.getElem?_eq_getElem hi, e1] at this
  exact this
theorem lcE_keys {k : Fun} {f : SFun} {y : Int} (o : LcOk k f) : Keys 3 (lcE k f y) := by
  have b1 := o.hk.2.1.1.n40
  have b2 := o.hk.1.1.obj
  have b3 := o.hk.2.2.ol
  refine ⟨nest3_nodup fun a b t a' b' t' ha hb ht ha' hb' ht' e => ?_, fun t ht => ?_⟩
  · unfold lePr at e
    simp only [List.cons.injEq, and_true] at e
    obtain ⟨e1, e2, e3⟩ := e
    obtain rfl : a = a' := by omega
    exact ⟨rfl, nodup_getD (filtN_nodup _ _) hb hb' e2, by omega⟩
  · obtain ⟨x, i, e, h1, h2, h3, rfl⟩ := nest3_mem ht
    have q1 := o.hf.1.sz x (by have := leLen o.hk o.hf o.he; omega)
    obtain ⟨z, z1, _, _, z4⟩ := Cat.hom_get h2
    refine ⟨rfl, fun i hi => ?_⟩
    match i, hi with
    | 0, _ => show 0 ≤ (x : Int) ∧ (x : Int) ≤ 255; omega
    | 1, _ => show 0 ≤ (k.t.hom _ _).getD _ 0 ∧ (k.t.hom _ _).getD _ 0 ≤ 255; rw [z4]; omega
    | 2, _ => show 0 ≤ (e : Int) ∧ (e : Int) ≤ 255; omega
structure LcA (k : Fun) (f : SFun) (y : Int) (a : Nat) : Prop where
  s0 : 0 ≤ k.s.src.getD a 0
  s1 : k.s.src.getD a 0 < k.ob.length
  t0 : 0 ≤ k.s.tgt.getD a 0
  t1 : k.s.tgt.getD a 0 < k.ob.length
  al : ((f.ac.getD a []).length : Int) = f.sz.getD (k.s.src.getD a 0).toNat 0
  zs : f.sz.getD (k.s.src.getD a 0).toNat 0 ≤ 16
  ac : ∀ e, e < (f.ac.getD a []).length → 0 ≤ (f.ac.getD a []).getD e 0 ∧ (f.ac.getD a []).getD e 0 < f.sz.getD (k.s.tgt.getD a 0).toNat 0
  r0 : 0 ≤ k.ar.getD a 0
  r1 : k.ar.getD a 0 < k.t.src.length
  th : ∀ h, h ∈ k.t.hom (k.ob.getD (k.s.tgt.getD a 0).toNat 0) y → (0 ≤ h ∧ h < k.t.src.length) ∧ k.t.th (k.ar.getD a 0) h ∈ k.t.hom (k.ob.getD (k.s.src.getD a 0).toNat 0) y
theorem LcOk.len {k : Fun} {f : SFun} (o : LcOk k f) : f.sz.length = k.ob.length ∧ f.ac.length = k.s.src.length ∧ k.ar.length = k.s.src.length ∧ k.s.tgt.length = k.s.src.length ∧ k.s.src.length ≤ 40 ∧ k.ob.length ≤ 8 ∧ (k.s.obj = k.ob.length) := by
  have h1 := leLen o.hk o.hf o.he
  have h2 := o.hf.1.al
  rw [o.he] at h2
  have h3 := o.hk.2.2.al
  have h4 := o.hk.1.1.tl
  have h5 := o.hk.1.1.n40
  have h6 := o.hk.2.2.ol
  have h7 := o.hk.1.1.obj
  omega
theorem LcOk.arrow {k : Fun} {f : SFun} {y : Int} (o : LcOk k f) {a : Nat} (ha : a < k.s.src.length) : LcA k f y a := by
  obtain ⟨l1, l2, l3, l4, _, _, _⟩ := o.len
  have q := o.hf.1.ends (a := a) (by rw [o.he]; exact ha)
  have act := fun e => o.hf.1.act (a := a) (e := e) (by omega)
  rw [o.he] at q act
  have hz := o.hf.1.sz (k.s.src.getD a 0).toNat (by omega)
  have r := o.hk.arr (a := a) (by omega)
  refine ⟨q.1, by omega, q.2.2.1, by omega, q.2.2.2.2, hz.2, act, r.2.2.2.2.1, r.2.2.2.2.2.1, fun h hh => ?_⟩
  obtain ⟨z, z1, z2, z3, rfl⟩ := Cat.mem_hom.1 hh
  have hS := o.hk.2.1.1
  have hc := (Cat.Cell.pos (f := (k.ar.getD a 0).toNat) (g := z) (by rw [r.2.2.2.2.2.2.2, z2])).1 (hS.cell _ (by have := hS.cl; omega) z z1)
  rw [← Cat.th_nat, show (((k.ar.getD a 0).toNat : Nat) : Int) = k.ar.getD a 0 by omega] at hc
  refine ⟨by omega, Cat.mem_hom.2 ⟨(k.t.th (k.ar.getD a 0) z).toNat, by omega, ?_, ?_, by omega⟩⟩
  · rw [hc.2.2.1]; exact r.2.2.2.2.2.2.1
  · rw [hc.2.2.2]; exact z3
/-- The entry that goes along arrow a, ahead of it and behind it. -/
def lcT (k : Fun) (a : Nat) (h : Int) (e : Nat) : List Int := [k.s.src.getD a 0, k.t.th (k.ar.getD a 0) h, (e : Int)]
def lcU (k : Fun) (f : SFun) (a : Nat) (h : Int) (e : Nat) : List Int := [k.s.tgt.getD a 0, h, (f.ac.getD a []).getD e 0]
theorem LcOk.two {k : Fun} {f : SFun} {y : Int} (o : LcOk k f) {a e : Nat} {h : Int} (ha : a < k.s.src.length) (hh : h ∈ k.t.hom (k.ob.getD (k.s.tgt.getD a 0).toNat 0) y) (he : e < (f.ac.getD a []).length) : lcT k a h e ∈ lcE k f y ∧ lcU k f a h e ∈ lcE k f y := by
  have q := o.arrow (y := y) ha
  obtain ⟨a0, a1, a2, a3, a4, _, a6, _, _, a9⟩ := q
  have h6 := a6 e he
  constructor
  · have := lcE_mem (k := k) (f := f) (y := y) (x := (k.s.src.getD a 0).toNat) (e := e) (by omega) (a9 h hh).2 (by omega)
    rwa [show (((k.s.src.getD a 0).toNat : Nat) : Int) = k.s.src.getD a 0 by omega] at this
  · have := lcE_mem (k := k) (f := f) (y := y) (x := (k.s.tgt.getD a 0).toNat) (e := ((f.ac.getD a []).getD e 0).toNat) (by omega) hh (by omega)
    rwa [show (((k.s.tgt.getD a 0).toNat : Nat) : Int) = k.s.tgt.getD a 0 by omega, show ((((f.ac.getD a []).getD e 0).toNat : Nat) : Int) = (f.ac.getD a []).getD e 0 by omega] at this
def lcPr (k : Fun) (f : SFun) (y : Int) (a i e : Nat) : Nat × Nat := ((idxLL (lcE k f y) (lcT k a ((k.t.hom (k.ob.getD (k.s.tgt.getD a 0).toNat 0) y).getD i 0) e)).toNat, (idxLL (lcE k f y) (lcU k f a ((k.t.hom (k.ob.getD (k.s.tgt.getD a 0).toNat 0) y).getD i 0) e)).toNat)
theorem flatten_le {α : Type} : ∀ {l : List (List α)}, (∀ x ∈ l, x.length ≤ 1) → l.flatten.length ≤ l.length
  | [], _ => by simp
  | x :: l, h => by
    have h1 := h x (by simp)
    have h2 := flatten_le (l := l) fun y hy => h y (by simp [hy])
    rw [List.flatten_cons, List.length_append, List.length_cons]
    omega
/-- Where both entries of a pair lie. -/
theorem LcOk.pr {k : Fun} {f : SFun} {y : Int} (o : LcOk k f) {a i e : Nat} (ha : a < k.s.src.length) (hi : i < (k.t.hom (k.ob.getD (k.s.tgt.getD a 0).toNat 0) y).length) (he : e < (f.ac.getD a []).length) : (lcPr k f y a i e).1 < (lcE k f y).length ∧ (lcPr k f y a i e).2 < (lcE k f y).length ∧ 0 ≤ idxLL (lcE k f y) (lcT k a ((k.t.hom (k.ob.getD (k.s.tgt.getD a 0).toNat 0) y).getD i 0) e) ∧ 0 ≤ idxLL (lcE k f y) (lcU k f a ((k.t.hom (k.ob.getD (k.s.tgt.getD a 0).toNat 0) y).getD i 0) e) := by
  obtain ⟨h1, h2⟩ := o.two ha (getD_mem hi) he
  obtain ⟨u, u1, _, u3⟩ := idxLL_mem (lcE_keys o).nd h1
  obtain ⟨v, v1, _, v3⟩ := idxLL_mem (lcE_keys o).nd h2
  unfold lcPr
  rw [u3, v3]
  exact ⟨by simpa using u1, by simpa using v1, by omega, by omega⟩
end Go.GL
/- Classes of left extensions. No condition but those of each statement. -/
namespace Go.Proofs.Ytgnfekfdmgnhcaa
open Go Go.GL Go.RowKit Go.Proofs
end Go.Proofs.Ytgnfekfdmgnhcaa
/- Glued generators: the same pairs told in two ways. No condition. -/
namespace Go.GL
def glPr (f : SFun) (y : Int) (x e i : Nat) : List Int := [(x : Int), (e : Int), (f.sh.hom (x : Int) y).getD i 0]
def glL (f : SFun) (y : Int) (x e i : Nat) : List (List Int) := nest3 (glPr f y) (fun x => (f.sz.getD x 0).toNat) (fun x _ => (f.sh.hom (x : Int) y).length) x e i
def glE (f : SFun) (y : Int) : List (List Int) := glL f y f.sz.length 0 0
theorem glL_snoc {f : SFun} {y : Int} {x e i : Nat} : glL f y x e (i + 1) = glL f y x e i ++ [glPr f y x e i] := nest3_snoc
theorem glL_next2 {f : SFun} {y : Int} {x e : Nat} : glL f y x (e + 1) 0 = glL f y x e (f.sh.hom (x : Int) y).length := nest3_next2
theorem glL_next1 {f : SFun} {y : Int} {x : Nat} : glL f y (x + 1) 0 0 = glL f y x (f.sz.getD x 0).toNat 0 := nest3_next1
theorem SFun.Is.nums {f : SFun} (h : f.Is) : f.ac.length = f.sh.src.length ∧ f.sh.tgt.length = f.sh.src.length ∧ f.sh.src.length ≤ 40 ∧ f.sz.length ≤ 8 ∧ f.sh.obj = f.sz.length := by
  have h2 := h.1.al
  have h4 := h.1.c.1.tl
  have h5 := h.1.c.1.n40
  have h6 := h.1.zl
  have h7 := h.1.c.1.obj
  omega
theorem glL_le {f : SFun} {y : Int} {x e i : Nat} (hf : f.Is) (hx : x < f.sz.length) (he : e < (f.sz.getD x 0).toNat) (hi : i ≤ (f.sh.hom (x : Int) y).length) : (glL f y x e i).length ≤ 8 * (16 * 40) := by
  obtain ⟨_, _, b3, b4, _⟩ := hf.nums
  have := nest3_le (pr := glPr f y) (s1 := fun x => (f.sz.getD x 0).toNat) (s2 := fun x _ => (f.sh.hom (x : Int) y).length) (c := 40) (d := 16) (n := f.sz.length)
    (fun a ha => by have := hf.1.sz a ha; omega) (fun a ha b _ => by have := f.sh.hom_le (a : Int) y; omega) hx he hi
  have h2 : f.sz.length * (16 * 40) ≤ 8 * (16 * 40) := Nat.mul_le_mul_right _ b4
  unfold glL
  exact Nat.le_trans this h2
theorem glE_mem {f : SFun} {y : Int} {x e : Nat} {h : Int} (hx : x < f.sz.length) (hh : h ∈ f.sh.hom (x : Int) y) (he : (e : Int) < f.sz.getD x 0) : [(x : Int), (e : Int), h] ∈ glE f y := by
  obtain ⟨i, hi, e1⟩ := List.getElem_of_mem hh
  have := mem_nest3 (pr := glPr f y) (s1 := fun x => (f.sz.getD x 0).toNat) (s2 := fun x _ => (f.sh.hom (x : Int) y).length) hx (b := e) (by omega) hi
  unfold glPr at this
  rw [List.getD_eq_getElem?_getD (l := f.sh.hom _ _), List.getElem?_eq_getElem hi, e1] at this
  exact this
theorem glE_get {f : SFun} {y : Int} {j : Nat} (hj : j < (glE f y).length) : ∃ x e : Nat, ∃ h : Int, x < f.sz.length ∧ h ∈ f.sh.hom (x : Int) y ∧ (e : Int) < f.sz.getD x 0 ∧ (glE f y).getD j [] = [(x : Int), (e : Int), h] := by
  obtain ⟨x, e, i, h1, h2, h3, e1⟩ := nest3_mem (getD_mem_list (d := []) hj)
  exact ⟨x, e, _, h1, getD_mem h3, by omega, e1⟩
theorem glE_keys {f : SFun} {y : Int} (hf : f.Is) : Keys 3 (glE f y) := by
  obtain ⟨_, _, b3, b4, _⟩ := hf.nums
  refine ⟨nest3_nodup fun a b t a' b' t' ha hb ht ha' hb' ht' e => ?_, fun t ht => ?_⟩
  · unfold glPr at e
    simp only [List.cons.injEq, and_true] at e
    obtain ⟨e1, e2, e3⟩ := e
    obtain rfl : a = a' := by omega
    obtain rfl : b = b' := by omega
    exact ⟨rfl, rfl, nodup_getD (filtN_nodup _ _) ht ht' e3⟩
  · obtain ⟨x, e, i, h1, h2, h3, rfl⟩ := nest3_mem ht
    have q1 := hf.1.sz x h1
    obtain ⟨z, z1, _, _, z4⟩ := Cat.hom_get h3
    refine ⟨rfl, fun i hi => ?_⟩
    match i, hi with
    | 0, _ => show 0 ≤ (x : Int) ∧ (x : Int) ≤ 255; omega
    | 1, _ => show 0 ≤ (e : Int) ∧ (e : Int) ≤ 255; omega
    | 2, _ => show 0 ≤ (f.sh.hom _ _).getD _ 0 ∧ (f.sh.hom _ _).getD _ 0 ≤ 255; rw [z4]; omega
structure GlA (f : SFun) (y : Int) (a : Nat) : Prop where
  s0 : 0 ≤ f.sh.src.getD a 0
  s1 : f.sh.src.getD a 0 < f.sz.length
  t0 : 0 ≤ f.sh.tgt.getD a 0
  t1 : f.sh.tgt.getD a 0 < f.sz.length
  al : ((f.ac.getD a []).length : Int) = f.sz.getD (f.sh.src.getD a 0).toNat 0
  zs : f.sz.getD (f.sh.src.getD a 0).toNat 0 ≤ 16
  ac : ∀ e, e < (f.ac.getD a []).length → 0 ≤ (f.ac.getD a []).getD e 0 ∧ (f.ac.getD a []).getD e 0 < f.sz.getD (f.sh.tgt.getD a 0).toNat 0
  th : ∀ h, h ∈ f.sh.hom (f.sh.tgt.getD a 0) y → (0 ≤ h ∧ h < f.sh.src.length) ∧ f.sh.th (a : Int) h ∈ f.sh.hom (f.sh.src.getD a 0) y
theorem SFun.Is.arrow {f : SFun} {y : Int} (hf : f.Is) {a : Nat} (ha : a < f.sh.src.length) : GlA f y a := by
  obtain ⟨l1, l2, l3, l4, l5⟩ := hf.nums
  have q := hf.1.ends ha
  have act := fun e => hf.1.act (a := a) (e := e) (by omega)
  have hz := hf.1.sz (f.sh.src.getD a 0).toNat (by omega)
  refine ⟨q.1, by omega, q.2.2.1, by omega, q.2.2.2.2, hz.2, act, fun h hh => ?_⟩
  obtain ⟨z, z1, z2, z3, rfl⟩ := Cat.mem_hom.1 hh
  have hS := hf.1.c.1
  have hc := (Cat.Cell.pos (f := a) (g := z) z2.symm).1 (hS.cell a (by have := hS.cl; omega) z z1)
  rw [← Cat.th_nat] at hc
  refine ⟨by omega, Cat.mem_hom.2 ⟨(f.sh.th a z).toNat, by omega, hc.2.2.1, ?_, by omega⟩⟩
  rw [hc.2.2.2]; exact z3
def glT (f : SFun) (a e : Nat) (h : Int) : List Int := [f.sh.src.getD a 0, (e : Int), f.sh.th (a : Int) h]
def glU (f : SFun) (a e : Nat) (h : Int) : List Int := [f.sh.tgt.getD a 0, (f.ac.getD a []).getD e 0, h]
theorem SFun.Is.two {f : SFun} {y : Int} (hf : f.Is) {a e : Nat} {h : Int} (ha : a < f.sh.src.length) (hh : h ∈ f.sh.hom (f.sh.tgt.getD a 0) y) (he : e < (f.ac.getD a []).length) : glT f a e h ∈ glE f y ∧ glU f a e h ∈ glE f y := by
  obtain ⟨a0, a1, a2, a3, a4, _, a6, a9⟩ := hf.arrow (y := y) ha
  have h6 := a6 e he
  have n1 : (((f.sh.src.getD a 0).toNat : Nat) : Int) = f.sh.src.getD a 0 := by omega
  have n2 : (((f.sh.tgt.getD a 0).toNat : Nat) : Int) = f.sh.tgt.getD a 0 := by omega
  constructor
  · have := glE_mem (f := f) (y := y) (x := (f.sh.src.getD a 0).toNat) (e := e) (by omega) (by rw [n1]; exact (a9 h hh).2) (by omega)
    rwa [n1] at this
  · have := glE_mem (f := f) (y := y) (x := (f.sh.tgt.getD a 0).toNat) (e := ((f.ac.getD a []).getD e 0).toNat) (by omega) (by rw [n2]; exact hh) (by omega)
    rwa [n2, show ((((f.ac.getD a []).getD e 0).toNat : Nat) : Int) = (f.ac.getD a []).getD e 0 by omega] at this
def glRow (f : SFun) (y : Int) (j a e : Nat) : List (List Int) := if (f.ac.getD a []).getD e 0 = ((glE f y).getD j []).getD 1 0 then [[idxLL (glE f y) (glT f a e (((glE f y).getD j []).getD 2 0)), (j : Int)]] else []
def glSz (f : SFun) (y : Int) (j a : Nat) : Nat := if f.sh.tgt.getD a 0 = ((glE f y).getD j []).getD 0 0 then (f.sz.getD (f.sh.src.getD a 0).toNat 0).toNat else 0
def glS (f : SFun) (y : Int) (j a e : Nat) : List (List Int) := (nest3 (glRow f y) (fun _ => f.sh.src.length) (glSz f y) j a e).flatten
def glPq (f : SFun) (y : Int) (a e i : Nat) : Nat × Nat := ((idxLL (glE f y) (glT f a e ((f.sh.hom (f.sh.tgt.getD a 0) y).getD i 0))).toNat, (idxLL (glE f y) (glU f a e ((f.sh.hom (f.sh.tgt.getD a 0) y).getD i 0))).toNat)
def glI (f : SFun) (y : Int) (a e i : Nat) : List (Nat × Nat) := nest3 (glPq f y) (fun a => (f.ac.getD a []).length) (fun a _ => (f.sh.hom (f.sh.tgt.getD a 0) y).length) a e i
theorem glS_T {f : SFun} {y : Int} {j a e : Nat} (h : (f.ac.getD a []).getD e 0 = ((glE f y).getD j []).getD 1 0) : glS f y j a (e + 1) = glS f y j a e ++ [[idxLL (glE f y) (glT f a e (((glE f y).getD j []).getD 2 0)), (j : Int)]] := by
  unfold glS
  rw [nest3_snoc, List.flatten_append, show glRow f y j a e = _ from if_pos h]
  simp
theorem glS_F {f : SFun} {y : Int} {j a e : Nat} (h : ¬ (f.ac.getD a []).getD e 0 = ((glE f y).getD j []).getD 1 0) : glS f y j a (e + 1) = glS f y j a e := by
  unfold glS
  rw [nest3_snoc, List.flatten_append, show glRow f y j a e = _ from if_neg h]
  simp
theorem glS_next2 {f : SFun} {y : Int} {j a : Nat} : glS f y j (a + 1) 0 = glS f y j a (glSz f y j a) := by
  unfold glS
  rw [nest3_next2]
theorem glS_next1 {f : SFun} {y : Int} {j : Nat} : glS f y (j + 1) 0 0 = glS f y j f.sh.src.length 0 := by
  unfold glS
  rw [nest3_next1]
theorem glI_snoc {f : SFun} {y : Int} {a e i : Nat} : glI f y a e (i + 1) = glI f y a e i ++ [glPq f y a e i] := nest3_snoc
theorem glI_next2 {f : SFun} {y : Int} {a e : Nat} : glI f y a (e + 1) 0 = glI f y a e (f.sh.hom (f.sh.tgt.getD a 0) y).length := nest3_next2
theorem glI_next1 {f : SFun} {y : Int} {a : Nat} : glI f y (a + 1) 0 0 = glI f y a (f.ac.getD a []).length 0 := nest3_next1
theorem glSz_le {f : SFun} {y : Int} (hf : f.Is) {j a : Nat} (ha : a < f.sh.src.length) : glSz f y j a ≤ 16 := by
  have q := (hf.arrow (y := y) ha).zs
  unfold glSz
  split <;> omega
theorem glS_le {f : SFun} {y : Int} {j a e : Nat} (hf : f.Is) (hL : (glE f y).length ≤ 256) (hj : j < (glE f y).length) (ha : a < f.sh.src.length) (he : e ≤ glSz f y j a) : (glS f y j a e).length ≤ 256 * (40 * 16) := by
  obtain ⟨l1, l2, l3, l4, l5⟩ := hf.nums
  have h1 := nest3_le (pr := glRow f y) (s1 := fun _ => f.sh.src.length) (s2 := glSz f y) (c := 16) (d := 40) (n := (glE f y).length) (fun _ _ => l3) (fun j _ b hb => glSz_le hf hb) hj ha he
  have h2 : (glE f y).length * (40 * 16) ≤ 256 * (40 * 16) := Nat.mul_le_mul_right _ hL
  have h3 := flatten_le (l := nest3 (glRow f y) (fun _ => f.sh.src.length) (glSz f y) j a e) fun x hx => by
    have : ∀ j a e, (glRow f y j a e).length ≤ 1 := fun j a e => by unfold glRow; split <;> simp
    unfold nest3 nestL at hx
    simp only [List.mem_append, List.mem_flatMap, List.mem_map] at hx
    rcases hx with ⟨_, _, (⟨_, _, _, _, rfl⟩ | ⟨_, _, rfl⟩)⟩ | ⟨_, _, _, _, rfl⟩ | ⟨_, _, rfl⟩ <;> exact this _ _ _
  unfold glS
  omega
theorem glS_all {f : SFun} {y : Int} {j : Nat} (hf : f.Is) (hL : (glE f y).length ≤ 256) (hj : j ≤ (glE f y).length) : (glS f y j 0 0).length ≤ 256 * (40 * 16) := by
  obtain ⟨l1, l2, l3, l4, l5⟩ := hf.nums
  have h1 := nest3_all (pr := glRow f y) (s1 := fun _ => f.sh.src.length) (s2 := glSz f y) (c := 16) (d := 40) (n := j) (fun _ _ => l3) (fun j _ b hb => glSz_le hf hb)
  have h2 : j * (40 * 16) ≤ 256 * (40 * 16) := Nat.mul_le_mul_right _ (by omega)
  have h3 := flatten_le (l := nest3 (glRow f y) (fun _ => f.sh.src.length) (glSz f y) j 0 0) fun x hx => by
    obtain ⟨_, _, _, _, _, _, rfl⟩ := nest3_mem hx
    unfold glRow
    split <;> simp
  unfold glS
  omega
theorem glS_mem {f : SFun} {y : Int} {p : List Int} : p ∈ glS f y (glE f y).length 0 0 ↔ ∃ j a e : Nat, j < (glE f y).length ∧ a < f.sh.src.length ∧ f.sh.tgt.getD a 0 = ((glE f y).getD j []).getD 0 0 ∧ e < (f.sz.getD (f.sh.src.getD a 0).toNat 0).toNat ∧ (f.ac.getD a []).getD e 0 = ((glE f y).getD j []).getD 1 0 ∧ p = [idxLL (glE f y) (glT f a e (((glE f y).getD j []).getD 2 0)), (j : Int)] := by
  unfold glS
  rw [List.mem_flatten]
  constructor
  · rintro ⟨l, hl, hp⟩
    obtain ⟨j, a, e, h1, h2, h3, rfl⟩ := nest3_mem hl
    unfold glSz at h3
    unfold glRow at hp
    split at hp
    · rename_i h5
      split at h3
      · rename_i h4
        rw [List.mem_singleton] at hp
        exact ⟨j, a, e, h1, h2, h4, h3, h5, hp⟩
      · omega
    · cases hp
  · rintro ⟨j, a, e, h1, h2, h3, h4, h5, rfl⟩
    exact ⟨_, mem_nest3 (pr := glRow f y) (s1 := fun _ => f.sh.src.length) (s2 := glSz f y) h1 h2 (t := e) (by unfold glSz; rw [if_pos h3]; exact h4), by unfold glRow; rw [if_pos h5]; simp⟩
theorem gl_ok {f : SFun} {y : Int} (hf : f.Is) {j a e : Nat} (h1 : j < (glE f y).length) (h2 : a < f.sh.src.length) (h3 : f.sh.tgt.getD a 0 = ((glE f y).getD j []).getD 0 0) (h4 : e < (f.sz.getD (f.sh.src.getD a 0).toNat 0).toNat) :
    2 ≤ [idxLL (glE f y) (glT f a e (((glE f y).getD j []).getD 2 0)), (j : Int)].length ∧ 0 ≤ [idxLL (glE f y) (glT f a e (((glE f y).getD j []).getD 2 0)), (j : Int)].getD 0 0 ∧ [idxLL (glE f y) (glT f a e (((glE f y).getD j []).getD 2 0)), (j : Int)].getD 0 0 < ((glE f y).length : Int) ∧ 0 ≤ [idxLL (glE f y) (glT f a e (((glE f y).getD j []).getD 2 0)), (j : Int)].getD 1 0 ∧ [idxLL (glE f y) (glT f a e (((glE f y).getD j []).getD 2 0)), (j : Int)].getD 1 0 < ((glE f y).length : Int) := by
  obtain ⟨x, d, h, x1, x2, x3, x4⟩ := glE_get h1
  have q := hf.arrow (y := y) h2
  rw [x4] at h3 ⊢
  simp only [List.getD_cons_zero, List.getD_cons_succ] at h3 ⊢
  rw [← h3] at x2
  obtain ⟨m1, _⟩ := hf.two h2 x2 (e := e) (by have := q.al; omega)
  obtain ⟨u, u1, _, u3⟩ := idxLL_mem (glE_keys hf).nd m1
  rw [u3]
  refine ⟨Nat.le_refl _, by omega, by omega, by omega, by omega⟩
theorem gl_same {f : SFun} {y : Int} (hf : f.Is) : joinL (glE f y).length ((glS f y (glE f y).length 0 0).map fun p => (pA p, pB p)) = joinL (glE f y).length (glI f y f.sh.src.length 0 0) := by
  have hK := glE_keys (y := y) hf
  have hq : ∀ p ∈ glI f y f.sh.src.length 0 0, p.1 < (glE f y).length ∧ p.2 < (glE f y).length := fun p hp => by
    obtain ⟨a, e, i, h1, h2, h3, rfl⟩ := nest3_mem hp
    obtain ⟨m1, m2⟩ := hf.two h1 (getD_mem h3) h2
    obtain ⟨u, u1, _, u3⟩ := idxLL_mem hK.nd m1
    obtain ⟨v, v1, _, v3⟩ := idxLL_mem hK.nd m2
    unfold glPq
    rw [u3, v3]
    exact ⟨by simpa using u1, by simpa using v1⟩
  have hiff : ∀ p, p ∈ (glS f y (glE f y).length 0 0).map (fun p => (pA p, pB p)) ↔ p ∈ glI f y f.sh.src.length 0 0 := by
    intro p
    rw [List.mem_map]
    constructor
    · rintro ⟨l, hl, rfl⟩
      obtain ⟨j, a, e, h1, h2, h3, h4, h5, rfl⟩ := glS_mem.1 hl
      obtain ⟨x, d, h, x1, x2, x3, x4⟩ := glE_get h1
      rw [x4] at h3 h5 ⊢
      simp only [List.getD_cons_zero, List.getD_cons_succ] at h3 h5 ⊢
      have q := hf.arrow (y := y) h2
      have he : e < (f.ac.getD a []).length := by have := q.al; omega
      rw [← h3] at x2
      obtain ⟨i, hi, e1⟩ := List.getElem_of_mem x2
      have e2 : (f.sh.hom (f.sh.tgt.getD a 0) y).getD i 0 = h := by rw [List.getD_eq_getElem?_getD, List.getElem?_eq_getElem hi, e1]; rfl
      have hm := mem_nest3 (pr := glPq f y) (s1 := fun a => (f.ac.getD a []).length) (s2 := fun a _ => (f.sh.hom (f.sh.tgt.getD a 0) y).length) h2 he hi
      have e3 : glPq f y a e i = (pA [idxLL (glE f y) (glT f a e h), (j : Int)], pB [idxLL (glE f y) (glT f a e h), (j : Int)]) := by
        unfold glPq
        rw [e2]
        have e4 : glU f a e h = (glE f y).getD j [] := by rw [x4]; unfold glU; rw [h3, h5]
        rw [e4, idxLL_at hK.nd h1]
        simp [pA, pB]
      rw [← e3]
      exact hm
    · intro hp
      obtain ⟨a, e, i, h1, h2, h3, rfl⟩ := nest3_mem hp
      have hh : (f.sh.hom (f.sh.tgt.getD a 0) y).getD i 0 ∈ f.sh.hom (f.sh.tgt.getD a 0) y := getD_mem h3
      have q := hf.arrow (y := y) h1
      obtain ⟨_, m2⟩ := hf.two h1 hh h2
      obtain ⟨j, j1, j2, j3⟩ := idxLL_mem hK.nd m2
      refine ⟨_, glS_mem.2 ⟨j, a, e, j1, h1, ?_, by have := q.al; omega, ?_, rfl⟩, ?_⟩
      · rw [j2]; rfl
      · rw [j2]; rfl
      · unfold glPq
        rw [j3, j2]
        simp [pA, pB, glU]
  exact joinL_same (fun p hp => hq p ((hiff p).1 hp)) hq hiff
/-! ### The program's way: pairs of elements first. -/
def elP (f : SFun) (x e : Nat) : List (List Int) := nestL (fun x e => [(x : Int), (e : Int)]) (fun x => (f.sz.getD x 0).toNat) x e
def elE (f : SFun) : List (List Int) := elP f f.sz.length 0
theorem elP_le {f : SFun} (hf : f.Is) {x e : Nat} (hx : x < f.sz.length) (he : e ≤ (f.sz.getD x 0).toNat) : (elP f x e).length ≤ f.sz.length * 16 := nestL_le (fun a ha => by have := hf.1.sz a ha; omega) hx he
theorem elE_le {f : SFun} (hf : f.Is) : (elE f).length ≤ f.sz.length * 16 := nestL_length (fun a ha => by have := hf.1.sz a ha; omega)
theorem elE_get {f : SFun} {p : Nat} (hp : p < (elE f).length) : ∃ x e : Nat, x < f.sz.length ∧ (e : Int) < f.sz.getD x 0 ∧ (elE f).getD p [] = [(x : Int), (e : Int)] := by
  obtain ⟨x, e, h1, h2, e1⟩ := nestL_mem (getD_mem_list (d := []) hp)
  exact ⟨x, e, h1, by omega, e1⟩
def gnRow (f : SFun) (y : Int) (p : List Int) (i : Nat) : List (List Int) := (List.range i).map fun i => [p.getD 0 0, p.getD 1 0, (f.sh.hom (p.getD 0 0) y).getD i 0]
def gnL (f : SFun) (y : Int) (p i : Nat) : List (List Int) := ((elE f).take p).flatMap (fun q => gnRow f y q (f.sh.hom (q.getD 0 0) y).length) ++ gnRow f y ((elE f).getD p []) i
theorem gnL_snoc {f : SFun} {y : Int} {p i : Nat} : gnL f y p (i + 1) = gnL f y p i ++ [[((elE f).getD p []).getD 0 0, ((elE f).getD p []).getD 1 0, (f.sh.hom (((elE f).getD p []).getD 0 0) y).getD i 0]] := by
  unfold gnL
  rw [List.append_assoc]
  congr 1
  unfold gnRow
  rw [List.range_succ, List.map_append]; rfl
theorem gnL_next {f : SFun} {y : Int} {p : Nat} (hp : p < (elE f).length) : gnL f y (p + 1) 0 = gnL f y p (f.sh.hom (((elE f).getD p []).getD 0 0) y).length := by
  unfold gnL
  have e : (elE f).take (p + 1) = (elE f).take p ++ [(elE f).getD p []] := by rw [List.take_add_one, List.getElem?_eq_getElem hp, List.getD_eq_getElem?_getD, List.getElem?_eq_getElem hp]; rfl
  rw [e, List.flatMap_append]
  simp [gnRow]
theorem gnL_zero (f : SFun) (y : Int) : gnL f y 0 0 = [] := by simp [gnL, gnRow]
theorem gnL_all (f : SFun) (y : Int) : gnL f y (elE f).length 0 = glE f y := by
  unfold gnL glE glL nest3 elE elP nestL gnRow
  rw [List.take_length]
  simp only [List.range_zero, List.map_nil, List.append_nil, List.flatMap_assoc, List.flatMap_map, List.flatMap_nil]
  rfl
theorem gnL_le {f : SFun} {y : Int} (hf : f.Is) {p i : Nat} (hi : i ≤ (f.sh.hom (((elE f).getD p []).getD 0 0) y).length) : (gnL f y p i).length ≤ 8 * 16 * 40 + 40 := by
  obtain ⟨_, _, b3, b4, _⟩ := hf.nums
  have h0 := elE_le hf
  have h1 : ∀ l : List (List Int), (l.flatMap (fun q => gnRow f y q (f.sh.hom (q.getD 0 0) y).length)).length ≤ l.length * 40 := by
    intro l
    induction l with
    | nil => simp
    | cons x l ih =>
      have := f.sh.hom_le (x.getD 0 0) y
      rw [List.flatMap_cons, List.length_append, List.length_cons]
      simp only [gnRow, List.length_map, List.length_range] at ih ⊢
      omega
  have h2 := h1 ((elE f).take p)
  have h3 := f.sh.hom_le (((elE f).getD p []).getD 0 0) y
  have h4 : ((elE f).take p).length ≤ 8 * 16 := by rw [List.length_take]; omega
  unfold gnL
  rw [List.length_append]
  simp only [gnRow, List.length_map, List.length_range] at h2 ⊢
  omega
/-- A list of lists and a list that are handed back together, no two rows alike. -/
structure Two (b : Nat) (H : GHeap) (a : Option Addr) (r : Nat → Option Addr) (xss : List (List Int)) (a2 : Option Addr) (xs : List Int) : Prop where
  v : IntssR b H a xss r
  w : IntsR b H a2 xs
  nd : (lvBlks (rowsL r xss xss.length ++ [(a2, xs.length)])).Nodup
theorem Two.keep {b b' : Nat} {H H' : GHeap} {a a2 : Option Addr} {r : Nat → Option Addr} {xss : List (List Int)} {xs : List Int} (h : Two b H a r xss a2 xs) (k : Keep b' H H') (hb : b' ≤ b) : Two b' H' a r xss a2 xs := ⟨h.v.keep k hb, h.w.keep k hb, h.nd⟩
theorem Two.nd1 {b : Nat} {H : GHeap} {a a2 : Option Addr} {r : Nat → Option Addr} {xss : List (List Int)} {xs : List Int} (h : Two b H a r xss a2 xs) : (lvBlks (rowsL r xss xss.length)).Nodup := h.v.2
theorem Two.nd2 {b : Nat} {H : GHeap} {a a2 : Option Addr} {r : Nat → Option Addr} {xss : List (List Int)} {xs : List Int} (_h : Two b H a r xss a2 xs) : (lvBlks [(a2, xs.length)]).Nodup := by
  simp only [lvBlks, List.flatMap_cons, List.flatMap_nil, List.append_nil]
  exact lvBlk_nodup _
theorem Two.dj {b : Nat} {H : GHeap} {a a2 : Option Addr} {r : Nat → Option Addr} {xss : List (List Int)} {xs : List Int} (h : Two b H a r xss a2 xs) : ∀ g ∈ lvBlks (rowsL r xss xss.length), ¬ g ∈ lvBlks [(a2, xs.length)] := fun g hg hg' => by
  have := h.nd
  rw [lvBlks_append] at this
  exact (List.nodup_append.1 this).2.2 g hg g hg' rfl
theorem Two.nil (b : Nat) (H : GHeap) : Two b H none (fun _ => none) [] none [] := ⟨.nil _ _ _, .inl ⟨rfl, rfl⟩, by simp [lvBlks, lvBlk, rowsL]⟩
theorem Two.mk' {b g : Nat} {H0 H : GHeap} {a : Option Addr} {e : TypeId} {r : Nat → Option Addr} {xss : List (List Int)} {xs : List Int} (h0 : IntssR b H0 a xss r) (h : IntssR b H a xss r) (hg : H.get g = some (.row (ints xs) e true)) (hb : b ≤ g) (hm : H0.next ≤ g) : Two b H a r xss (some ⟨g, 0, none⟩) xs := by
  refine ⟨h, .inr ⟨g, e, rfl, hb, hg⟩, ?_⟩
  rw [lvBlks_append]
  refine List.nodup_append.2 ⟨h.2, by simp only [lvBlks, List.flatMap_cons, List.flatMap_nil, List.append_nil]; exact lvBlk_nodup _, fun x hx y hy hxy => ?_⟩
  subst hxy
  simp only [lvBlks, List.flatMap_cons, List.flatMap_nil, List.append_nil] at hy
  obtain ⟨o, s, e1⟩ := mem_lvBlk1 hy
  cases e1
  obtain ⟨l, hl, hx2⟩ := List.mem_flatMap.1 hx
  obtain ⟨i, hi, rfl⟩ := List.mem_map.1 hl
  obtain ⟨o2, s2, e2⟩ := mem_lvBlk1 hx2
  have hi' := List.mem_range.1 hi
  rcases h0.1 with ⟨rfl, _⟩ | ⟨g', e', cs, _, _, _, _, _, h6⟩
  · simp at hi'
  · obtain ⟨g2, _, h7, _, h8⟩ := h6 i hi'
    rw [h7] at e2
    cases e2
    have := GHeap.lt_of_get h8
    omega
noncomputable def glR (f : SFun) (y : Int) : List (List Int) := bif B (f.Is ∧ (0 ≤ y ∧ y < f.sh.obj) ∧ (glE f y).length ≤ 256) then glE f y else []
noncomputable def glQ (f : SFun) (y : Int) : List Int := bif B (f.Is ∧ (0 ≤ y ∧ y < f.sh.obj) ∧ (glE f y).length ≤ 256) then joinL (glE f y).length (glI f y f.sh.src.length 0 0) else []
noncomputable def glC (f : SFun) (y : Int) : Int := bif B f.Is then (bif B (0 ≤ y ∧ y < f.sh.obj) then (bif decide ((glE f y).length ≤ 256) then 0 else 3) else 2) else 1
theorem gl_1 {f : SFun} {y : Int} (h : ¬ f.Is) : glR f y = [] ∧ glQ f y = [] ∧ glC f y = 1 := by unfold glR glQ glC; rw [B_false h, B_false fun hh => h hh.1]; exact ⟨rfl, rfl, rfl⟩
theorem gl_2 {f : SFun} {y : Int} (h : f.Is) (h' : ¬ (0 ≤ y ∧ y < f.sh.obj)) : glR f y = [] ∧ glQ f y = [] ∧ glC f y = 2 := by unfold glR glQ glC; rw [B_true h, B_false h', B_false fun hh => h' hh.2.1]; exact ⟨rfl, rfl, rfl⟩
theorem gl_3 {f : SFun} {y : Int} (h : f.Is) (h' : 0 ≤ y ∧ y < f.sh.obj) (hb : ¬ (glE f y).length ≤ 256) : glR f y = [] ∧ glQ f y = [] ∧ glC f y = 3 := by unfold glR glQ glC; rw [B_true h, B_true h', decide_eq_false hb, B_false fun hh => hb hh.2.2]; exact ⟨rfl, rfl, rfl⟩
theorem gl_4 {f : SFun} {y : Int} (h : f.Is) (h' : 0 ≤ y ∧ y < f.sh.obj) (hb : (glE f y).length ≤ 256) : glR f y = glE f y ∧ glQ f y = joinL (glE f y).length (glI f y f.sh.src.length 0 0) ∧ glC f y = 0 := by unfold glR glQ glC; rw [B_true h, B_true h', decide_eq_true hb, B_true ⟨h, h', hb⟩]; exact ⟨rfl, rfl, rfl⟩
theorem glR_small (f : SFun) (y : Int) : (glR f y).length ≤ 256 ∧ (∀ i, ((glR f y).getD i []).length ≤ 3) ∧ (glQ f y).length ≤ 256 := by
  by_cases h : f.Is ∧ (0 ≤ y ∧ y < f.sh.obj) ∧ (glE f y).length ≤ 256
  · obtain ⟨e1, e2, _⟩ := gl_4 h.1 h.2.1 h.2.2
    rw [e1, e2, length_joinL]
    refine ⟨h.2.2, fun i => ?_, h.2.2⟩
    by_cases hi : i < (glE f y).length
    · have := ((glE_keys h.1).ok _ (getD_mem_list (d := []) hi)).1; omega
    · rw [List.getD_eq_getElem?_getD, List.getElem?_eq_none (by omega)]; simp
  · unfold glR glQ
    rw [B_false h]
    simp
end Go.GL
