/- Equivalences. No condition but those of each statement. -/
import Derived.Test.YtihkbggaaopebaaL
import Derived.Test.YtihkbggaaopebaaGlT
namespace Go.Proofs.Ytihkbggaaopebaa
open Go Go.GL Go.RowKit Go.Proofs
theorem implThen_c {a b : Option Addr} {xs zs : List Int} {H : GHeap} (h : Ints H a xs := by assumption) (h' : Ints H b zs := by assumption) (hb : ∀ i, i < xs.length → 0 ≤ xs.getD i 0 ∧ xs.getD i 0 < zs.length := by assumption) (hl : xs.length ≤ 1048576 := by omega) :
    GCalls Try.prog 44 [.slice a xs.length xs.length, .slice b zs.length zs.length] H (NewInts 2 H (thenL xs zs)) := by
  refine GCalls.body (N := 27) (rs := [.tmp 4]) Try.func44 rfl rfl rfl rfl (fun Qx hret hend => ?_)
  refine .forget (fr' := [(0, some _), (1, some _)]) ⟨rfl, rfl, trivial⟩ ?_
  have hle := GHeap.Le.refl H
  have base_h := h
  have base_h' := h'
  refine .seq (fun K1 hK1 => ?_)
  refine .region ?_
  refine .m rfl rfl rfl (.assign rfl) ?_
  refine .nil ?_
  refine hK1 _ _ ?_
  refine .seq (fun K2 hK2 => ?_)
  refine .region ?_
  refine .m rfl rfl rfl (.move rfl) ?_
  refine .m rfl rfl rfl (.len sl_22_A rfl) ?_
  refine .r rfl rfl rfl (.makeIN rfl sl_22_A ze_2_E by_2_E rfl rfl (by omega) (by omega) (by omega)) ?_
  rintro _ H10 ⟨g10, rfl, le10, ge10, at10⟩
  have nx_H10 := le10.1
  replace hle := hle.trans le10
  have lt_at10 := GHeap.lt_of_get at10
  replace h := base_h.mono hle
  replace h' := base_h'.mono hle
  refine .m rfl rfl rfl (.assign rfl) ?_
  refine .nil ?_
  refine hK2 _ _ ?_
  refine .seq (fun K3 hK3 => ?_)
  refine .seq (fun K4 hK4 => ?_)
  refine .region ?_
  refine .m rfl rfl rfl (.move rfl) ?_
  refine .m rfl rfl rfl (.len sl_22_A rfl) ?_
  refine .m rfl rfl rfl (.move rfl) ?_
  refine .nil ?_
  refine hK4 _ _ ?_
  refine .block ?_
  refine .loopR (σ := Nat × List Int) [(1, some _), (5, some _), (11, some _), (12, some _)] (fun (k, ys) => [(13, some (.int .i64 (k : Int)))]) (fun (k, ys) H' => St [g10] H10 H' ∧ H'.get g10 = some (.row (ints ys) 2 true) ∧ k ≤ xs.length ∧ ys.length = xs.length ∧ ∀ i, i < k → ys.getD i 0 = zs.getD (xs.getD i 0).toNat 0) (fun (k, ys) => xs.length - k) ((0, List.replicate xs.length 0)) ⟨rfl, rfl, rfl, rfl, trivial⟩ ⟨rfl, trivial⟩ ?_ ?_
  ·
   refine ⟨.refl _ _, by first | assumption | exact at10 | simpa using at10, ?_⟩
   exact ⟨by omega, by simp, fun _ _ => by omega⟩
  ·
   rintro ⟨k, ys⟩ HL1 ⟨lst1, at_L5, hI⟩ KL1 hKL1
   refine .forget (fr' := [(13, some (.int .i64 (k : Int))), (1, some _), (5, some _), (11, some _), (12, some _)]) ⟨rfl, rfl, rfl, rfl, rfl, trivial⟩ ?_
   have nx_HL1 := lst1.nx
   replace hle := hle.st lst1 (fun k hk => ⟨by omega, trivial⟩)
   have lt_at_L5 := GHeap.lt_of_get at_L5
   replace h := base_h.mono hle
   replace h' := base_h'.mono hle
   obtain ⟨hk, hyl, ha⟩ := hI
   have hsl := SlA.of_ints at_L5 hyl
   refine .seq (fun K5 hK5 => ?_)
   refine .region ?_
   refine .m rfl rfl rfl (.cmp rfl rfl rfl) ?_
   refine .nil ?_
   refine hK5 _ _ ?_
   refine .seq (fun K6 hK6 => ?_)
   refine .cond rfl (fun h14 => ?_) (fun h14 => ?_)
   ·
    simp only [sps] at h14
    have q1 := hb k (by omega)
    refine .skip ?_
    refine hK6 _ _ ?_
    refine .seq (fun K7 hK7 => ?_)
    refine .block ?_
    refine .seq (fun K8 hK8 => ?_)
    refine .region ?_
    refine .m rfl rfl rfl (.move rfl) ?_
    refine .m rfl rfl rfl (.idxN sl_22_A (by assumption) rfl rfl (by omega)) ?_
    refine .m rfl rfl rfl (.loadI on_2_A (by assumption) rfl (by omega)) ?_
    refine .m rfl rfl rfl (.assign rfl) ?_
    refine .m rfl rfl rfl (.assign rfl) ?_
    refine .nil ?_
    refine hK8 _ _ ?_
    refine .region ?_
    refine .m rfl rfl rfl (.move rfl) ?_
    refine .m rfl rfl rfl (.move rfl) ?_
    refine .m rfl rfl rfl (.move rfl) ?_
    refine .m rfl rfl rfl (.move rfl) ?_
    refine .m rfl rfl rfl (.idx1 sl_22_A (by assumption) rfl rfl (by omega) (by omega)) ?_
    refine .m rfl rfl rfl (.loadI on_2_A (by assumption) rfl (by omega)) ?_
    refine .m rfl rfl rfl (.idxN sl_22_A (by assumption) rfl rfl (by omega)) ?_
    refine .r0 rfl rfl (.storeI rfl sz_2_E rfl rfl (by assumption) (by simp; omega)) ?_
    rintro _ H5007 ⟨rfl, st5007, at5007⟩
    have nx_H5007 := st5007.nx
    replace hle := hle.st st5007 (fun k hk => ⟨by omega, trivial⟩)
    replace lst1 := lst1.st st5007 (fun k hk ho => by simp only [out, and_true] at ho ⊢ <;> omega)
    have lt_at5007 := GHeap.lt_of_get at5007
    replace h := base_h.mono hle
    replace h' := base_h'.mono hle
    refine .nil ?_
    refine hK7 _ _ ?_
    refine .region ?_
    refine .m rfl rfl rfl (.add rfl rfl rfl (by omega) (by omega)) ?_
    refine .m rfl rfl rfl (.move rfl) ?_
    refine .nil ?_
    refine hKL1 ((k + 1, ys.set (0 + k) (zs.getD (xs.getD k 0).toNat 0))) _ _ ?_ ?_ ⟨rfl, rfl, rfl, rfl, rfl, trivial⟩
    ·
     refine ⟨lst1, by assumption, ?_⟩
     refine ⟨by omega, by simpa using hyl, fun i hi => ?_⟩
     rw [Nat.zero_add, getD_set (by omega)]
     split
     · rename_i e; rw [e]
     · exact ha i (by omega)
    ·
     (dsimp only; omega)
   ·
    try simp only [sps] at h14
    refine .exit ?_
    refine hK3 _ _ ?_
    refine .seq (fun K9 hK9 => ?_)
    refine .region ?_
    refine .m rfl rfl rfl (.move rfl) ?_
    refine .m rfl rfl rfl (.assign rfl) ?_
    refine .nil ?_
    refine hK9 _ _ ?_
    refine .ret ?_
    -- leaf e1
    refine hret _ _ ?_
    refine ⟨_, rfl, ?_⟩
    obtain rfl := thenL_eq hyl fun i hi => ha i (by omega)
    exact ⟨hle, _, by rw [length_thenL], at_L5, by omega⟩
theorem l01Then_c {a b : Option Addr} {xs zs : List Int} {H : GHeap} (h : Ints H a xs := by assumption) (h' : Ints H b zs := by assumption) (hb : ∀ i, i < xs.length → 0 ≤ xs.getD i 0 ∧ xs.getD i 0 < zs.length := by assumption) (hl : xs.length ≤ 1048576 := by omega) :
    GCalls Try.prog 51 [.slice a xs.length xs.length, .slice b zs.length zs.length] H (NewInts 2 H (thenL xs zs)) := by
  refine GCalls.body (N := 25) (rs := [.tmp 4]) Try.func51 rfl rfl rfl rfl (fun Qx hret hend => ?_)
  refine .forget (fr' := [(0, some _), (1, some _)]) ⟨rfl, rfl, trivial⟩ ?_
  have hle := GHeap.Le.refl H
  have base_h := h
  have base_h' := h'
  refine .seq (fun K1 hK1 => ?_)
  refine .region ?_
  refine .m rfl rfl rfl (.assign rfl) ?_
  refine .nil ?_
  refine hK1 _ _ ?_
  refine .seq (fun K2 hK2 => ?_)
  refine .region ?_
  refine .r rfl rfl rfl (.litR rfl sl_22_A ze_2_E rfl rfl (by omega) (by omega) rfl rfl) ?_
  rintro _ H7 ⟨g7, rfl, le7, ge7, at7⟩
  have nx_H7 := le7.1
  replace hle := hle.trans le7
  have lt_at7 := GHeap.lt_of_get at7
  replace h := base_h.mono hle
  replace h' := base_h'.mono hle
  refine .m rfl rfl rfl (.assign rfl) ?_
  refine .nil ?_
  refine hK2 _ _ ?_
  refine .seq (fun K3 hK3 => ?_)
  refine .seq (fun K4 hK4 => ?_)
  refine .region ?_
  refine .m rfl rfl rfl (.assign rfl) ?_
  refine .nil ?_
  refine hK4 _ _ ?_
  refine .block ?_
  refine .loopR (σ := Nat × Nat × Nat) [(0, some _), (1, some _)] (fun (k, gL5, nL5) => [(6, some (.int .i64 (k : Int))), (5, some (.slice (some ⟨gL5, 0, none⟩) nL5 nL5))]) (fun (k, gL5, nL5) H' => St [g7] H7 H' ∧ H'.get gL5 = some (.row (ints (thenL (xs.take k) zs)) 2 true) ∧ (gL5 = g7 ∨ H7.next ≤ gL5) ∧ nL5 = (thenL (xs.take k) zs).length ∧ k ≤ xs.length) (fun (k, gL5, nL5) => xs.length - k) ((0, _, _)) ⟨rfl, rfl, trivial⟩ ⟨rfl, rfl, trivial⟩ ?_ ?_
  ·
   refine ⟨.refl _ _, by first | assumption | exact at7 | simpa using at7, .inl rfl, by first | rfl | simp | omega, ?_⟩
   omega
  ·
   rintro ⟨k, gL5, nL5⟩ HL1 ⟨lst1, at_L5, pl_L5, ln_L5, hI⟩ KL1 hKL1
   refine .forget (fr' := [(6, some (.int .i64 (k : Int))), (5, some (.slice (some ⟨gL5, 0, none⟩) nL5 nL5)), (0, some _), (1, some _)]) ⟨rfl, rfl, rfl, rfl, trivial⟩ ?_
   have ge_L5 : H.next ≤ gL5 := by omega
   have nx_HL1 := lst1.nx
   replace hle := hle.st lst1 (fun k hk => ⟨by omega, trivial⟩)
   have lt_at_L5 := GHeap.lt_of_get at_L5
   replace h := base_h.mono hle
   replace h' := base_h'.mono hle
   have hfl : (thenL (xs.take k) zs).length = k := by simp; omega
   refine .seq (fun K5 hK5 => ?_)
   refine .seq (fun K6 hK6 => ?_)
   refine .region ?_
   refine .m rfl rfl rfl (.move rfl) ?_
   refine .m rfl rfl rfl (.move rfl) ?_
   refine .m rfl rfl rfl (.len sl_22_A rfl) ?_
   refine .m rfl rfl rfl (.cmp rfl rfl rfl) ?_
   refine .nil ?_
   refine hK6 _ _ ?_
   refine .cond rfl (fun h11 => ?_) (fun h11 => ?_)
   ·
    simp only [sps] at h11
    have q1 := hb k (by omega)
    refine .skip ?_
    refine hK5 _ _ ?_
    refine .seq (fun K7 hK7 => ?_)
    refine .block ?_
    refine .region ?_
    refine .m rfl rfl rfl (.move rfl) ?_
    refine .m rfl rfl rfl (.move rfl) ?_
    refine .m rfl rfl rfl (.move rfl) ?_
    refine .m rfl rfl rfl (.move rfl) ?_
    refine .m rfl rfl rfl (.idxN sl_22_A (by assumption) rfl rfl (by omega)) ?_
    refine .m rfl rfl rfl (.loadI on_2_A (by assumption) rfl (by omega)) ?_
    refine .m rfl rfl rfl (.idx1 sl_22_A (by assumption) rfl rfl (by omega) (by omega)) ?_
    refine .m rfl rfl rfl (.loadI on_2_A (by assumption) rfl (by omega)) ?_
    refine .r rfl rfl rfl (.litR rfl sl_22_A ze_2_E rfl rfl (by omega) (by omega) rfl rfl) ?_
    rintro _ H22 ⟨g22, rfl, le22, ge22, at22⟩
    have nx_H22 := le22.1
    replace hle := hle.trans le22
    replace lst1 := lst1.le le22
    replace at_L5 := le22.2 _ _ at_L5
    have lt_at22 := GHeap.lt_of_get at22
    replace h := base_h.mono hle
    replace h' := base_h'.mono hle
    refine .r rfl rfl rfl (.appendI rfl sl_22_A ze_2_E rfl by_2_E sl_22_A rfl rfl (by assumption) (by assumption) (by first | omega | (simp; omega)) (by omega) (by omega)) ?_
    rintro _ H23 ⟨g23, rfl, st23, ge23, at23⟩
    have nx_H23 := st23.nx
    replace hle := hle.st st23 (fun k hk => ⟨by omega, trivial⟩)
    replace lst1 := lst1.st st23 (fun k hk ho => by simp only [out, and_true] at ho ⊢ <;> omega)
    replace at22 := st23.same _ _ ⟨by omega, trivial⟩ at22
    have lt_at23 := GHeap.lt_of_get at23
    replace h := base_h.mono hle
    replace h' := base_h'.mono hle
    refine .m rfl rfl rfl (.assign rfl) ?_
    refine .nil ?_
    refine hK7 _ _ ?_
    refine .region ?_
    refine .m rfl rfl rfl (.move rfl) ?_
    refine .m rfl rfl rfl (.add rfl rfl rfl (by omega) (by omega)) ?_
    refine .m rfl rfl rfl (.assign rfl) ?_
    refine .nil ?_
    refine hKL1 ((k + 1, _, _)) _ _ ?_ ?_ ⟨rfl, rfl, rfl, rfl, trivial⟩
    ·
     refine ⟨lst1, by first | assumption | (rw [thenL_take_succ (by omega)]; assumption), by omega, by first | omega | (simp only [List.length_append, List.length_cons, List.length_nil]; omega) | (rw [thenL_take_succ (by omega)]; first | omega | (simp only [List.length_append, List.length_cons, List.length_nil]; omega)), ?_⟩
     omega
    ·
     (dsimp only; omega)
   ·
    try simp only [sps] at h11
    refine .exit ?_
    refine hK3 _ _ ?_
    refine .seq (fun K8 hK8 => ?_)
    refine .region ?_
    refine .m rfl rfl rfl (.move rfl) ?_
    refine .m rfl rfl rfl (.assign rfl) ?_
    refine .nil ?_
    refine hK8 _ _ ?_
    refine .ret ?_
    -- leaf e1
    refine hret _ _ ?_
    refine ⟨_, rfl, ?_⟩
    obtain rfl : k = xs.length := by omega
    rw [List.take_length] at at_L5 ln_L5
    exact ⟨hle, _, by rw [ln_L5], at_L5, ge_L5⟩
end Go.Proofs.Ytihkbggaaopebaa
