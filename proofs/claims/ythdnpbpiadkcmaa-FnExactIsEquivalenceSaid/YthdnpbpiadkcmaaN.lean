/- Equivalences. No condition but those of each statement. -/
import Derived.Test.YthdnpbpiadkcmaaL
import Derived.Test.YthdnpbpiadkcmaaGlT
namespace Go.Proofs.Ythdnpbpiadkcmaa
open Go Go.GL Go.RowKit Go.Proofs
theorem ag_27_N : aggT Try.prog 27 = some 12 := by kernel_rfl
theorem bo_4_N : isBoolT Try.prog 4 = true := by kernel_rfl
theorem has_c {a : Option Addr} {xs : List Int} {n : Int} {H : GHeap} (h : Ints H a xs := by assumption) (hl : xs.length ≤ 1048576 := by omega) :
    GCalls Try.prog 163 [.slice a xs.length xs.length, .int .i64 n] H (Ret (.bool (xs.contains n)) H) := by
  refine GCalls.body (N := 17) (rs := [.tmp 4]) Try.func163 rfl rfl rfl rfl (fun Qx hret hend => ?_)
  refine .forget (fr' := [(0, some _), (1, some _)]) ⟨rfl, rfl, trivial⟩ ?_
  refine .seq (fun K1 hK1 => ?_)
  refine .region ?_
  refine .m rfl rfl rfl (.assign rfl) ?_
  refine .nil ?_
  refine hK1 _ _ ?_
  refine .seq (fun K2 hK2 => ?_)
  refine .seq (fun K3 hK3 => ?_)
  refine .region ?_
  refine .m rfl rfl rfl (.move rfl) ?_
  refine .m rfl rfl rfl (.len sl_22_A rfl) ?_
  refine .m rfl rfl rfl (.move rfl) ?_
  refine .nil ?_
  refine hK3 _ _ ?_
  refine .block ?_
  refine .loopR (σ := Nat) [(1, some _), (7, some _), (8, some _)] (fun k => [(9, some (.int .i64 (k : Int)))]) (fun k H' => H = H' ∧ (k : Int) ≤ xs.length ∧ ∀ i, i < k → ¬ xs.getD i 0 = n) (fun k => (xs.length - k : Int).toNat) (0) ⟨rfl, rfl, rfl, trivial⟩ ⟨rfl, trivial⟩ ?_ ?_
  ·
   refine ⟨rfl, ?_⟩
   exact ⟨by omega, fun _ _ => by omega⟩
  ·
   rintro k _ ⟨rfl, hI⟩ KL1 hKL1
   refine .forget (fr' := [(9, some (.int .i64 (k : Int))), (1, some _), (7, some _), (8, some _)]) ⟨rfl, rfl, rfl, rfl, trivial⟩ ?_
   obtain ⟨hk1, ha1⟩ := hI
   refine .seq (fun K4 hK4 => ?_)
   refine .region ?_
   refine .m rfl rfl rfl (.cmp rfl rfl rfl) ?_
   refine .nil ?_
   refine hK4 _ _ ?_
   refine .seq (fun K5 hK5 => ?_)
   refine .cond rfl (fun h10 => ?_) (fun h10 => ?_)
   ·
    try simp only [sps] at h10
    refine .skip ?_
    refine hK5 _ _ ?_
    refine .seq (fun K6 hK6 => ?_)
    refine .block ?_
    refine .seq (fun K7 hK7 => ?_)
    refine .region ?_
    refine .m rfl rfl rfl (.idxN sl_22_A (by assumption) rfl rfl (by omega)) ?_
    refine .m rfl rfl rfl (.loadI on_2_A (by assumption) rfl (by omega)) ?_
    refine .m rfl rfl rfl (.assign rfl) ?_
    refine .nil ?_
    refine hK7 _ _ ?_
    refine .seq (fun K8 hK8 => ?_)
    refine .region ?_
    refine .m rfl rfl rfl (.move rfl) ?_
    refine .m rfl rfl rfl (.move rfl) ?_
    refine .m rfl rfl rfl (.cmp rfl rfl rfl) ?_
    refine .nil ?_
    refine hK8 _ _ ?_
    refine .cond rfl (fun h15 => ?_) (fun h15 => ?_)
    ·
     try simp only [sps] at h15
     refine .seq (fun K9 hK9 => ?_)
     refine .region ?_
     refine .m rfl rfl rfl (.assign rfl) ?_
     refine .nil ?_
     refine hK9 _ _ ?_
     refine .ret ?_
     -- leaf e1
     refine hret _ _ ?_
     refine ⟨_, rfl, ?_⟩
     exact .of (congrArg _ (List.contains_iff_mem.2 (by rw [← h15]; exact getD_mem (by omega))))
    ·
     try simp only [sps] at h15
     refine .skip ?_
     refine hK6 _ _ ?_
     refine .region ?_
     refine .m rfl rfl rfl (.add rfl rfl rfl (by omega) (by omega)) ?_
     refine .m rfl rfl rfl (.move rfl) ?_
     refine .nil ?_
     refine hKL1 (k + 1) _ _ ?_ ?_ ⟨rfl, rfl, rfl, rfl, trivial⟩
     ·
      refine ⟨rfl, ?_⟩
      refine ⟨by omega, fun i hx => ?_⟩
      by_cases e : i < k
      · exact ha1 i e
      · obtain rfl : i = k := by omega
        first | assumption | omega | simp_all
     ·
      omega
   ·
    try simp only [sps] at h10
    refine .exit ?_
    refine hK2 _ _ ?_
    refine .seq (fun K10 hK10 => ?_)
    refine .region ?_
    refine .m rfl rfl rfl (.assign rfl) ?_
    refine .nil ?_
    refine hK10 _ _ ?_
    refine .ret ?_
    -- leaf e2
    refine hret _ _ ?_
    refine ⟨_, rfl, ?_⟩
    exact .of (congrArg _ (Bool.eq_false_iff.2 fun hc => by
      obtain ⟨i, hi, e⟩ := mem_getD (List.contains_iff_mem.1 hc)
      exact ha1 i (by omega) e))
theorem implThen_c {a b : Option Addr} {xs zs : List Int} {H : GHeap} (h : Ints H a xs := by assumption) (h' : Ints H b zs := by assumption) (hb : ∀ i, i < xs.length → 0 ≤ xs.getD i 0 ∧ xs.getD i 0 < zs.length := by assumption) (hl : xs.length ≤ 1048576 := by omega) :
    GCalls Try.prog 128 [.slice a xs.length xs.length, .slice b zs.length zs.length] H (NewInts 2 H (thenL xs zs)) := by
  refine GCalls.body (N := 27) (rs := [.tmp 4]) Try.func128 rfl rfl rfl rfl (fun Qx hret hend => ?_)
  refine .forget (fr' := [(0, some _), (1, some _)]) ⟨rfl, rfl, trivial⟩ ?_
  have hle := GHeap.Le.refl H
  have base_h := h
  have base_h' := h'
  refine .seq (fun K1 hK1 => ?_)
  refine .region ?_
  refine .m rfl rfl rfl (.assign rfl) ?_
  refine .nil ?_
  refine hK1 _ _ ?_
  refine .seq (fun K2 hK2 => ?_)
  refine .region ?_
  refine .m rfl rfl rfl (.move rfl) ?_
  refine .m rfl rfl rfl (.len sl_22_A rfl) ?_
  refine .r rfl rfl rfl (.makeIN rfl sl_22_A ze_2_E by_2_E rfl rfl (by omega) (by omega) (by omega)) ?_
  rintro _ H10 ⟨g10, rfl, le10, ge10, at10⟩
  have nx_H10 := le10.1
  replace hle := hle.trans le10
  have lt_at10 := GHeap.lt_of_get at10
  replace h := base_h.mono hle
  replace h' := base_h'.mono hle
  refine .m rfl rfl rfl (.assign rfl) ?_
  refine .nil ?_
  refine hK2 _ _ ?_
  refine .seq (fun K3 hK3 => ?_)
  refine .seq (fun K4 hK4 => ?_)
  refine .region ?_
  refine .m rfl rfl rfl (.move rfl) ?_
  refine .m rfl rfl rfl (.len sl_22_A rfl) ?_
  refine .m rfl rfl rfl (.move rfl) ?_
  refine .nil ?_
  refine hK4 _ _ ?_
  refine .block ?_
  refine .loopR (σ := Nat × List Int) [(1, some _), (5, some _), (11, some _), (12, some _)] (fun (k, ys) => [(13, some (.int .i64 (k : Int)))]) (fun (k, ys) H' => St [g10] H10 H' ∧ H'.get g10 = some (.row (ints ys) 2 true) ∧ k ≤ xs.length ∧ ys.length = xs.length ∧ ∀ i, i < k → ys.getD i 0 = zs.getD (xs.getD i 0).toNat 0) (fun (k, ys) => xs.length - k) ((0, List.replicate xs.length 0)) ⟨rfl, rfl, rfl, rfl, trivial⟩ ⟨rfl, trivial⟩ ?_ ?_
  ·
   refine ⟨.refl _ _, by first | assumption | exact at10 | simpa using at10, ?_⟩
   exact ⟨by omega, by simp, fun _ _ => by omega⟩
  ·
   rintro ⟨k, ys⟩ HL1 ⟨lst1, at_L5, hI⟩ KL1 hKL1
   refine .forget (fr' := [(13, some (.int .i64 (k : Int))), (1, some _), (5, some _), (11, some _), (12, some _)]) ⟨rfl, rfl, rfl, rfl, rfl, trivial⟩ ?_
   have nx_HL1 := lst1.nx
   replace hle := hle.st lst1 (fun k hk => ⟨by omega, trivial⟩)
   have lt_at_L5 := GHeap.lt_of_get at_L5
   replace h := base_h.mono hle
   replace h' := base_h'.mono hle
   obtain ⟨hk, hyl, ha⟩ := hI
   have hsl := SlA.of_ints at_L5 hyl
   refine .seq (fun K5 hK5 => ?_)
   refine .region ?_
   refine .m rfl rfl rfl (.cmp rfl rfl rfl) ?_
   refine .nil ?_
   refine hK5 _ _ ?_
   refine .seq (fun K6 hK6 => ?_)
   refine .cond rfl (fun h14 => ?_) (fun h14 => ?_)
   ·
    simp only [sps] at h14
    have q1 := hb k (by omega)
    refine .skip ?_
    refine hK6 _ _ ?_
    refine .seq (fun K7 hK7 => ?_)
    refine .block ?_
    refine .seq (fun K8 hK8 => ?_)
    refine .region ?_
    refine .m rfl rfl rfl (.move rfl) ?_
    refine .m rfl rfl rfl (.idxN sl_22_A (by assumption) rfl rfl (by omega)) ?_
    refine .m rfl rfl rfl (.loadI on_2_A (by assumption) rfl (by omega)) ?_
    refine .m rfl rfl rfl (.assign rfl) ?_
    refine .m rfl rfl rfl (.assign rfl) ?_
    refine .nil ?_
    refine hK8 _ _ ?_
    refine .region ?_
    refine .m rfl rfl rfl (.move rfl) ?_
    refine .m rfl rfl rfl (.move rfl) ?_
    refine .m rfl rfl rfl (.move rfl) ?_
    refine .m rfl rfl rfl (.move rfl) ?_
    refine .m rfl rfl rfl (.idx1 sl_22_A (by assumption) rfl rfl (by omega) (by omega)) ?_
    refine .m rfl rfl rfl (.loadI on_2_A (by assumption) rfl (by omega)) ?_
    refine .m rfl rfl rfl (.idxN sl_22_A (by assumption) rfl rfl (by omega)) ?_
    refine .r0 rfl rfl (.storeI rfl sz_2_E rfl rfl (by assumption) (by simp; omega)) ?_
    rintro _ H5007 ⟨rfl, st5007, at5007⟩
    have nx_H5007 := st5007.nx
    replace hle := hle.st st5007 (fun k hk => ⟨by omega, trivial⟩)
    replace lst1 := lst1.st st5007 (fun k hk ho => by simp only [out, and_true] at ho ⊢ <;> omega)
    have lt_at5007 := GHeap.lt_of_get at5007
    replace h := base_h.mono hle
    replace h' := base_h'.mono hle
    refine .nil ?_
    refine hK7 _ _ ?_
    refine .region ?_
    refine .m rfl rfl rfl (.add rfl rfl rfl (by omega) (by omega)) ?_
    refine .m rfl rfl rfl (.move rfl) ?_
    refine .nil ?_
    refine hKL1 ((k + 1, ys.set (0 + k) (zs.getD (xs.getD k 0).toNat 0))) _ _ ?_ ?_ ⟨rfl, rfl, rfl, rfl, rfl, trivial⟩
    ·
     refine ⟨lst1, by assumption, ?_⟩
     refine ⟨by omega, by simpa using hyl, fun i hi => ?_⟩
     rw [Nat.zero_add, getD_set (by omega)]
     split
     · rename_i e; rw [e]
     · exact ha i (by omega)
    ·
     (dsimp only; omega)
   ·
    try simp only [sps] at h14
    refine .exit ?_
    refine hK3 _ _ ?_
    refine .seq (fun K9 hK9 => ?_)
    refine .region ?_
    refine .m rfl rfl rfl (.move rfl) ?_
    refine .m rfl rfl rfl (.assign rfl) ?_
    refine .nil ?_
    refine hK9 _ _ ?_
    refine .ret ?_
    -- leaf e1
    refine hret _ _ ?_
    refine ⟨_, rfl, ?_⟩
    obtain rfl := thenL_eq hyl fun i hi => ha i (by omega)
    exact ⟨hle, _, by rw [length_thenL], at_L5, by omega⟩
theorem l01Then_c {a b : Option Addr} {xs zs : List Int} {H : GHeap} (h : Ints H a xs := by assumption) (h' : Ints H b zs := by assumption) (hb : ∀ i, i < xs.length → 0 ≤ xs.getD i 0 ∧ xs.getD i 0 < zs.length := by assumption) (hl : xs.length ≤ 1048576 := by omega) :
    GCalls Try.prog 70 [.slice a xs.length xs.length, .slice b zs.length zs.length] H (NewInts 2 H (thenL xs zs)) := by
  refine GCalls.body (N := 25) (rs := [.tmp 4]) Try.func70 rfl rfl rfl rfl (fun Qx hret hend => ?_)
  refine .forget (fr' := [(0, some _), (1, some _)]) ⟨rfl, rfl, trivial⟩ ?_
  have hle := GHeap.Le.refl H
  have base_h := h
  have base_h' := h'
  refine .seq (fun K1 hK1 => ?_)
  refine .region ?_
  refine .m rfl rfl rfl (.assign rfl) ?_
  refine .nil ?_
  refine hK1 _ _ ?_
  refine .seq (fun K2 hK2 => ?_)
  refine .region ?_
  refine .r rfl rfl rfl (.litR rfl sl_22_A ze_2_E rfl rfl (by omega) (by omega) rfl rfl) ?_
  rintro _ H7 ⟨g7, rfl, le7, ge7, at7⟩
  have nx_H7 := le7.1
  replace hle := hle.trans le7
  have lt_at7 := GHeap.lt_of_get at7
  replace h := base_h.mono hle
  replace h' := base_h'.mono hle
  refine .m rfl rfl rfl (.assign rfl) ?_
  refine .nil ?_
  refine hK2 _ _ ?_
  refine .seq (fun K3 hK3 => ?_)
  refine .seq (fun K4 hK4 => ?_)
  refine .region ?_
  refine .m rfl rfl rfl (.assign rfl) ?_
  refine .nil ?_
  refine hK4 _ _ ?_
  refine .block ?_
  refine .loopR (σ := Nat × Nat × Nat) [(0, some _), (1, some _)] (fun (k, gL5, nL5) => [(6, some (.int .i64 (k : Int))), (5, some (.slice (some ⟨gL5, 0, none⟩) nL5 nL5))]) (fun (k, gL5, nL5) H' => St [g7] H7 H' ∧ H'.get gL5 = some (.row (ints (thenL (xs.take k) zs)) 2 true) ∧ (gL5 = g7 ∨ H7.next ≤ gL5) ∧ nL5 = (thenL (xs.take k) zs).length ∧ k ≤ xs.length) (fun (k, gL5, nL5) => xs.length - k) ((0, _, _)) ⟨rfl, rfl, trivial⟩ ⟨rfl, rfl, trivial⟩ ?_ ?_
  ·
   refine ⟨.refl _ _, by first | assumption | exact at7 | simpa using at7, .inl rfl, by first | rfl | simp | omega, ?_⟩
   omega
  ·
   rintro ⟨k, gL5, nL5⟩ HL1 ⟨lst1, at_L5, pl_L5, ln_L5, hI⟩ KL1 hKL1
   refine .forget (fr' := [(6, some (.int .i64 (k : Int))), (5, some (.slice (some ⟨gL5, 0, none⟩) nL5 nL5)), (0, some _), (1, some _)]) ⟨rfl, rfl, rfl, rfl, trivial⟩ ?_
   have ge_L5 : H.next ≤ gL5 := by omega
   have nx_HL1 := lst1.nx
   replace hle := hle.st lst1 (fun k hk => ⟨by omega, trivial⟩)
   have lt_at_L5 := GHeap.lt_of_get at_L5
   replace h := base_h.mono hle
   replace h' := base_h'.mono hle
   have hfl : (thenL (xs.take k) zs).length = k := by simp; omega
   refine .seq (fun K5 hK5 => ?_)
   refine .seq (fun K6 hK6 => ?_)
   refine .region ?_
   refine .m rfl rfl rfl (.move rfl) ?_
   refine .m rfl rfl rfl (.move rfl) ?_
   refine .m rfl rfl rfl (.len sl_22_A rfl) ?_
   refine .m rfl rfl rfl (.cmp rfl rfl rfl) ?_
   refine .nil ?_
   refine hK6 _ _ ?_
   refine .cond rfl (fun h11 => ?_) (fun h11 => ?_)
   ·
    simp only [sps] at h11
    have q1 := hb k (by omega)
    refine .skip ?_
    refine hK5 _ _ ?_
    refine .seq (fun K7 hK7 => ?_)
    refine .block ?_
    refine .region ?_
    refine .m rfl rfl rfl (.move rfl) ?_
    refine .m rfl rfl rfl (.move rfl) ?_
    refine .m rfl rfl rfl (.move rfl) ?_
    refine .m rfl rfl rfl (.move rfl) ?_
    refine .m rfl rfl rfl (.idxN sl_22_A (by assumption) rfl rfl (by omega)) ?_
    refine .m rfl rfl rfl (.loadI on_2_A (by assumption) rfl (by omega)) ?_
    refine .m rfl rfl rfl (.idx1 sl_22_A (by assumption) rfl rfl (by omega) (by omega)) ?_
    refine .m rfl rfl rfl (.loadI on_2_A (by assumption) rfl (by omega)) ?_
    refine .r rfl rfl rfl (.litR rfl sl_22_A ze_2_E rfl rfl (by omega) (by omega) rfl rfl) ?_
    rintro _ H22 ⟨g22, rfl, le22, ge22, at22⟩
    have nx_H22 := le22.1
    replace hle := hle.trans le22
    replace lst1 := lst1.le le22
    replace at_L5 := le22.2 _ _ at_L5
    have lt_at22 := GHeap.lt_of_get at22
    replace h := base_h.mono hle
    replace h' := base_h'.mono hle
    refine .r rfl rfl rfl (.appendI rfl sl_22_A ze_2_E rfl by_2_E sl_22_A rfl rfl (by assumption) (by assumption) (by first | omega | (simp; omega)) (by omega) (by omega)) ?_
    rintro _ H23 ⟨g23, rfl, st23, ge23, at23⟩
    have nx_H23 := st23.nx
    replace hle := hle.st st23 (fun k hk => ⟨by omega, trivial⟩)
    replace lst1 := lst1.st st23 (fun k hk ho => by simp only [out, and_true] at ho ⊢ <;> omega)
    replace at22 := st23.same _ _ ⟨by omega, trivial⟩ at22
    have lt_at23 := GHeap.lt_of_get at23
    replace h := base_h.mono hle
    replace h' := base_h'.mono hle
    refine .m rfl rfl rfl (.assign rfl) ?_
    refine .nil ?_
    refine hK7 _ _ ?_
    refine .region ?_
    refine .m rfl rfl rfl (.move rfl) ?_
    refine .m rfl rfl rfl (.add rfl rfl rfl (by omega) (by omega)) ?_
    refine .m rfl rfl rfl (.assign rfl) ?_
    refine .nil ?_
    refine hKL1 ((k + 1, _, _)) _ _ ?_ ?_ ⟨rfl, rfl, rfl, rfl, trivial⟩
    ·
     refine ⟨lst1, by first | assumption | (rw [thenL_take_succ (by omega)]; assumption), by omega, by first | omega | (simp only [List.length_append, List.length_cons, List.length_nil]; omega) | (rw [thenL_take_succ (by omega)]; first | omega | (simp only [List.length_append, List.length_cons, List.length_nil]; omega)), ?_⟩
     omega
    ·
     (dsimp only; omega)
   ·
    try simp only [sps] at h11
    refine .exit ?_
    refine hK3 _ _ ?_
    refine .seq (fun K8 hK8 => ?_)
    refine .region ?_
    refine .m rfl rfl rfl (.move rfl) ?_
    refine .m rfl rfl rfl (.assign rfl) ?_
    refine .nil ?_
    refine hK8 _ _ ?_
    refine .ret ?_
    -- leaf e1
    refine hret _ _ ?_
    refine ⟨_, rfl, ?_⟩
    obtain rfl : k = xs.length := by omega
    rw [List.take_length] at at_L5 ln_L5
    exact ⟨hle, _, by rw [ln_L5], at_L5, ge_L5⟩
theorem l02Hom_c {c : Cat} {p : CatP} {x y : Int} {H : GHeap} (hin : c.In H p := by assumption) (hS : c.Shape := by assumption) :
    GCalls Try.prog 144 [.agg (c.cells p).toArray, .int .i64 x, .int .i64 y] H (NewInts 2 H (c.hom x y)) := by
  refine GCalls.body (N := 38) (rs := [.tmp 6]) Try.func144 rfl rfl rfl rfl (fun Qx hret hend => ?_)
  refine .forget (fr' := [(0, some _), (1, some _), (2, some _)]) ⟨rfl, rfl, rfl, trivial⟩ ?_
  have hle := GHeap.Le.refl H
  have base_hin := hin
  have q1 := hS.tl
  have q2 := hS.n40
  refine .seq (fun K1 hK1 => ?_)
  refine .region ?_
  refine .r rfl rfl rfl (.boxR rfl sz_31_D rfl) ?_
  rintro _ H3 ⟨g3, rfl, le3, ge3, at3⟩
  have nx_H3 := le3.1
  replace hle := hle.trans le3
  have lt_at3 := GHeap.lt_of_get at3
  replace hin := base_hin.mono hle
  have hb3 : Cat.At _ g3 0 c p := ⟨Mem.of_get at3, hin⟩
  obtain ⟨c03, c13, c23, c33, c43, i13, i23, i33, i43⟩ := hb3.get
  have hm3 : MemN _ _ _ _ _ := ⟨rfl, hb3.1⟩
  have hi3 := hb3.2
  refine .m rfl rfl rfl (.assign rfl) ?_
  refine .nil ?_
  refine hK1 _ _ ?_
  refine .seq (fun K2 hK2 => ?_)
  refine .region ?_
  refine .r rfl rfl rfl (.litR rfl sl_22_A ze_2_E rfl rfl (by omega) (by omega) rfl rfl) ?_
  rintro _ H9 ⟨g9, rfl, le9, ge9, at9⟩
  have nx_H9 := le9.1
  replace hle := hle.trans le9
  replace at3 := le9.2 _ _ at3
  have lt_at9 := GHeap.lt_of_get at9
  replace hin := base_hin.mono hle
  clear hb3 c03 c13 c23 c33 c43 i13 i23 i33 i43 hm3 hi3
  have hb3 : Cat.At _ g3 0 c p := ⟨Mem.of_get at3, hin⟩
  obtain ⟨c03, c13, c23, c33, c43, i13, i23, i33, i43⟩ := hb3.get
  have hm3 : MemN _ _ _ _ _ := ⟨rfl, hb3.1⟩
  have hi3 := hb3.2
  refine .m rfl rfl rfl (.assign rfl) ?_
  refine .nil ?_
  refine hK2 _ _ ?_
  refine .seq (fun K3 hK3 => ?_)
  refine .seq (fun K4 hK4 => ?_)
  refine .region ?_
  refine .m rfl rfl rfl (.assign rfl) ?_
  refine .nil ?_
  refine hK4 _ _ ?_
  refine .block ?_
  refine .loopR (σ := Nat × Nat × Nat) [(1, some _), (2, some _), (3, some _)] (fun (k, gL7, nL7) => [(8, some (.int .i64 (k : Int))), (7, some (.slice (some ⟨gL7, 0, none⟩) nL7 nL7))]) (fun (k, gL7, nL7) H' => St [g9] H9 H' ∧ H'.get gL7 = some (.row (ints (filtN k fun f => decide (c.src.getD f 0 = x) && decide (c.tgt.getD f 0 = y))) 2 true) ∧ (gL7 = g9 ∨ H9.next ≤ gL7) ∧ nL7 = (filtN k fun f => decide (c.src.getD f 0 = x) && decide (c.tgt.getD f 0 = y)).length ∧ k ≤ c.src.length) (fun (k, gL7, nL7) => c.src.length - k) ((0, _, _)) ⟨rfl, rfl, rfl, trivial⟩ ⟨rfl, rfl, trivial⟩ ?_ ?_
  ·
   refine ⟨.refl _ _, by first | assumption | exact at9 | simpa using at9, .inl rfl, by first | rfl | simp | omega, ?_⟩
   omega
  ·
   rintro ⟨k, gL7, nL7⟩ HL1 ⟨lst1, at_L7, pl_L7, ln_L7, hI⟩ KL1 hKL1
   refine .forget (fr' := [(8, some (.int .i64 (k : Int))), (7, some (.slice (some ⟨gL7, 0, none⟩) nL7 nL7)), (1, some _), (2, some _), (3, some _)]) ⟨rfl, rfl, rfl, rfl, rfl, trivial⟩ ?_
   have ge_L7 : H.next ≤ gL7 := by omega
   have nx_HL1 := lst1.nx
   replace hle := hle.st lst1 (fun k hk => ⟨by omega, trivial⟩)
   replace at3 := lst1.same _ _ ⟨by omega, trivial⟩ at3
   have lt_at_L7 := GHeap.lt_of_get at_L7
   replace hin := base_hin.mono hle
   clear hb3 c03 c13 c23 c33 c43 i13 i23 i33 i43 hm3 hi3
   have hb3 : Cat.At _ g3 0 c p := ⟨Mem.of_get at3, hin⟩
   obtain ⟨c03, c13, c23, c33, c43, i13, i23, i33, i43⟩ := hb3.get
   have hm3 : MemN _ _ _ _ _ := ⟨rfl, hb3.1⟩
   have hi3 := hb3.2
   have hfl := filtN_le k fun f => decide (c.src.getD f 0 = x) && decide (c.tgt.getD f 0 = y)
   refine .seq (fun K5 hK5 => ?_)
   refine .seq (fun K6 hK6 => ?_)
   refine .region ?_
   refine .m rfl rfl rfl (.move rfl) ?_
   refine .m rfl rfl rfl (.fieldAddr fo_31_1_B rfl) ?_
   refine .m rfl rfl rfl (.load on_22_B rfl (by assumption)) ?_
   refine .m rfl rfl rfl (.len sl_22_A rfl) ?_
   refine .m rfl rfl rfl (.cmp rfl rfl rfl) ?_
   refine .nil ?_
   refine hK6 _ _ ?_
   refine .cond rfl (fun h14 => ?_) (fun h14 => ?_)
   ·
    try simp only [sps] at h14
    refine .skip ?_
    refine hK5 _ _ ?_
    refine .seq (fun K7 hK7 => ?_)
    refine .block ?_
    refine .seq (fun K8 hK8 => ?_)
    refine .region ?_
    refine .m rfl rfl rfl (.fieldAddr fo_31_1_B rfl) ?_
    refine .m rfl rfl rfl (.load on_22_B rfl (by assumption)) ?_
    refine .m rfl rfl rfl (.move rfl) ?_
    refine .m rfl rfl rfl (.idxN sl_22_A (by assumption) rfl rfl (by omega)) ?_
    refine .m rfl rfl rfl (.loadI on_2_A (by assumption) rfl (by omega)) ?_
    refine .m rfl rfl rfl (.move rfl) ?_
    refine .m rfl rfl rfl (.cmp rfl rfl rfl) ?_
    refine .m rfl rfl rfl (.move rfl) ?_
    refine .split (fun h24 => ?_) (fun h24 => ?_)
    ·
     try simp only [sps] at h24
     refine .mg rfl rfl rfl rfl rfl (.fieldAddr fo_31_2_B rfl) ?_
     refine .mg rfl rfl rfl rfl rfl (.load on_22_B rfl (by assumption)) ?_
     refine .mg rfl rfl rfl rfl rfl (.move rfl) ?_
     refine .mg rfl rfl rfl rfl rfl (.idxN sl_22_A (by assumption) rfl rfl (by omega)) ?_
     refine .mg rfl rfl rfl rfl rfl (.loadI on_2_A (by assumption) rfl (by omega)) ?_
     refine .mg rfl rfl rfl rfl rfl (.move rfl) ?_
     refine .mg rfl rfl rfl rfl rfl (.cmp rfl rfl rfl) ?_
     refine .m rfl rfl rfl (.pickT rfl rfl) ?_
     refine .nil ?_
     refine hK8 _ _ ?_
     refine .cond rfl (fun h32 => ?_) (fun h32 => ?_)
     ·
      try simp only [sps] at h32
      refine .region ?_
      refine .m rfl rfl rfl (.move rfl) ?_
      refine .m rfl rfl rfl (.move rfl) ?_
      refine .r rfl rfl rfl (.litR rfl sl_22_A ze_2_E rfl rfl (by omega) (by omega) rfl rfl) ?_
      rintro _ H35 ⟨g35, rfl, le35, ge35, at35⟩
      have nx_H35 := le35.1
      replace hle := hle.trans le35
      replace lst1 := lst1.le le35
      replace at3 := le35.2 _ _ at3
      replace at_L7 := le35.2 _ _ at_L7
      have lt_at35 := GHeap.lt_of_get at35
      replace hin := base_hin.mono hle
      clear hb3 c03 c13 c23 c33 c43 i13 i23 i33 i43 hm3 hi3
      have hb3 : Cat.At _ g3 0 c p := ⟨Mem.of_get at3, hin⟩
      obtain ⟨c03, c13, c23, c33, c43, i13, i23, i33, i43⟩ := hb3.get
      have hm3 : MemN _ _ _ _ _ := ⟨rfl, hb3.1⟩
      have hi3 := hb3.2
      refine .r rfl rfl rfl (.appendI rfl sl_22_A ze_2_E rfl by_2_E sl_22_A rfl rfl (by assumption) (by assumption) (by first | omega | (simp; omega)) (by omega) (by omega)) ?_
      rintro _ H36 ⟨g36, rfl, st36, ge36, at36⟩
      have nx_H36 := st36.nx
      replace hle := hle.st st36 (fun k hk => ⟨by omega, trivial⟩)
      replace lst1 := lst1.st st36 (fun k hk ho => by simp only [out, and_true] at ho ⊢ <;> omega)
      replace at3 := st36.same _ _ ⟨by omega, trivial⟩ at3
      replace at35 := st36.same _ _ ⟨by omega, trivial⟩ at35
      have lt_at36 := GHeap.lt_of_get at36
      replace hin := base_hin.mono hle
      clear hb3 c03 c13 c23 c33 c43 i13 i23 i33 i43 hm3 hi3
      have hb3 : Cat.At _ g3 0 c p := ⟨Mem.of_get at3, hin⟩
      obtain ⟨c03, c13, c23, c33, c43, i13, i23, i33, i43⟩ := hb3.get
      have hm3 : MemN _ _ _ _ _ := ⟨rfl, hb3.1⟩
      have hi3 := hb3.2
      refine .m rfl rfl rfl (.assign rfl) ?_
      refine .nil ?_
      refine hK7 _ _ ?_
      refine .region ?_
      refine .m rfl rfl rfl (.move rfl) ?_
      refine .m rfl rfl rfl (.add rfl rfl rfl (by omega) (by omega)) ?_
      refine .m rfl rfl rfl (.assign rfl) ?_
      refine .nil ?_
      refine hKL1 ((k + 1, _, _)) _ _ ?_ ?_ ⟨rfl, rfl, rfl, rfl, rfl, trivial⟩
      ·
       refine ⟨lst1, by first | assumption | (rw [filtN_T (by simp only [sps]; omega)]; assumption) | (rw [filtN_F (by simp only [sps]; omega)]; assumption), by omega, by first | omega | (simp only [List.length_append, List.length_cons, List.length_nil]; omega) | (rw [filtN_T (by simp only [sps]; omega)]; first | omega | (simp only [List.length_append, List.length_cons, List.length_nil]; omega)) | (rw [filtN_F (by simp only [sps]; omega)]; first | omega | (simp only [List.length_append, List.length_cons, List.length_nil]; omega)), ?_⟩
       omega
      ·
       (dsimp only; omega)
     ·
      try simp only [sps] at h32
      refine .skip ?_
      refine hK7 _ _ ?_
      refine .region ?_
      refine .m rfl rfl rfl (.move rfl) ?_
      refine .m rfl rfl rfl (.add rfl rfl rfl (by omega) (by omega)) ?_
      refine .m rfl rfl rfl (.assign rfl) ?_
      refine .nil ?_
      refine hKL1 ((k + 1, _, _)) _ _ ?_ ?_ ⟨rfl, rfl, rfl, rfl, rfl, trivial⟩
      ·
       refine ⟨lst1, by first | assumption | (rw [filtN_T (by simp only [sps]; omega)]; assumption) | (rw [filtN_F (by simp only [sps]; omega)]; assumption), by omega, by first | omega | (simp only [List.length_append, List.length_cons, List.length_nil]; omega) | (rw [filtN_T (by simp only [sps]; omega)]; first | omega | (simp only [List.length_append, List.length_cons, List.length_nil]; omega)) | (rw [filtN_F (by simp only [sps]; omega)]; first | omega | (simp only [List.length_append, List.length_cons, List.length_nil]; omega)), ?_⟩
       omega
      ·
       (dsimp only; omega)
    ·
     try simp only [sps] at h24
     refine .sg rfl rfl rfl rfl rfl ?_
     refine .sg rfl rfl rfl rfl rfl ?_
     refine .sg rfl rfl rfl rfl rfl ?_
     refine .sg rfl rfl rfl rfl rfl ?_
     refine .sg rfl rfl rfl rfl rfl ?_
     refine .sg rfl rfl rfl rfl rfl ?_
     refine .sg rfl rfl rfl rfl rfl ?_
     refine .m rfl rfl rfl (.pickF rfl rfl) ?_
     refine .nil ?_
     refine hK8 _ _ ?_
     refine .condF rfl ?_
     refine .skip ?_
     refine hK7 _ _ ?_
     refine .region ?_
     refine .m rfl rfl rfl (.move rfl) ?_
     refine .m rfl rfl rfl (.add rfl rfl rfl (by omega) (by omega)) ?_
     refine .m rfl rfl rfl (.assign rfl) ?_
     refine .nil ?_
     refine hKL1 ((k + 1, _, _)) _ _ ?_ ?_ ⟨rfl, rfl, rfl, rfl, rfl, trivial⟩
     ·
      refine ⟨lst1, by first | assumption | (rw [filtN_T (by simp only [sps]; omega)]; assumption) | (rw [filtN_F (by simp only [sps]; omega)]; assumption), by omega, by first | omega | (simp only [List.length_append, List.length_cons, List.length_nil]; omega) | (rw [filtN_T (by simp only [sps]; omega)]; first | omega | (simp only [List.length_append, List.length_cons, List.length_nil]; omega)) | (rw [filtN_F (by simp only [sps]; omega)]; first | omega | (simp only [List.length_append, List.length_cons, List.length_nil]; omega)), ?_⟩
      omega
     ·
      (dsimp only; omega)
   ·
    try simp only [sps] at h14
    refine .exit ?_
    refine hK3 _ _ ?_
    refine .seq (fun K9 hK9 => ?_)
    refine .region ?_
    refine .m rfl rfl rfl (.move rfl) ?_
    refine .m rfl rfl rfl (.assign rfl) ?_
    refine .nil ?_
    refine hK9 _ _ ?_
    refine .ret ?_
    -- leaf e1
    refine hret _ _ ?_
    refine ⟨_, rfl, ?_⟩
    obtain rfl : k = c.src.length := by omega
    exact ⟨hle, _, by rw [ln_L7]; rfl, at_L7, ge_L7⟩
theorem l02Then_c {c : Cat} {p : CatP} {f k : Int} {H : GHeap} (hin : c.In H p := by assumption) (hS : c.Shape := by assumption) (h0 : 0 ≤ f := by omega) (h1 : f < c.src.length := by omega) (h2 : 0 ≤ k := by omega) (h3 : k < c.src.length := by omega) :
    GCalls Try.prog 99 [.agg (c.cells p).toArray, .int .i64 f, .int .i64 k] H (Ret (.int .i64 (c.th f k)) H) := by
  refine GCalls.ret rfl ?_
  refine GCalls.body (N := 15) (rs := [.tmp 6]) Try.func99 rfl rfl rfl rfl (fun Qx hret hend => ?_)
  refine .forget (fr' := [(0, some _), (1, some _), (2, some _)]) ⟨rfl, rfl, rfl, trivial⟩ ?_
  have hle := GHeap.Le.refl H
  have base_hin := hin
  have q6 := hS.cl
  have q7 := hS.row f.toNat (by omega)
  refine .seq (fun K1 hK1 => ?_)
  refine .region ?_
  refine .r rfl rfl rfl (.boxR rfl sz_31_D rfl) ?_
  rintro _ H3 ⟨g3, rfl, le3, ge3, at3⟩
  have nx_H3 := le3.1
  replace hle := hle.trans le3
  have lt_at3 := GHeap.lt_of_get at3
  replace hin := base_hin.mono hle
  have hb3 : Cat.At _ g3 0 c p := ⟨Mem.of_get at3, hin⟩
  obtain ⟨c03, c13, c23, c33, c43, i13, i23, i33, i43⟩ := hb3.get
  have hm3 : MemN _ _ _ _ _ := ⟨rfl, hb3.1⟩
  have hi3 := hb3.2
  refine .m rfl rfl rfl (.assign rfl) ?_
  refine .nil ?_
  refine hK1 _ _ ?_
  refine .seq (fun K2 hK2 => ?_)
  refine .region ?_
  have q8 := i43.2 f.toNat (by omega)
  refine .m rfl rfl rfl (.fieldAddr fo_31_4_B rfl) ?_
  refine .m rfl rfl rfl (.load on_23_B rfl (by assumption)) ?_
  refine .m rfl rfl rfl (.move rfl) ?_
  refine .m rfl rfl rfl (.idx1 sl_23_B (Intss.sl (by assumption)) rfl rfl (by omega) (by omega)) ?_
  refine .m rfl rfl rfl (.loadR on_22_B (by assumption) rfl (by omega)) ?_
  refine .m rfl rfl rfl (.move rfl) ?_
  refine .m rfl rfl rfl (.idx1 sl_22_A (by assumption) rfl rfl (by omega) (by omega)) ?_
  refine .m rfl rfl rfl (.loadI on_2_A (by assumption) rfl (by omega)) ?_
  refine .m rfl rfl rfl (.assign rfl) ?_
  refine .nil ?_
  refine hK2 _ _ ?_
  refine .ret ?_
  -- leaf e1
  refine hret _ _ ?_
  refine ⟨_, rfl, ?_⟩
  exact ⟨rfl, hle⟩
theorem l02Unit_c {c : Cat} {p : CatP} {f : Int} {H : GHeap} (hin : c.In H p := by assumption) (hS : c.Shape := by assumption) (h0 : 0 ≤ f := by omega) (h1 : f < c.src.length := by omega) :
    GCalls Try.prog 188 [.agg (c.cells p).toArray, .int .i64 f] H (Ret (.bool (decide (c.idn.getD (c.src.getD f.toNat 0).toNat 0 = f))) H) := by
  refine GCalls.ret rfl ?_
  refine GCalls.body (N := 16) (rs := [.tmp 4]) Try.func188 rfl rfl rfl rfl (fun Qx hret hend => ?_)
  refine .forget (fr' := [(0, some _), (1, some _)]) ⟨rfl, rfl, trivial⟩ ?_
  have hle := GHeap.Le.refl H
  have base_hin := hin
  have q4 := hS.src f.toNat (by omega)
  have q3 := hS.il
  refine .seq (fun K1 hK1 => ?_)
  refine .region ?_
  refine .r rfl rfl rfl (.boxR rfl sz_31_D rfl) ?_
  rintro _ H2 ⟨g2, rfl, le2, ge2, at2⟩
  have nx_H2 := le2.1
  replace hle := hle.trans le2
  have lt_at2 := GHeap.lt_of_get at2
  replace hin := base_hin.mono hle
  have hb2 : Cat.At _ g2 0 c p := ⟨Mem.of_get at2, hin⟩
  obtain ⟨c02, c12, c22, c32, c42, i12, i22, i32, i42⟩ := hb2.get
  have hm2 : MemN _ _ _ _ _ := ⟨rfl, hb2.1⟩
  have hi2 := hb2.2
  refine .m rfl rfl rfl (.assign rfl) ?_
  refine .nil ?_
  refine hK1 _ _ ?_
  refine .seq (fun K2 hK2 => ?_)
  refine .regionD mixed_orders_B (.q 0 (.q 1 (.q 2 (.q 3 (.q 4 (.q 5 (.q 6 (.q 7 (.q 8 (.q 9 (.q 10 (.q 11 (.done))))))))))))) (by kernel_rfl) ?_
  refine .m rfl rfl rfl rfl (.refl _) (.fieldAddr fo_31_3_B rfl) ?_
  refine .m rfl rfl rfl rfl (.refl _) (.load on_22_B rfl (by assumption)) ?_
  refine .m rfl rfl rfl rfl (.refl _) (.fieldAddr fo_31_1_B rfl) ?_
  refine .m rfl rfl rfl rfl (.refl _) (.load on_22_B rfl (by assumption)) ?_
  refine .m rfl rfl rfl rfl (.refl _) (.move rfl) ?_
  refine .m rfl rfl rfl rfl (.refl _) (.idx1 sl_22_A (by assumption) rfl rfl (by omega) (by omega)) ?_
  refine .m rfl rfl rfl rfl (.refl _) (.loadI on_2_A (by assumption) rfl (by omega)) ?_
  refine .m rfl rfl rfl rfl (.refl _) (.idx1 sl_22_A (by assumption) rfl rfl (by omega) (by omega)) ?_
  refine .m rfl rfl rfl rfl (.refl _) (.loadI on_2_A (by assumption) rfl (by omega)) ?_
  refine .m rfl rfl rfl rfl (.refl _) (.move rfl) ?_
  refine .m rfl rfl rfl rfl (.refl _) (.cmp rfl rfl rfl) ?_
  refine .m rfl rfl rfl rfl (.refl _) (.assign rfl) ?_
  refine .done ?_
  refine hK2 _ _ ?_
  refine .ret ?_
  -- leaf e1
  refine hret _ _ ?_
  refine ⟨_, rfl, ?_⟩
  exact ⟨congrArg _ (by rw [Bool.eq_iff_iff]; simp), hle⟩
theorem l02Inverse_c {c : Cat} {p : CatP} {f : Int} {H : GHeap} (hin : c.In H p := by assumption) (hS : c.Shape := by assumption) (h0 : 0 ≤ f := by omega) (h1 : f < c.src.length := by omega) :
    GCalls Try.prog 181 [.agg (c.cells p).toArray, .int .i64 f] H (Ret (.int .i64 (c.inv f)) H) := by
  refine GCalls.ret rfl ?_
  refine GCalls.body (N := 49) (rs := [.tmp 4]) Try.func181 rfl rfl rfl rfl (fun Qx hret hend => ?_)
  refine .forget (fr' := [(0, some _), (1, some _)]) ⟨rfl, rfl, trivial⟩ ?_
  have hle := GHeap.Le.refl H
  have base_hin := hin
  have q1 := hS.tl
  have q2 := hS.n40
  have q8 := c.hom_le (c.tgt.getD f.toNat 0) (c.src.getD f.toNat 0)
  refine .seq (fun K1 hK1 => ?_)
  refine .region ?_
  refine .r rfl rfl rfl (.boxR rfl sz_31_D rfl) ?_
  rintro _ H2 ⟨g2, rfl, le2, ge2, at2⟩
  have nx_H2 := le2.1
  replace hle := hle.trans le2
  have lt_at2 := GHeap.lt_of_get at2
  replace hin := base_hin.mono hle
  have hb2 : Cat.At _ g2 0 c p := ⟨Mem.of_get at2, hin⟩
  obtain ⟨c02, c12, c22, c32, c42, i12, i22, i32, i42⟩ := hb2.get
  have hm2 : MemN _ _ _ _ _ := ⟨rfl, hb2.1⟩
  have hi2 := hb2.2
  refine .m rfl rfl rfl (.assign rfl) ?_
  refine .nil ?_
  refine hK1 _ _ ?_
  refine .seq (fun K2 hK2 => ?_)
  refine .regionD mixed_orders_B (.q 0 (.q 1 (.q 2 (.q 3 (.q 4 (.q 5 (.q 6 (.q 7 (.q 8 (.q 9 (.q 10 (.c 11 0 (.q 12 (.done)))))))))))))) (by kernel_rfl) ?_
  refine .m rfl rfl rfl rfl (.refl _) (.loadM ag_31_D rfl (by assumption)) ?_
  refine .m rfl rfl rfl rfl (.refl _) (.fieldAddr fo_31_2_B rfl) ?_
  refine .m rfl rfl rfl rfl (.refl _) (.load on_22_B rfl (by assumption)) ?_
  refine .m rfl rfl rfl rfl (.refl _) (.move rfl) ?_
  refine .m rfl rfl rfl rfl (.refl _) (.idx1 sl_22_A (by assumption) rfl rfl (by omega) (by omega)) ?_
  refine .m rfl rfl rfl rfl (.refl _) (.loadI on_2_A (by assumption) rfl (by omega)) ?_
  refine .m rfl rfl rfl rfl (.refl _) (.fieldAddr fo_31_1_B rfl) ?_
  refine .m rfl rfl rfl rfl (.refl _) (.load on_22_B rfl (by assumption)) ?_
  refine .m rfl rfl rfl rfl (.refl _) (.move rfl) ?_
  refine .m rfl rfl rfl rfl (.refl _) (.idx1 sl_22_A (by assumption) rfl rfl (by omega) (by omega)) ?_
  refine .m rfl rfl rfl rfl (.refl _) (.loadI on_2_A (by assumption) rfl (by omega)) ?_
  refine .call0 rfl rfl rfl rfl rfl @Try.call144 rfl (l02Hom_c) ?_
  rintro _ H18 ⟨le18, g18, rfl, at18, ge18⟩
  have nx_H18 := le18.1
  replace hle := hle.trans le18
  replace at2 := le18.2 _ _ at2
  have lt_at18 := GHeap.lt_of_get at18
  replace hin := base_hin.mono hle
  clear hb2 c02 c12 c22 c32 c42 i12 i22 i32 i42 hm2 hi2
  have hb2 : Cat.At _ g2 0 c p := ⟨Mem.of_get at2, hin⟩
  obtain ⟨c02, c12, c22, c32, c42, i12, i22, i32, i42⟩ := hb2.get
  have hm2 : MemN _ _ _ _ _ := ⟨rfl, hb2.1⟩
  have hi2 := hb2.2
  have i18 := Ints.of_get at18
  refine .m rfl rfl rfl rfl (.refl _) (.assign rfl) ?_
  refine .done ?_
  refine hK2 _ _ ?_
  refine .seq (fun K3 hK3 => ?_)
  refine .seq (fun K4 hK4 => ?_)
  refine .region ?_
  refine .m rfl rfl rfl (.assign rfl) ?_
  refine .nil ?_
  refine hK4 _ _ ?_
  refine .block ?_
  refine .loopR (σ := Nat) [(1, some _), (2, some _), (5, some _)] (fun k => [(6, some (.int .i64 (k : Int)))]) (fun k H' => H18 = H' ∧ (k : Int) ≤ (c.hom (c.tgt.getD f.toNat 0) (c.src.getD f.toNat 0)).length ∧ ∀ i, i < k → c.invB f ((c.hom (c.tgt.getD f.toNat 0) (c.src.getD f.toNat 0)).getD i 0) = false) (fun k => ((c.hom (c.tgt.getD f.toNat 0) (c.src.getD f.toNat 0)).length - k : Int).toNat) (0) ⟨rfl, rfl, rfl, trivial⟩ ⟨rfl, trivial⟩ ?_ ?_
  ·
   refine ⟨rfl, ?_⟩
   exact ⟨by omega, fun _ _ => by omega⟩
  ·
   rintro k _ ⟨rfl, hI⟩ KL1 hKL1
   refine .forget (fr' := [(6, some (.int .i64 (k : Int))), (1, some _), (2, some _), (5, some _)]) ⟨rfl, rfl, rfl, rfl, trivial⟩ ?_
   obtain ⟨hk1, ha1⟩ := hI
   refine .seq (fun K5 hK5 => ?_)
   refine .seq (fun K6 hK6 => ?_)
   refine .region ?_
   refine .m rfl rfl rfl (.move rfl) ?_
   refine .m rfl rfl rfl (.move rfl) ?_
   refine .m rfl rfl rfl (.len sl_22_A rfl) ?_
   refine .m rfl rfl rfl (.cmp rfl rfl rfl) ?_
   refine .nil ?_
   refine hK6 _ _ ?_
   refine .cond rfl (fun h22 => ?_) (fun h22 => ?_)
   ·
    simp only [sps] at h22
    obtain ⟨j, j1', j2', j3', j4'⟩ := c.hom_get (x := (c.tgt.getD f.toNat 0)) (y := (c.src.getD f.toNat 0)) (i := k) (by omega)
    have hj : ((c.hom (c.tgt.getD f.toNat 0) (c.src.getD f.toNat 0)).getD k 0).toNat = j := by omega
    have z1 := hS.cell f.toNat (by have := hS.cl; omega) j (by omega)
    rw [Cat.Cell.pos (by omega)] at z1
    have z2 := hS.cell j (by have := hS.cl; omega) f.toNat (by omega)
    rw [Cat.Cell.pos (by omega)] at z2
    have z3 : c.th f ((c.hom (c.tgt.getD f.toNat 0) (c.src.getD f.toNat 0)).getD k 0) = (c.comp.getD f.toNat []).getD j 0 := by show (c.comp.getD f.toNat []).getD _ 0 = _; rw [hj]
    have z4 : c.th ((c.hom (c.tgt.getD f.toNat 0) (c.src.getD f.toNat 0)).getD k 0) f = (c.comp.getD j []).getD f.toNat 0 := by show (c.comp.getD _ []).getD _ 0 = _; rw [hj]
    rw [← z3] at z1
    rw [← z4] at z2
    rw [show (c.src.getD j 0) = c.tgt.getD f.toNat 0 by omega, show (c.tgt.getD f.toNat 0) = c.tgt.getD f.toNat 0 by rfl] at z2
    refine .skip ?_
    refine hK5 _ _ ?_
    refine .seq (fun K7 hK7 => ?_)
    refine .block ?_
    refine .seq (fun K8 hK8 => ?_)
    refine .regionD mixed_orders_B (.q 0 (.q 1 (.q 2 (.q 3 (.q 4 (.q 5 (.q 6 (.c 7 1 (.c 8 0 (.q 9 (.q 10 (.q 11 (.q 12 (.q 13 (.q 14 (.q 15 (.q 16 (.c 17 1 (.c 18 0 (.q 19 (.done))))))))))))))))))))) (by kernel_rfl) ?_
    refine .m rfl rfl rfl rfl (.refl _) (.loadM ag_31_D rfl (by assumption)) ?_
    refine .m rfl rfl rfl rfl (.refl _) (.loadM ag_31_D rfl (by assumption)) ?_
    refine .m rfl rfl rfl rfl (.refl _) (.move rfl) ?_
    refine .m rfl rfl rfl rfl (.refl _) (.move rfl) ?_
    refine .m rfl rfl rfl rfl (.refl _) (.move rfl) ?_
    refine .m rfl rfl rfl rfl (.refl _) (.idxN sl_22_A (by assumption) rfl rfl (by omega)) ?_
    refine .m rfl rfl rfl rfl (.refl _) (.loadI on_2_A (by assumption) rfl (by omega)) ?_
    refine .callQ1 rfl rfl rfl rfl rfl @Try.call99 rfl (l02Then_c) (.refl _) ?_
    refine .callQ0 rfl rfl rfl rfl rfl @Try.call188 rfl (l02Unit_c) ?_
    refine .m rfl rfl rfl rfl (.refl _) (.move rfl) ?_
    refine .split (fun h34 => ?_) (fun h34 => ?_)
    ·
     try simp only [sps] at h34
     refine .mg rfl rfl rfl rfl rfl rfl (.refl _) (.loadM ag_31_D rfl (by assumption)) ?_
     refine .mg rfl rfl rfl rfl rfl rfl (.refl _) (.loadM ag_31_D rfl (by assumption)) ?_
     refine .mg rfl rfl rfl rfl rfl rfl (.refl _) (.move rfl) ?_
     refine .mg rfl rfl rfl rfl rfl rfl (.refl _) (.move rfl) ?_
     refine .mg rfl rfl rfl rfl rfl rfl (.refl _) (.idxN sl_22_A (by assumption) rfl rfl (by omega)) ?_
     refine .mg rfl rfl rfl rfl rfl rfl (.refl _) (.loadI on_2_A (by assumption) rfl (by omega)) ?_
     refine .mg rfl rfl rfl rfl rfl rfl (.refl _) (.move rfl) ?_
     refine .callQ1g rfl rfl rfl rfl rfl rfl rfl @Try.call99 rfl (l02Then_c) (.refl _) ?_
     refine .callQ0g rfl rfl rfl rfl rfl rfl rfl @Try.call188 rfl (l02Unit_c) ?_
     refine .m rfl rfl rfl rfl (.refl _) (.pickT rfl rfl) ?_
     refine .done ?_
     refine hK8 _ _ ?_
     refine .cond rfl (fun h44 => ?_) (fun h44 => ?_)
     ·
      try simp only [sps] at h44
      refine .seq (fun K9 hK9 => ?_)
      refine .region ?_
      refine .m rfl rfl rfl (.move rfl) ?_
      refine .m rfl rfl rfl (.move rfl) ?_
      refine .m rfl rfl rfl (.idxN sl_22_A (by assumption) rfl rfl (by omega)) ?_
      refine .m rfl rfl rfl (.loadI on_2_A (by assumption) rfl (by omega)) ?_
      refine .m rfl rfl rfl (.assign rfl) ?_
      refine .nil ?_
      refine hK9 _ _ ?_
      refine .ret ?_
      -- leaf e1
      refine hret _ _ ?_
      refine ⟨_, rfl, ?_⟩
      exact ⟨congrArg _ (firstIn_some (i := k) (by omega) (by simp only [Cat.invB, sps]; rw [z1.2.2.1] at h34; rw [z2.2.2.1] at h44; omega) ha1), hle⟩
     ·
      try simp only [sps] at h44
      refine .skip ?_
      refine hK7 _ _ ?_
      refine .region ?_
      refine .m rfl rfl rfl (.move rfl) ?_
      refine .m rfl rfl rfl (.add rfl rfl rfl (by omega) (by omega)) ?_
      refine .m rfl rfl rfl (.assign rfl) ?_
      refine .nil ?_
      refine hKL1 (k + 1) _ _ ?_ ?_ ⟨rfl, rfl, rfl, rfl, trivial⟩
      ·
       refine ⟨rfl, ?_⟩
       refine ⟨by omega, fun i hx => ?_⟩
       by_cases e : i < k
       · exact ha1 i e
       · obtain rfl : i = k := by omega
         simp only [Cat.invB, sps]; (try rw [z1.2.2.1] at h34); (try rw [z2.2.2.1] at h44); omega
      ·
       omega
    ·
     try simp only [sps] at h34
     refine .sg rfl rfl rfl rfl rfl rfl ?_
     refine .sg rfl rfl rfl rfl rfl rfl ?_
     refine .sg rfl rfl rfl rfl rfl rfl ?_
     refine .sg rfl rfl rfl rfl rfl rfl ?_
     refine .sg rfl rfl rfl rfl rfl rfl ?_
     refine .sg rfl rfl rfl rfl rfl rfl ?_
     refine .sg rfl rfl rfl rfl rfl rfl ?_
     refine .sgc rfl rfl rfl rfl rfl rfl ?_
     refine .sgc rfl rfl rfl rfl rfl rfl ?_
     refine .m rfl rfl rfl rfl (.refl _) (.pickF rfl rfl) ?_
     refine .done ?_
     refine hK8 _ _ ?_
     refine .condF rfl ?_
     refine .skip ?_
     refine hK7 _ _ ?_
     refine .region ?_
     refine .m rfl rfl rfl (.move rfl) ?_
     refine .m rfl rfl rfl (.add rfl rfl rfl (by omega) (by omega)) ?_
     refine .m rfl rfl rfl (.assign rfl) ?_
     refine .nil ?_
     refine hKL1 (k + 1) _ _ ?_ ?_ ⟨rfl, rfl, rfl, rfl, trivial⟩
     ·
      refine ⟨rfl, ?_⟩
      refine ⟨by omega, fun i hx => ?_⟩
      by_cases e : i < k
      · exact ha1 i e
      · obtain rfl : i = k := by omega
        simp only [Cat.invB, sps]; (try rw [z1.2.2.1] at h34); (try rw [z2.2.2.1] at h44); omega
     ·
      omega
   ·
    try simp only [sps] at h22
    refine .exit ?_
    refine hK3 _ _ ?_
    refine .seq (fun K10 hK10 => ?_)
    refine .region ?_
    refine .m rfl rfl rfl (.assign rfl) ?_
    refine .nil ?_
    refine hK10 _ _ ?_
    refine .ret ?_
    -- leaf e2
    refine hret _ _ ?_
    refine ⟨_, rfl, ?_⟩
    exact ⟨congrArg _ (firstIn_none fun i hi => ha1 i (by omega)), hle⟩
theorem l03Parallel_c {c : Cat} {p : CatP} {f k : Nat} {H : GHeap} (hin : c.In H p := by assumption) (hS : c.Shape := by assumption) (h1 : f < c.src.length := by omega) (h3 : k < c.src.length := by omega) :
    GCalls Try.prog 161 [.agg (c.cells p).toArray, .int .i64 (f : Int), .int .i64 (k : Int)] H (Ret (.bool (decide (c.src.getD f 0 = c.src.getD k 0 ∧ c.tgt.getD f 0 = c.tgt.getD k 0))) H) := by
  refine GCalls.ret rfl ?_
  refine GCalls.body (N := 31) (rs := [.tmp 6]) Try.func161 rfl rfl rfl rfl (fun Qx hret hend => ?_)
  refine .forget (fr' := [(0, some _), (1, some _), (2, some _)]) ⟨rfl, rfl, rfl, trivial⟩ ?_
  have hle := GHeap.Le.refl H
  have base_hin := hin
  have q4 := hS.tl
  refine .seq (fun K1 hK1 => ?_)
  refine .region ?_
  refine .r rfl rfl rfl (.boxR rfl sz_31_D rfl) ?_
  rintro _ H3 ⟨g3, rfl, le3, ge3, at3⟩
  have nx_H3 := le3.1
  replace hle := hle.trans le3
  have lt_at3 := GHeap.lt_of_get at3
  replace hin := base_hin.mono hle
  have hb3 : Cat.At _ g3 0 c p := ⟨Mem.of_get at3, hin⟩
  obtain ⟨c03, c13, c23, c33, c43, i13, i23, i33, i43⟩ := hb3.get
  have hm3 : MemN _ _ _ _ _ := ⟨rfl, hb3.1⟩
  have hi3 := hb3.2
  refine .m rfl rfl rfl (.assign rfl) ?_
  refine .nil ?_
  refine hK1 _ _ ?_
  refine .seq (fun K2 hK2 => ?_)
  refine .regionD mixed_orders_B (.q 0 (.q 1 (.q 2 (.q 3 (.q 4 (.q 5 (.q 6 (.q 7 (.q 8 (.q 9 (.q 10 (.q 11 (.q 12 (.q 13 (.q 14 (.q 15 (.q 16 (.q 17 (.q 18 (.q 19 (.q 20 (.q 21 (.q 22 (.q 23 (.q 24 (.done)))))))))))))))))))))))))) (by kernel_rfl) ?_
  refine .m rfl rfl rfl rfl (.refl _) (.fieldAddr fo_31_1_B rfl) ?_
  refine .m rfl rfl rfl rfl (.refl _) (.load on_22_B rfl (by assumption)) ?_
  refine .m rfl rfl rfl rfl (.refl _) (.move rfl) ?_
  refine .m rfl rfl rfl rfl (.refl _) (.idxN sl_22_A (by assumption) rfl rfl (by omega)) ?_
  refine .m rfl rfl rfl rfl (.refl _) (.loadI on_2_A (by assumption) rfl (by omega)) ?_
  refine .m rfl rfl rfl rfl (.refl _) (.fieldAddr fo_31_1_B rfl) ?_
  refine .m rfl rfl rfl rfl (.refl _) (.load on_22_B rfl (by assumption)) ?_
  refine .m rfl rfl rfl rfl (.refl _) (.move rfl) ?_
  refine .m rfl rfl rfl rfl (.refl _) (.idxN sl_22_A (by assumption) rfl rfl (by omega)) ?_
  refine .m rfl rfl rfl rfl (.refl _) (.loadI on_2_A (by assumption) rfl (by omega)) ?_
  refine .m rfl rfl rfl rfl (.refl _) (.cmp rfl rfl rfl) ?_
  refine .m rfl rfl rfl rfl (.refl _) (.move rfl) ?_
  refine .split (fun h18 => ?_) (fun h18 => ?_)
  ·
   try simp only [sps] at h18
   refine .mg rfl rfl rfl rfl rfl rfl (.refl _) (.fieldAddr fo_31_2_B rfl) ?_
   refine .mg rfl rfl rfl rfl rfl rfl (.refl _) (.load on_22_B rfl (by assumption)) ?_
   refine .mg rfl rfl rfl rfl rfl rfl (.refl _) (.move rfl) ?_
   refine .mg rfl rfl rfl rfl rfl rfl (.refl _) (.idxN sl_22_A (by assumption) rfl rfl (by omega)) ?_
   refine .mg rfl rfl rfl rfl rfl rfl (.refl _) (.loadI on_2_A (by assumption) rfl (by omega)) ?_
   refine .mg rfl rfl rfl rfl rfl rfl (.refl _) (.fieldAddr fo_31_2_B rfl) ?_
   refine .mg rfl rfl rfl rfl rfl rfl (.refl _) (.load on_22_B rfl (by assumption)) ?_
   refine .mg rfl rfl rfl rfl rfl rfl (.refl _) (.move rfl) ?_
   refine .mg rfl rfl rfl rfl rfl rfl (.refl _) (.idxN sl_22_A (by assumption) rfl rfl (by omega)) ?_
   refine .mg rfl rfl rfl rfl rfl rfl (.refl _) (.loadI on_2_A (by assumption) rfl (by omega)) ?_
   refine .mg rfl rfl rfl rfl rfl rfl (.refl _) (.cmp rfl rfl rfl) ?_
   refine .m rfl rfl rfl rfl (.refl _) (.pickT rfl rfl) ?_
   refine .m rfl rfl rfl rfl (.refl _) (.assign rfl) ?_
   refine .done ?_
   refine hK2 _ _ ?_
   refine .ret ?_
   -- leaf e1
   refine hret _ _ ?_
   refine ⟨_, rfl, ?_⟩
   exact ⟨congrArg _ (by rw [Bool.eq_iff_iff]; simp only [sps]; first | omega | (simp only [Bool.false_eq_true, iff_false, not_and]; intros; omega)), hle⟩
  ·
   try simp only [sps] at h18
   refine .sg rfl rfl rfl rfl rfl rfl ?_
   refine .sg rfl rfl rfl rfl rfl rfl ?_
   refine .sg rfl rfl rfl rfl rfl rfl ?_
   refine .sg rfl rfl rfl rfl rfl rfl ?_
   refine .sg rfl rfl rfl rfl rfl rfl ?_
   refine .sg rfl rfl rfl rfl rfl rfl ?_
   refine .sg rfl rfl rfl rfl rfl rfl ?_
   refine .sg rfl rfl rfl rfl rfl rfl ?_
   refine .sg rfl rfl rfl rfl rfl rfl ?_
   refine .sg rfl rfl rfl rfl rfl rfl ?_
   refine .sg rfl rfl rfl rfl rfl rfl ?_
   refine .m rfl rfl rfl rfl (.refl _) (.pickF rfl rfl) ?_
   refine .m rfl rfl rfl rfl (.refl _) (.assign rfl) ?_
   refine .done ?_
   refine hK2 _ _ ?_
   refine .ret ?_
   -- leaf e2
   refine hret _ _ ?_
   refine ⟨_, rfl, ?_⟩
   exact ⟨congrArg _ (by rw [Bool.eq_iff_iff]; simp only [sps]; first | omega | (simp only [Bool.false_eq_true, iff_false, not_and]; intros; omega)), hle⟩
theorem l06Alike_c {c : Cat} {p : CatP} {x y : Int} {H : GHeap} (hin : c.In H p := by assumption) (hS : c.Shape := by assumption) :
    GCalls Try.prog 162 [.agg (c.cells p).toArray, .int .i64 x, .int .i64 y] H (Ret (.bool (B (c.Alike x y))) H) := by
  refine GCalls.ret rfl ?_
  refine GCalls.body (N := 26) (rs := [.tmp 6]) Try.func162 rfl rfl rfl rfl (fun Qx hret hend => ?_)
  refine .forget (fr' := [(0, some _), (1, some _), (2, some _)]) ⟨rfl, rfl, rfl, trivial⟩ ?_
  have hle := GHeap.Le.refl H
  have base_hin := hin
  have q2 := hS.n40
  have q8 := c.hom_le x y
  refine .seq (fun K1 hK1 => ?_)
  refine .region ?_
  refine .r rfl rfl rfl (.boxR rfl sz_31_D rfl) ?_
  rintro _ H3 ⟨g3, rfl, le3, ge3, at3⟩
  have nx_H3 := le3.1
  replace hle := hle.trans le3
  have lt_at3 := GHeap.lt_of_get at3
  replace hin := base_hin.mono hle
  have hb3 : Cat.At _ g3 0 c p := ⟨Mem.of_get at3, hin⟩
  obtain ⟨c03, c13, c23, c33, c43, i13, i23, i33, i43⟩ := hb3.get
  have hm3 : MemN _ _ _ _ _ := ⟨rfl, hb3.1⟩
  have hi3 := hb3.2
  refine .m rfl rfl rfl (.assign rfl) ?_
  refine .nil ?_
  refine hK1 _ _ ?_
  refine .seq (fun K2 hK2 => ?_)
  refine .region ?_
  refine .m rfl rfl rfl (.loadM ag_31_D rfl (by assumption)) ?_
  refine .m rfl rfl rfl (.move rfl) ?_
  refine .m rfl rfl rfl (.move rfl) ?_
  refine .call rfl rfl rfl rfl @Try.call144 rfl (l02Hom_c) ?_
  rintro _ H12 ⟨le12, g12, rfl, at12, ge12⟩
  have nx_H12 := le12.1
  replace hle := hle.trans le12
  replace at3 := le12.2 _ _ at3
  have lt_at12 := GHeap.lt_of_get at12
  replace hin := base_hin.mono hle
  clear hb3 c03 c13 c23 c33 c43 i13 i23 i33 i43 hm3 hi3
  have hb3 : Cat.At _ g3 0 c p := ⟨Mem.of_get at3, hin⟩
  obtain ⟨c03, c13, c23, c33, c43, i13, i23, i33, i43⟩ := hb3.get
  have hm3 : MemN _ _ _ _ _ := ⟨rfl, hb3.1⟩
  have hi3 := hb3.2
  have i12 := Ints.of_get at12
  refine .m rfl rfl rfl (.assign rfl) ?_
  refine .nil ?_
  refine hK2 _ _ ?_
  refine .seq (fun K3 hK3 => ?_)
  refine .seq (fun K4 hK4 => ?_)
  refine .region ?_
  refine .m rfl rfl rfl (.assign rfl) ?_
  refine .nil ?_
  refine hK4 _ _ ?_
  refine .block ?_
  refine .loopR (σ := Nat) [(3, some _), (7, some _)] (fun k => [(8, some (.int .i64 (k : Int)))]) (fun k H' => H12 = H' ∧ (k : Int) ≤ (c.hom x y).length ∧ ∀ i, i < k → ¬ 0 ≤ c.inv ((c.hom x y).getD i 0)) (fun k => ((c.hom x y).length - k : Int).toNat) (0) ⟨rfl, rfl, trivial⟩ ⟨rfl, trivial⟩ ?_ ?_
  ·
   refine ⟨rfl, ?_⟩
   exact ⟨by omega, fun _ _ => by omega⟩
  ·
   rintro k _ ⟨rfl, hI⟩ KL1 hKL1
   refine .forget (fr' := [(8, some (.int .i64 (k : Int))), (3, some _), (7, some _)]) ⟨rfl, rfl, rfl, trivial⟩ ?_
   obtain ⟨hk1, ha1⟩ := hI
   refine .seq (fun K5 hK5 => ?_)
   refine .seq (fun K6 hK6 => ?_)
   refine .region ?_
   refine .m rfl rfl rfl (.move rfl) ?_
   refine .m rfl rfl rfl (.move rfl) ?_
   refine .m rfl rfl rfl (.len sl_22_A rfl) ?_
   refine .m rfl rfl rfl (.cmp rfl rfl rfl) ?_
   refine .nil ?_
   refine hK6 _ _ ?_
   refine .cond rfl (fun h16 => ?_) (fun h16 => ?_)
   ·
    simp only [sps] at h16
    obtain ⟨j, j1', j2', j3', j4'⟩ := c.hom_get (x := x) (y := y) (i := k) (by omega)
    refine .skip ?_
    refine hK5 _ _ ?_
    refine .seq (fun K7 hK7 => ?_)
    refine .block ?_
    refine .seq (fun K8 hK8 => ?_)
    refine .regionD mixed_orders_B (.q 0 (.q 1 (.q 2 (.q 3 (.q 4 (.c 5 0 (.q 6 (.done)))))))) (by kernel_rfl) ?_
    refine .m rfl rfl rfl rfl (.refl _) (.loadM ag_31_D rfl (by assumption)) ?_
    refine .m rfl rfl rfl rfl (.refl _) (.move rfl) ?_
    refine .m rfl rfl rfl rfl (.refl _) (.move rfl) ?_
    refine .m rfl rfl rfl rfl (.refl _) (.idxN sl_22_A (by assumption) rfl rfl (by omega)) ?_
    refine .m rfl rfl rfl rfl (.refl _) (.loadI on_2_A (by assumption) rfl (by omega)) ?_
    refine .callQ0 rfl rfl rfl rfl rfl @Try.call181 rfl (l02Inverse_c) ?_
    refine .m rfl rfl rfl rfl (.refl _) (.cmp rfl rfl rfl) ?_
    refine .done ?_
    refine hK8 _ _ ?_
    refine .cond rfl (fun h25 => ?_) (fun h25 => ?_)
    ·
     try simp only [sps] at h25
     refine .seq (fun K9 hK9 => ?_)
     refine .region ?_
     refine .m rfl rfl rfl (.assign rfl) ?_
     refine .nil ?_
     refine hK9 _ _ ?_
     refine .ret ?_
     -- leaf e1
     refine hret _ _ ?_
     refine ⟨_, rfl, ?_⟩
     exact ⟨congrArg _ (B_true ⟨_, getD_mem (by omega), h25⟩), hle⟩
    ·
     try simp only [sps] at h25
     refine .skip ?_
     refine hK7 _ _ ?_
     refine .region ?_
     refine .m rfl rfl rfl (.move rfl) ?_
     refine .m rfl rfl rfl (.add rfl rfl rfl (by omega) (by omega)) ?_
     refine .m rfl rfl rfl (.assign rfl) ?_
     refine .nil ?_
     refine hKL1 (k + 1) _ _ ?_ ?_ ⟨rfl, rfl, rfl, trivial⟩
     ·
      refine ⟨rfl, ?_⟩
      refine ⟨by omega, fun i hx => ?_⟩
      by_cases e : i < k
      · exact ha1 i e
      · obtain rfl : i = k := by omega
        first | assumption | omega | simp_all
     ·
      omega
   ·
    try simp only [sps] at h16
    refine .exit ?_
    refine hK3 _ _ ?_
    refine .seq (fun K10 hK10 => ?_)
    refine .region ?_
    refine .m rfl rfl rfl (.assign rfl) ?_
    refine .nil ?_
    refine hK10 _ _ ?_
    refine .ret ?_
    -- leaf e2
    refine hret _ _ ?_
    refine ⟨_, rfl, ?_⟩
    exact ⟨congrArg _ (B_false fun ⟨g, hg, h0⟩ => by
      obtain ⟨i, hi, rfl⟩ := mem_getD hg
      exact ha1 i (by omega) h0), hle⟩
theorem isomorphic_c {g o : Nat} {c : Cat} {p : CatP} {x y : Int} {H : GHeap} (h : Cat.At H g o c p := by assumption) (hS : c.Shape := by assumption) :
    GCalls Try.prog 164 [.pointer (some ⟨g, o, none⟩), .int .i64 x, .int .i64 y] H (Ret (.int .i64 (c.iso x y)) H) := by
  refine GCalls.ret rfl ?_
  refine GCalls.body (N := 24) (rs := [.tmp 6]) Try.func164 rfl rfl rfl rfl (fun Qx hret hend => ?_)
  refine .forget (fr' := [(0, some _), (1, some _), (2, some _)]) ⟨rfl, rfl, rfl, trivial⟩ ?_
  have hle := GHeap.Le.refl H
  have base_h := h
  have q2 := hS.n40
  have q8 := c.hom_le x y
  refine .seq (fun K1 hK1 => ?_)
  refine .region ?_
  refine .m rfl rfl rfl (.assign rfl) ?_
  refine .nil ?_
  refine hK1 _ _ ?_
  refine .seq (fun K2 hK2 => ?_)
  refine .seq (fun K3 hK3 => ?_)
  refine .region ?_
  refine .m rfl rfl rfl (.move rfl) ?_
  refine .m rfl rfl rfl (.move rfl) ?_
  refine .m rfl rfl rfl (.move rfl) ?_
  refine .call rfl rfl rfl rfl @Try.call148 rfl (hom_c) ?_
  rintro _ H12 ⟨le12, g12, rfl, at12, ge12⟩
  have nx_H12 := le12.1
  replace hle := hle.trans le12
  have lt_at12 := GHeap.lt_of_get at12
  replace h := base_h.mono hle
  have i12 := Ints.of_get at12
  refine .m rfl rfl rfl (.len sl_22_A rfl) ?_
  refine .m rfl rfl rfl (.move rfl) ?_
  refine .nil ?_
  refine hK3 _ _ ?_
  refine .block ?_
  refine .loopR (σ := Nat) [(0, some _), (12, some _), (13, some _)] (fun k => [(14, some (.int .i64 (k : Int)))]) (fun k H' => H12 = H' ∧ (k : Int) ≤ (c.hom x y).length ∧ ∀ i, i < k → decide (0 ≤ c.inv ((c.hom x y).getD i 0)) = false) (fun k => ((c.hom x y).length - k : Int).toNat) (0) ⟨rfl, rfl, rfl, trivial⟩ ⟨rfl, trivial⟩ ?_ ?_
  ·
   refine ⟨rfl, ?_⟩
   exact ⟨by omega, fun _ _ => by omega⟩
  ·
   rintro k _ ⟨rfl, hI⟩ KL1 hKL1
   refine .forget (fr' := [(14, some (.int .i64 (k : Int))), (0, some _), (12, some _), (13, some _)]) ⟨rfl, rfl, rfl, rfl, trivial⟩ ?_
   obtain ⟨hk1, ha1⟩ := hI
   refine .seq (fun K4 hK4 => ?_)
   refine .region ?_
   refine .m rfl rfl rfl (.cmp rfl rfl rfl) ?_
   refine .nil ?_
   refine hK4 _ _ ?_
   refine .seq (fun K5 hK5 => ?_)
   refine .cond rfl (fun h15 => ?_) (fun h15 => ?_)
   ·
    simp only [sps] at h15
    obtain ⟨j, j1', j2', j3', j4'⟩ := c.hom_get (x := x) (y := y) (i := k) (by omega)
    refine .skip ?_
    refine hK5 _ _ ?_
    refine .seq (fun K6 hK6 => ?_)
    refine .block ?_
    refine .seq (fun K7 hK7 => ?_)
    refine .region ?_
    refine .m rfl rfl rfl (.idxN sl_22_A (by assumption) rfl rfl (by omega)) ?_
    refine .m rfl rfl rfl (.loadI on_2_A (by assumption) rfl (by omega)) ?_
    refine .m rfl rfl rfl (.assign rfl) ?_
    refine .nil ?_
    refine hK7 _ _ ?_
    refine .seq (fun K8 hK8 => ?_)
    refine .region ?_
    refine .m rfl rfl rfl (.move rfl) ?_
    refine .m rfl rfl rfl (.move rfl) ?_
    refine .callQ rfl rfl rfl rfl @Try.call156 rfl (inverse_c) ?_
    refine .m rfl rfl rfl (.cmp rfl rfl rfl) ?_
    refine .nil ?_
    refine hK8 _ _ ?_
    refine .cond rfl (fun h21 => ?_) (fun h21 => ?_)
    ·
     try simp only [sps] at h21
     refine .seq (fun K9 hK9 => ?_)
     refine .region ?_
     refine .m rfl rfl rfl (.move rfl) ?_
     refine .m rfl rfl rfl (.assign rfl) ?_
     refine .nil ?_
     refine hK9 _ _ ?_
     refine .ret ?_
     -- leaf e1
     refine hret _ _ ?_
     refine ⟨_, rfl, ?_⟩
     exact ⟨congrArg _ (firstIn_some (i := k) (by omega) (by simp only [sps]; omega) ha1), hle⟩
    ·
     try simp only [sps] at h21
     refine .skip ?_
     refine hK6 _ _ ?_
     refine .region ?_
     refine .m rfl rfl rfl (.add rfl rfl rfl (by omega) (by omega)) ?_
     refine .m rfl rfl rfl (.move rfl) ?_
     refine .nil ?_
     refine hKL1 (k + 1) _ _ ?_ ?_ ⟨rfl, rfl, rfl, rfl, trivial⟩
     ·
      refine ⟨rfl, ?_⟩
      refine ⟨by omega, fun i hx => ?_⟩
      by_cases e : i < k
      · exact ha1 i e
      · obtain rfl : i = k := by omega
        simp only [sps]; omega
     ·
      omega
   ·
    try simp only [sps] at h15
    refine .exit ?_
    refine hK2 _ _ ?_
    refine .seq (fun K10 hK10 => ?_)
    refine .region ?_
    refine .m rfl rfl rfl (.assign rfl) ?_
    refine .nil ?_
    refine hK10 _ _ ?_
    refine .ret ?_
    -- leaf e2
    refine hret _ _ ?_
    refine ⟨_, rfl, ?_⟩
    exact ⟨congrArg _ (firstIn_none fun i hi => ha1 i (by omega)), hle⟩
theorem isFull_c {g o : Nat} {f : Fun} {p : FunP} {H : GHeap} (h : Fun.At H g o f p := by assumption) (hI : f.Is := by assumption) :
    GCalls Try.prog 117 [.pointer (some ⟨g, o, none⟩)] H (Ret (.bool (B f.Full)) H) := by
  refine GCalls.ret rfl ?_
  have hSs := hI.1.1
  have hTs := hI.2.1.1
  refine GCalls.body (N := 65) (rs := [.tmp 2]) Try.func117 rfl rfl rfl rfl (fun Qx hret hend => ?_)
  refine .forget (fr' := [(0, some _)]) ⟨rfl, trivial⟩ ?_
  have hle := GHeap.Le.refl H
  have base_h := h
  obtain ⟨fs, ft, c10, c11, j1, j2⟩ := h.get
  have hm : MemN _ _ _ _ _ := ⟨rfl, h.1⟩
  have hi := h.2
  have hms : MemN _ _ _ _ _ := ⟨rfl, fs.1⟩
  have his := fs.2
  have hmt : MemN _ _ _ _ _ := ⟨rfl, ft.1⟩
  have hit := ft.2
  obtain ⟨c0, c1, c2, c3, c4, i1, i2, i3, i4⟩ := fs.get
  have q1 := hI.2.2.ol
  have q2 := hSs.n40
  have q3 := hTs.n40
  have q4 := hI.2.2.al
  have q5 := hSs.obj
  refine .seq (fun K1 hK1 => ?_)
  refine .region ?_
  refine .m rfl rfl rfl (.assign rfl) ?_
  refine .nil ?_
  refine hK1 _ _ ?_
  refine .seq (fun K2 hK2 => ?_)
  refine .region ?_
  refine .m rfl rfl rfl (.move rfl) ?_
  refine .m rfl rfl rfl (.nilCheck rfl) ?_
  refine .m rfl rfl rfl (.fieldAddr fo_33_0_E rfl) ?_
  refine .m rfl rfl rfl (.assign rfl) ?_
  refine .nil ?_
  refine hK2 _ _ ?_
  refine .seq (fun K3 hK3 => ?_)
  refine .seq (fun K4 hK4 => ?_)
  refine .region ?_
  refine .m rfl rfl rfl (.assign rfl) ?_
  refine .nil ?_
  refine hK4 _ _ ?_
  refine .block ?_
  refine .loopR (σ := Nat) [(0, some _), (3, some _)] (fun k => [(4, some (.int .i64 (k : Int)))]) (fun k H' => St [] H H' ∧ (k : Int) ≤ f.s.obj ∧ ∀ x, x < k → ∀ y : Nat, (y : Int) < f.s.obj → ∀ i, i < (f.t.hom (f.ob.getD x 0) (f.ob.getD y 0)).length → (f.t.hom (f.ob.getD x 0) (f.ob.getD y 0)).getD i 0 ∈ thenL (f.s.hom x y) f.ar) (fun k => (f.s.obj - k : Int).toNat) (0) ⟨rfl, rfl, trivial⟩ ⟨rfl, trivial⟩ ?_ ?_
  ·
   refine ⟨.refl _ _, ?_⟩
   exact ⟨by omega, fun _ _ => by omega⟩
  ·
   rintro k HL1 ⟨lst1, hI⟩ KL1 hKL1
   refine .forget (fr' := [(4, some (.int .i64 (k : Int))), (0, some _), (3, some _)]) ⟨rfl, rfl, rfl, trivial⟩ ?_
   have nx_HL1 := lst1.nx
   replace hle := hle.st lst1 (fun k hk => trivial)
   replace h := base_h.mono hle
   clear fs ft c10 c11 j1 j2 hm hi hms his hmt hit c0 c1 c2 c3 c4 i1 i2 i3 i4
   obtain ⟨fs, ft, c10, c11, j1, j2⟩ := h.get
   have hm : MemN _ _ _ _ _ := ⟨rfl, h.1⟩
   have hi := h.2
   have hms : MemN _ _ _ _ _ := ⟨rfl, fs.1⟩
   have his := fs.2
   have hmt : MemN _ _ _ _ _ := ⟨rfl, ft.1⟩
   have hit := ft.2
   obtain ⟨c0, c1, c2, c3, c4, i1, i2, i3, i4⟩ := fs.get
   obtain ⟨hk1, ha1⟩ := hI
   refine .seq (fun K5 hK5 => ?_)
   refine .seq (fun K6 hK6 => ?_)
   refine .region ?_
   refine .m rfl rfl rfl (.move rfl) ?_
   refine .m rfl rfl rfl (.move rfl) ?_
   refine .m rfl rfl rfl (.nilCheck rfl) ?_
   refine .m rfl rfl rfl (.fieldAddr fo_31_0_B rfl) ?_
   refine .m rfl rfl rfl (.load on_2_A rfl (by assumption)) ?_
   refine .m rfl rfl rfl (.cmp rfl rfl rfl) ?_
   refine .nil ?_
   refine hK6 _ _ ?_
   refine .cond rfl (fun h17 => ?_) (fun h17 => ?_)
   ·
    try simp only [sps] at h17
    refine .skip ?_
    refine hK5 _ _ ?_
    refine .seq (fun K7 hK7 => ?_)
    refine .block ?_
    refine .seq (fun K8 hK8 => ?_)
    refine .region ?_
    refine .m rfl rfl rfl (.assign rfl) ?_
    refine .nil ?_
    refine hK8 _ _ ?_
    refine .block ?_
    refine .loopR (σ := Nat) [(0, some _), (3, some _), (4, some _)] (fun j => [(5, some (.int .i64 (j : Int)))]) (fun j H' => St [] HL1 H' ∧ (j : Int) ≤ f.s.obj ∧ ∀ y, y < j → ∀ i, i < (f.t.hom (f.ob.getD k 0) (f.ob.getD y 0)).length → (f.t.hom (f.ob.getD k 0) (f.ob.getD y 0)).getD i 0 ∈ thenL (f.s.hom k y) f.ar) (fun j => (f.s.obj - j : Int).toNat) (0) ⟨rfl, rfl, rfl, trivial⟩ ⟨rfl, trivial⟩ ?_ ?_
    ·
     refine ⟨.refl _ _, ?_⟩
     exact ⟨by omega, fun _ _ => by omega⟩
    ·
     rintro j HL2 ⟨lst2, hI⟩ KL2 hKL2
     refine .forget (fr' := [(5, some (.int .i64 (j : Int))), (0, some _), (3, some _), (4, some _)]) ⟨rfl, rfl, rfl, rfl, trivial⟩ ?_
     have nx_HL2 := lst2.nx
     replace hle := hle.st lst2 (fun k hk => trivial)
     replace lst1 := lst1.st lst2 (fun k hk ho => by simp only [out, and_true] at ho ⊢ <;> omega)
     replace h := base_h.mono hle
     clear fs ft c10 c11 j1 j2 hm hi hms his hmt hit c0 c1 c2 c3 c4 i1 i2 i3 i4
     obtain ⟨fs, ft, c10, c11, j1, j2⟩ := h.get
     have hm : MemN _ _ _ _ _ := ⟨rfl, h.1⟩
     have hi := h.2
     have hms : MemN _ _ _ _ _ := ⟨rfl, fs.1⟩
     have his := fs.2
     have hmt : MemN _ _ _ _ _ := ⟨rfl, ft.1⟩
     have hit := ft.2
     obtain ⟨c0, c1, c2, c3, c4, i1, i2, i3, i4⟩ := fs.get
     obtain ⟨hk2, ha2⟩ := hI
     refine .seq (fun K9 hK9 => ?_)
     refine .seq (fun K10 hK10 => ?_)
     refine .region ?_
     refine .m rfl rfl rfl (.move rfl) ?_
     refine .m rfl rfl rfl (.move rfl) ?_
     refine .m rfl rfl rfl (.nilCheck rfl) ?_
     refine .m rfl rfl rfl (.fieldAddr fo_31_0_B rfl) ?_
     refine .m rfl rfl rfl (.load on_2_A rfl (by assumption)) ?_
     refine .m rfl rfl rfl (.cmp rfl rfl rfl) ?_
     refine .nil ?_
     refine hK10 _ _ ?_
     refine .cond rfl (fun h25 => ?_) (fun h25 => ?_)
     ·
      simp only [sps] at h25
      have hb : ∀ i, i < (f.s.hom k j).length → 0 ≤ (f.s.hom k j).getD i 0 ∧ (f.s.hom k j).getD i 0 < f.ar.length := fun i hi => by
        obtain ⟨a, a1, _, _, a4⟩ := f.s.hom_get hi
        omega
      have q6 := f.s.hom_le k j
      have q7 := f.t.hom_le (f.ob.getD k 0) (f.ob.getD j 0)
      have q8 := length_thenL (f.s.hom k j) f.ar
      refine .skip ?_
      refine hK9 _ _ ?_
      refine .seq (fun K11 hK11 => ?_)
      refine .block ?_
      refine .seq (fun K12 hK12 => ?_)
      refine .regionD mixed_orders_B (.q 0 (.q 1 (.q 2 (.q 4 (.q 5 (.q 6 (.q 7 (.c 3 1 (.c 8 0 (.q 9 (.done))))))))))) (by kernel_rfl) ?_
      refine .m rfl rfl rfl rfl (.refl _) (.move rfl) ?_
      refine .m rfl rfl rfl rfl (.refl _) (.move rfl) ?_
      refine .m rfl rfl rfl rfl (.refl _) (.move rfl) ?_
      refine .m rfl rfl rfl rfl (.refl _) (.move rfl) ?_
      refine .m rfl rfl rfl rfl (.refl _) (.nilCheck rfl) ?_
      refine .m rfl rfl rfl rfl (.refl _) (.fieldAddr fo_33_3_E rfl) ?_
      refine .m rfl rfl rfl rfl (.refl _) (.load on_22_B rfl (by assumption)) ?_
      refine .call1 rfl rfl rfl rfl rfl @Try.call148 rfl (hom_c) ?_
      rintro _ H31 ⟨le31, g31, rfl, at31, ge31⟩
      have hbl := le31
      refine ⟨hbl, ?_⟩
      have nx_H31 := le31.1
      replace hle := hle.trans le31
      replace lst1 := lst1.le le31
      replace lst2 := lst2.le le31
      have lt_at31 := GHeap.lt_of_get at31
      replace h := base_h.mono hle
      clear fs ft c10 c11 j1 j2 hm hi hms his hmt hit c0 c1 c2 c3 c4 i1 i2 i3 i4
      obtain ⟨fs, ft, c10, c11, j1, j2⟩ := h.get
      have hm : MemN _ _ _ _ _ := ⟨rfl, h.1⟩
      have hi := h.2
      have hms : MemN _ _ _ _ _ := ⟨rfl, fs.1⟩
      have his := fs.2
      have hmt : MemN _ _ _ _ _ := ⟨rfl, ft.1⟩
      have hit := ft.2
      obtain ⟨c0, c1, c2, c3, c4, i1, i2, i3, i4⟩ := fs.get
      have i31 := Ints.of_get at31
      refine .call0 rfl rfl rfl rfl rfl @Try.call128 rfl (implThen_c) ?_
      rintro _ H36 ⟨le36, g36, rfl, at36, ge36⟩
      have nx_H36 := le36.1
      replace hle := hle.trans le36
      replace lst1 := lst1.le le36
      replace lst2 := lst2.le le36
      replace at31 := le36.2 _ _ at31
      have lt_at36 := GHeap.lt_of_get at36
      replace h := base_h.mono hle
      clear fs ft c10 c11 j1 j2 hm hi hms his hmt hit c0 c1 c2 c3 c4 i1 i2 i3 i4
      obtain ⟨fs, ft, c10, c11, j1, j2⟩ := h.get
      have hm : MemN _ _ _ _ _ := ⟨rfl, h.1⟩
      have hi := h.2
      have hms : MemN _ _ _ _ _ := ⟨rfl, fs.1⟩
      have his := fs.2
      have hmt : MemN _ _ _ _ _ := ⟨rfl, ft.1⟩
      have hit := ft.2
      obtain ⟨c0, c1, c2, c3, c4, i1, i2, i3, i4⟩ := fs.get
      clear i31
      have i31 := Ints.of_get at31
      have i36 := Ints.of_get at36
      refine .m rfl rfl rfl rfl (.refl _) (.assign rfl) ?_
      refine .done ?_
      refine hK12 _ _ ?_
      refine .seq (fun K13 hK13 => ?_)
      refine .regionD mixed_orders_B (.q 0 (.q 1 (.q 2 (.q 3 (.q 4 (.q 5 (.q 6 (.q 7 (.q 8 (.q 9 (.q 10 (.q 11 (.q 12 (.q 13 (.q 14 (.q 15 (.q 16 (.q 19 (.c 17 1 (.q 18 (.done))))))))))))))))))))) (by kernel_rfl) ?_
      refine .m rfl rfl rfl rfl (.refl _) (.move rfl) ?_
      refine .m rfl rfl rfl rfl (.refl _) (.nilCheck rfl) ?_
      refine .m rfl rfl rfl rfl (.refl _) (.fieldAddr fo_33_1_E rfl) ?_
      refine .m rfl rfl rfl rfl (.refl _) (.move rfl) ?_
      refine .m rfl rfl rfl rfl (.refl _) (.nilCheck rfl) ?_
      refine .m rfl rfl rfl rfl (.refl _) (.fieldAddr fo_33_2_E rfl) ?_
      refine .m rfl rfl rfl rfl (.refl _) (.load on_22_B rfl (by assumption)) ?_
      refine .m rfl rfl rfl rfl (.refl _) (.move rfl) ?_
      refine .m rfl rfl rfl rfl (.refl _) (.idxN sl_22_A (by assumption) rfl rfl (by omega)) ?_
      refine .m rfl rfl rfl rfl (.refl _) (.loadI on_2_A (by assumption) rfl (by omega)) ?_
      refine .m rfl rfl rfl rfl (.refl _) (.move rfl) ?_
      refine .m rfl rfl rfl rfl (.refl _) (.nilCheck rfl) ?_
      refine .m rfl rfl rfl rfl (.refl _) (.fieldAddr fo_33_2_E rfl) ?_
      refine .m rfl rfl rfl rfl (.refl _) (.load on_22_B rfl (by assumption)) ?_
      refine .m rfl rfl rfl rfl (.refl _) (.move rfl) ?_
      refine .m rfl rfl rfl rfl (.refl _) (.idxN sl_22_A (by assumption) rfl rfl (by omega)) ?_
      refine .m rfl rfl rfl rfl (.refl _) (.loadI on_2_A (by assumption) rfl (by omega)) ?_
      refine .m rfl rfl rfl rfl (.refl _) (.move rfl) ?_
      refine .call1 rfl rfl rfl rfl rfl @Try.call148 rfl (hom_c) ?_
      rintro _ H54 ⟨le54, g54, rfl, at54, ge54⟩
      have hbl := le54
      refine ⟨hbl, ?_⟩
      have nx_H54 := le54.1
      replace hle := hle.trans le54
      replace lst1 := lst1.le le54
      replace lst2 := lst2.le le54
      replace at31 := le54.2 _ _ at31
      replace at36 := le54.2 _ _ at36
      have lt_at54 := GHeap.lt_of_get at54
      replace h := base_h.mono hle
      clear fs ft c10 c11 j1 j2 hm hi hms his hmt hit c0 c1 c2 c3 c4 i1 i2 i3 i4
      obtain ⟨fs, ft, c10, c11, j1, j2⟩ := h.get
      have hm : MemN _ _ _ _ _ := ⟨rfl, h.1⟩
      have hi := h.2
      have hms : MemN _ _ _ _ _ := ⟨rfl, fs.1⟩
      have his := fs.2
      have hmt : MemN _ _ _ _ _ := ⟨rfl, ft.1⟩
      have hit := ft.2
      obtain ⟨c0, c1, c2, c3, c4, i1, i2, i3, i4⟩ := fs.get
      clear i31
      have i31 := Ints.of_get at31
      clear i36
      have i36 := Ints.of_get at36
      have i54 := Ints.of_get at54
      refine .m rfl rfl rfl rfl hbl (.len sl_22_A rfl) ?_
      refine .done ?_
      refine hK13 _ _ ?_
      refine .block ?_
      refine .loopR (σ := Nat) [(0, some _), (3, some _), (4, some _), (5, some _), (6, some _), (54, some _), (55, some _)] (fun l => [(56, some (.int .i64 (l : Int)))]) (fun l H' => H54 = H' ∧ (l : Int) ≤ (f.t.hom (f.ob.getD k 0) (f.ob.getD j 0)).length ∧ ∀ i, i < l → (f.t.hom (f.ob.getD k 0) (f.ob.getD j 0)).getD i 0 ∈ thenL (f.s.hom k j) f.ar) (fun l => ((f.t.hom (f.ob.getD k 0) (f.ob.getD j 0)).length - l : Int).toNat) (0) ⟨rfl, rfl, rfl, rfl, rfl, rfl, rfl, trivial⟩ ⟨rfl, trivial⟩ ?_ ?_
      ·
       refine ⟨rfl, ?_⟩
       exact ⟨by omega, fun _ _ => by omega⟩
      ·
       rintro l _ ⟨rfl, hI⟩ KL3 hKL3
       refine .forget (fr' := [(56, some (.int .i64 (l : Int))), (0, some _), (3, some _), (4, some _), (5, some _), (6, some _), (54, some _), (55, some _)]) ⟨rfl, rfl, rfl, rfl, rfl, rfl, rfl, rfl, trivial⟩ ?_
       obtain ⟨hk3, ha3⟩ := hI
       refine .seq (fun K14 hK14 => ?_)
       refine .region ?_
       refine .m rfl rfl rfl (.cmp rfl rfl rfl) ?_
       refine .nil ?_
       refine hK14 _ _ ?_
       refine .seq (fun K15 hK15 => ?_)
       refine .cond rfl (fun h57 => ?_) (fun h57 => ?_)
       ·
        try simp only [sps] at h57
        refine .skip ?_
        refine hK15 _ _ ?_
        refine .seq (fun K16 hK16 => ?_)
        refine .block ?_
        refine .seq (fun K17 hK17 => ?_)
        refine .region ?_
        refine .m rfl rfl rfl (.idxN sl_22_A (by assumption) rfl rfl (by omega)) ?_
        refine .m rfl rfl rfl (.loadI on_2_A (by assumption) rfl (by omega)) ?_
        refine .m rfl rfl rfl (.assign rfl) ?_
        refine .nil ?_
        refine hK17 _ _ ?_
        refine .seq (fun K18 hK18 => ?_)
        refine .region ?_
        refine .m rfl rfl rfl (.move rfl) ?_
        refine .m rfl rfl rfl (.move rfl) ?_
        refine .callQ rfl rfl rfl rfl @Try.call163 rfl (has_c) ?_
        refine .m rfl rfl rfl (.not rfl) ?_
        refine .nil ?_
        refine hK18 _ _ ?_
        refine .cond rfl (fun h63 => ?_) (fun h63 => ?_)
        ·
         try simp only [sps] at h63
         refine .seq (fun K19 hK19 => ?_)
         refine .region ?_
         refine .m rfl rfl rfl (.assign rfl) ?_
         refine .nil ?_
         refine hK19 _ _ ?_
         refine .ret ?_
         -- leaf e1
         refine hret _ _ ?_
         refine ⟨_, rfl, ?_⟩
         exact ⟨congrArg _ (B_false fun hF => by
           have := hF k (by omega) j (by omega) l (by omega)
           rw [← List.contains_iff_mem] at this
           rw [this] at h63; cases h63), hle⟩
        ·
         try simp only [sps] at h63
         refine .skip ?_
         refine hK16 _ _ ?_
         refine .region ?_
         refine .m rfl rfl rfl (.add rfl rfl rfl (by omega) (by omega)) ?_
         refine .m rfl rfl rfl (.move rfl) ?_
         refine .nil ?_
         refine hKL3 (l + 1) _ _ ?_ ?_ ⟨rfl, rfl, rfl, rfl, rfl, rfl, rfl, rfl, trivial⟩
         ·
          refine ⟨rfl, ?_⟩
          refine ⟨by omega, fun i hx => ?_⟩
          by_cases e : i < l
          · exact ha3 i e
          · obtain rfl : i = l := by omega
            exact List.contains_iff_mem.1 h63
         ·
          omega
       ·
        try simp only [sps] at h57
        refine .exit ?_
        refine hK11 _ _ ?_
        refine .region ?_
        refine .m rfl rfl rfl (.move rfl) ?_
        refine .m rfl rfl rfl (.add rfl rfl rfl (by omega) (by omega)) ?_
        refine .m rfl rfl rfl (.assign rfl) ?_
        refine .nil ?_
        refine hKL2 (j + 1) _ _ ?_ ?_ ⟨rfl, rfl, rfl, rfl, trivial⟩
        ·
         refine ⟨lst2, ?_⟩
         refine ⟨by omega, fun y hx => ?_⟩
         by_cases e : y < j
         · exact ha2 y e
         · obtain rfl : y = j := by omega
           exact fun i hi => ha3 i (by omega)
        ·
         omega
     ·
      try simp only [sps] at h25
      refine .exit ?_
      refine hK7 _ _ ?_
      refine .region ?_
      refine .m rfl rfl rfl (.move rfl) ?_
      refine .m rfl rfl rfl (.add rfl rfl rfl (by omega) (by omega)) ?_
      refine .m rfl rfl rfl (.assign rfl) ?_
      refine .nil ?_
      refine hKL1 (k + 1) _ _ ?_ ?_ ⟨rfl, rfl, rfl, trivial⟩
      ·
       refine ⟨lst1, ?_⟩
       refine ⟨by omega, fun x hx => ?_⟩
       by_cases e : x < k
       · exact ha1 x e
       · obtain rfl : x = k := by omega
         exact fun y hy => ha2 y (by omega)
      ·
       omega
   ·
    try simp only [sps] at h17
    refine .exit ?_
    refine hK3 _ _ ?_
    refine .seq (fun K20 hK20 => ?_)
    refine .region ?_
    refine .m rfl rfl rfl (.assign rfl) ?_
    refine .nil ?_
    refine hK20 _ _ ?_
    refine .ret ?_
    -- leaf e2
    refine hret _ _ ?_
    refine ⟨_, rfl, ?_⟩
    exact ⟨congrArg _ (B_true fun x hx => ha1 x (by omega)), hle⟩
theorem isFaithful_c {g o : Nat} {f : Fun} {p : FunP} {H : GHeap} (h : Fun.At H g o f p := by assumption) (hI : f.Is := by assumption) :
    GCalls Try.prog 118 [.pointer (some ⟨g, o, none⟩)] H (Ret (.bool (B f.Faithful)) H) := by
  have hSs := hI.1.1
  refine GCalls.body (N := 53) (rs := [.tmp 2]) Try.func118 rfl rfl rfl rfl (fun Qx hret hend => ?_)
  refine .forget (fr' := [(0, some _)]) ⟨rfl, trivial⟩ ?_
  have hle := GHeap.Le.refl H
  have base_h := h
  obtain ⟨fs, ft, c10, c11, j1, j2⟩ := h.get
  have hm : MemN _ _ _ _ _ := ⟨rfl, h.1⟩
  have hi := h.2
  have hms : MemN _ _ _ _ _ := ⟨rfl, fs.1⟩
  have his := fs.2
  have hmt : MemN _ _ _ _ _ := ⟨rfl, ft.1⟩
  have hit := ft.2
  have q4 := hI.2.2.al
  have q2 := hSs.n40
  have q1 := hSs.tl
  refine .seq (fun K1 hK1 => ?_)
  refine .region ?_
  refine .m rfl rfl rfl (.assign rfl) ?_
  refine .nil ?_
  refine hK1 _ _ ?_
  refine .seq (fun K2 hK2 => ?_)
  refine .seq (fun K3 hK3 => ?_)
  refine .region ?_
  refine .m rfl rfl rfl (.move rfl) ?_
  refine .m rfl rfl rfl (.nilCheck rfl) ?_
  refine .m rfl rfl rfl (.fieldAddr fo_33_3_E rfl) ?_
  refine .m rfl rfl rfl (.load on_22_B rfl (by assumption)) ?_
  refine .m rfl rfl rfl (.len sl_22_A rfl) ?_
  refine .m rfl rfl rfl (.move rfl) ?_
  refine .nil ?_
  refine hK3 _ _ ?_
  refine .block ?_
  refine .loopR (σ := Nat) [(0, some _), (9, some _)] (fun k => [(10, some (.int .i64 (k : Int)))]) (fun k H' => H = H' ∧ (k : Int) ≤ f.ar.length ∧ ∀ a, a < k → ∀ b : Nat, b < a → ¬ (f.s.src.getD a 0 = f.s.src.getD b 0 ∧ f.s.tgt.getD a 0 = f.s.tgt.getD b 0 ∧ f.ar.getD a 0 = f.ar.getD b 0)) (fun k => (f.ar.length - k : Int).toNat) (0) ⟨rfl, rfl, trivial⟩ ⟨rfl, trivial⟩ ?_ ?_
  ·
   refine ⟨rfl, ?_⟩
   exact ⟨by omega, fun _ _ => by omega⟩
  ·
   rintro k _ ⟨rfl, hI⟩ KL1 hKL1
   refine .forget (fr' := [(10, some (.int .i64 (k : Int))), (0, some _), (9, some _)]) ⟨rfl, rfl, rfl, trivial⟩ ?_
   obtain ⟨hk1, ha1⟩ := hI
   refine .seq (fun K4 hK4 => ?_)
   refine .region ?_
   refine .m rfl rfl rfl (.cmp rfl rfl rfl) ?_
   refine .nil ?_
   refine hK4 _ _ ?_
   refine .seq (fun K5 hK5 => ?_)
   refine .cond rfl (fun h11 => ?_) (fun h11 => ?_)
   ·
    try simp only [sps] at h11
    refine .skip ?_
    refine hK5 _ _ ?_
    refine .seq (fun K6 hK6 => ?_)
    refine .block ?_
    refine .seq (fun K7 hK7 => ?_)
    refine .region ?_
    refine .m rfl rfl rfl (.move rfl) ?_
    refine .m rfl rfl rfl (.assign rfl) ?_
    refine .nil ?_
    refine hK7 _ _ ?_
    refine .seq (fun K8 hK8 => ?_)
    refine .region ?_
    refine .m rfl rfl rfl (.move rfl) ?_
    refine .m rfl rfl rfl (.nilCheck rfl) ?_
    refine .m rfl rfl rfl (.fieldAddr fo_33_3_E rfl) ?_
    refine .m rfl rfl rfl (.load on_22_B rfl (by assumption)) ?_
    refine .m rfl rfl rfl (.move rfl) ?_
    refine .m rfl rfl rfl (.sliceTo sl_22_A rfl rfl (by omega)) ?_
    refine .m rfl rfl rfl (.len sl_22_A rfl) ?_
    refine .m rfl rfl rfl (.move rfl) ?_
    refine .nil ?_
    refine hK8 _ _ ?_
    refine .block ?_
    refine .loopR (σ := Nat) [(0, some _), (3, some _), (9, some _), (10, some _), (19, some _)] (fun j => [(20, some (.int .i64 (j : Int)))]) (fun j H' => H = H' ∧ (j : Int) ≤ k ∧ ∀ b, b < j → ¬ (f.s.src.getD k 0 = f.s.src.getD b 0 ∧ f.s.tgt.getD k 0 = f.s.tgt.getD b 0 ∧ f.ar.getD k 0 = f.ar.getD b 0)) (fun j => (k - j : Int).toNat) (0) ⟨rfl, rfl, rfl, rfl, rfl, trivial⟩ ⟨rfl, trivial⟩ ?_ ?_
    ·
     refine ⟨rfl, ?_⟩
     exact ⟨by omega, fun _ _ => by omega⟩
    ·
     rintro j _ ⟨rfl, hI⟩ KL2 hKL2
     refine .forget (fr' := [(20, some (.int .i64 (j : Int))), (0, some _), (3, some _), (9, some _), (10, some _), (19, some _)]) ⟨rfl, rfl, rfl, rfl, rfl, rfl, trivial⟩ ?_
     obtain ⟨hk2, ha2⟩ := hI
     refine .seq (fun K9 hK9 => ?_)
     refine .region ?_
     refine .m rfl rfl rfl (.cmp rfl rfl rfl) ?_
     refine .nil ?_
     refine hK9 _ _ ?_
     refine .seq (fun K10 hK10 => ?_)
     refine .cond rfl (fun h21 => ?_) (fun h21 => ?_)
     ·
      try simp only [sps] at h21
      refine .skip ?_
      refine hK10 _ _ ?_
      refine .seq (fun K11 hK11 => ?_)
      refine .block ?_
      refine .seq (fun K12 hK12 => ?_)
      refine .region ?_
      refine .m rfl rfl rfl (.move rfl) ?_
      refine .m rfl rfl rfl (.assign rfl) ?_
      refine .nil ?_
      refine hK12 _ _ ?_
      refine .seq (fun K13 hK13 => ?_)
      refine .regionD mixed_orders_B (.q 0 (.q 1 (.q 2 (.q 3 (.q 4 (.q 5 (.q 6 (.q 7 (.q 8 (.q 9 (.q 10 (.q 11 (.q 12 (.q 13 (.q 14 (.q 15 (.q 16 (.q 17 (.q 18 (.q 19 (.q 21 (.q 22 (.q 23 (.q 24 (.c 20 1 (.c 25 0 (.q 26 (.q 27 (.done))))))))))))))))))))))))))))) (by kernel_rfl) ?_
      refine .m rfl rfl rfl rfl (.refl _) (.move rfl) ?_
      refine .m rfl rfl rfl rfl (.refl _) (.nilCheck rfl) ?_
      refine .m rfl rfl rfl rfl (.refl _) (.fieldAddr fo_33_3_E rfl) ?_
      refine .m rfl rfl rfl rfl (.refl _) (.load on_22_B rfl (by assumption)) ?_
      refine .m rfl rfl rfl rfl (.refl _) (.move rfl) ?_
      refine .m rfl rfl rfl rfl (.refl _) (.idxN sl_22_A (by assumption) rfl rfl (by omega)) ?_
      refine .m rfl rfl rfl rfl (.refl _) (.loadI on_2_A (by assumption) rfl (by omega)) ?_
      refine .m rfl rfl rfl rfl (.refl _) (.move rfl) ?_
      refine .m rfl rfl rfl rfl (.refl _) (.nilCheck rfl) ?_
      refine .m rfl rfl rfl rfl (.refl _) (.fieldAddr fo_33_3_E rfl) ?_
      refine .m rfl rfl rfl rfl (.refl _) (.load on_22_B rfl (by assumption)) ?_
      refine .m rfl rfl rfl rfl (.refl _) (.move rfl) ?_
      refine .m rfl rfl rfl rfl (.refl _) (.idxN sl_22_A (by assumption) rfl rfl (by omega)) ?_
      refine .m rfl rfl rfl rfl (.refl _) (.loadI on_2_A (by assumption) rfl (by omega)) ?_
      refine .m rfl rfl rfl rfl (.refl _) (.cmp rfl rfl rfl) ?_
      refine .m rfl rfl rfl rfl (.refl _) (.move rfl) ?_
      refine .split (fun h38 => ?_) (fun h38 => ?_)
      ·
       try simp only [sps] at h38
       refine .mg rfl rfl rfl rfl rfl rfl (.refl _) (.move rfl) ?_
       refine .mg rfl rfl rfl rfl rfl rfl (.refl _) (.nilCheck rfl) ?_
       refine .mg rfl rfl rfl rfl rfl rfl (.refl _) (.fieldAddr fo_33_0_E rfl) ?_
       refine .mg rfl rfl rfl rfl rfl rfl (.refl _) (.move rfl) ?_
       refine .mg rfl rfl rfl rfl rfl rfl (.refl _) (.move rfl) ?_
       refine .mg rfl rfl rfl rfl rfl rfl (.refl _) (.nilCheck rfl) ?_
       refine .mg rfl rfl rfl rfl rfl rfl (.refl _) (.fieldAddr fo_33_0_E rfl) ?_
       refine .mg rfl rfl rfl rfl rfl rfl (.refl _) (.move rfl) ?_
       refine .callQ1g rfl rfl rfl rfl rfl rfl rfl @Try.call126 rfl (ends_c) (.refl _) ?_
       refine .callQ0g rfl rfl rfl rfl rfl rfl rfl @Try.call126 rfl (ends_c) ?_
       refine .mg rfl rfl rfl rfl rfl rfl (.refl _) (.aggEq eg_132_B rfl rfl rfl rfl (aggEq_132 _ _ _ _)) ?_
       refine .m rfl rfl rfl rfl (.refl _) (.pickT rfl rfl) ?_
       refine .done ?_
       refine hK13 _ _ ?_
       refine .cond rfl (fun h50 => ?_) (fun h50 => ?_)
       ·
        try simp only [sps] at h50
        refine .seq (fun K14 hK14 => ?_)
        refine .region ?_
        refine .m rfl rfl rfl (.assign rfl) ?_
        refine .nil ?_
        refine hK14 _ _ ?_
        refine .ret ?_
        -- leaf e1
        refine hret _ _ ?_
        refine ⟨_, rfl, ?_⟩
        exact .of (congrArg _ (B_false fun hF => hF k (by omega) j (by omega) (by simp only [Int.toNat_natCast] at h50; omega)))
       ·
        try simp only [sps] at h50
        refine .skip ?_
        refine hK11 _ _ ?_
        refine .region ?_
        refine .m rfl rfl rfl (.add rfl rfl rfl (by omega) (by omega)) ?_
        refine .m rfl rfl rfl (.move rfl) ?_
        refine .nil ?_
        refine hKL2 (j + 1) _ _ ?_ ?_ ⟨rfl, rfl, rfl, rfl, rfl, rfl, trivial⟩
        ·
         refine ⟨rfl, ?_⟩
         refine ⟨by omega, fun b hx => ?_⟩
         by_cases e : b < j
         · exact ha2 b e
         · obtain rfl : b = j := by omega
           first | omega | (simp only [Int.toNat_natCast] at h50; omega)
        ·
         omega
      ·
       try simp only [sps] at h38
       refine .sg rfl rfl rfl rfl rfl rfl ?_
       refine .sg rfl rfl rfl rfl rfl rfl ?_
       refine .sg rfl rfl rfl rfl rfl rfl ?_
       refine .sg rfl rfl rfl rfl rfl rfl ?_
       refine .sg rfl rfl rfl rfl rfl rfl ?_
       refine .sg rfl rfl rfl rfl rfl rfl ?_
       refine .sg rfl rfl rfl rfl rfl rfl ?_
       refine .sg rfl rfl rfl rfl rfl rfl ?_
       refine .sgc rfl rfl rfl rfl rfl rfl ?_
       refine .sgc rfl rfl rfl rfl rfl rfl ?_
       refine .sg rfl rfl rfl rfl rfl rfl ?_
       refine .m rfl rfl rfl rfl (.refl _) (.pickF rfl rfl) ?_
       refine .done ?_
       refine hK13 _ _ ?_
       refine .condF rfl ?_
       refine .skip ?_
       refine hK11 _ _ ?_
       refine .region ?_
       refine .m rfl rfl rfl (.add rfl rfl rfl (by omega) (by omega)) ?_
       refine .m rfl rfl rfl (.move rfl) ?_
       refine .nil ?_
       refine hKL2 (j + 1) _ _ ?_ ?_ ⟨rfl, rfl, rfl, rfl, rfl, rfl, trivial⟩
       ·
        refine ⟨rfl, ?_⟩
        refine ⟨by omega, fun b hx => ?_⟩
        by_cases e : b < j
        · exact ha2 b e
        · obtain rfl : b = j := by omega
          first | omega | (simp only [Int.toNat_natCast] at h50; omega)
       ·
        omega
     ·
      try simp only [sps] at h21
      refine .exit ?_
      refine hK6 _ _ ?_
      refine .region ?_
      refine .m rfl rfl rfl (.add rfl rfl rfl (by omega) (by omega)) ?_
      refine .m rfl rfl rfl (.move rfl) ?_
      refine .nil ?_
      refine hKL1 (k + 1) _ _ ?_ ?_ ⟨rfl, rfl, rfl, trivial⟩
      ·
       refine ⟨rfl, ?_⟩
       refine ⟨by omega, fun a hx => ?_⟩
       by_cases e : a < k
       · exact ha1 a e
       · obtain rfl : a = k := by omega
         exact fun b hb => ha2 b (by omega)
      ·
       omega
   ·
    try simp only [sps] at h11
    refine .exit ?_
    refine hK2 _ _ ?_
    refine .seq (fun K15 hK15 => ?_)
    refine .region ?_
    refine .m rfl rfl rfl (.assign rfl) ?_
    refine .nil ?_
    refine hK15 _ _ ?_
    refine .ret ?_
    -- leaf e2
    refine hret _ _ ?_
    refine ⟨_, rfl, ?_⟩
    exact .of (congrArg _ (B_true fun x hx => ha1 x (by omega)))
theorem isOnto_c {g o : Nat} {f : Fun} {p : FunP} {H : GHeap} (h : Fun.At H g o f p := by assumption) (hI : f.Is := by assumption) :
    GCalls Try.prog 119 [.pointer (some ⟨g, o, none⟩)] H (Ret (.bool (B f.Onto)) H) := by
  have hTs := hI.2.1.1
  refine GCalls.body (N := 32) (rs := [.tmp 2]) Try.func119 rfl rfl rfl rfl (fun Qx hret hend => ?_)
  refine .forget (fr' := [(0, some _)]) ⟨rfl, trivial⟩ ?_
  have hle := GHeap.Le.refl H
  have base_h := h
  obtain ⟨fs, ft, c10, c11, j1, j2⟩ := h.get
  have hm : MemN _ _ _ _ _ := ⟨rfl, h.1⟩
  have hi := h.2
  have hms : MemN _ _ _ _ _ := ⟨rfl, fs.1⟩
  have his := fs.2
  have hmt : MemN _ _ _ _ _ := ⟨rfl, ft.1⟩
  have hit := ft.2
  obtain ⟨c0, c1, c2, c3, c4, i1, i2, i3, i4⟩ := ft.get
  have q1 := hI.2.2.ol
  have q5 := hTs.obj
  have q6 := hI.1.1.obj
  refine .seq (fun K1 hK1 => ?_)
  refine .region ?_
  refine .m rfl rfl rfl (.assign rfl) ?_
  refine .nil ?_
  refine hK1 _ _ ?_
  refine .scope ?_
  refine .seq (fun K2 hK2 => ?_)
  refine .label ?_
  refine hK2 _ _ ?_
  refine .seq (fun K3 hK3 => ?_)
  refine .seq (fun K4 hK4 => ?_)
  refine .region ?_
  refine .m rfl rfl rfl (.assign rfl) ?_
  refine .nil ?_
  refine hK4 _ _ ?_
  refine .block ?_
  refine .loopR (σ := Nat) [(0, some _)] (fun k => [(3, some (.int .i64 (k : Int)))]) (fun k H' => H = H' ∧ (k : Int) ≤ f.t.obj ∧ ∀ y, y < k → ∃ x, x < f.ob.length ∧ f.t.Alike (f.ob.getD x 0) y) (fun k => (f.t.obj - k : Int).toNat) (0) ⟨rfl, trivial⟩ ⟨rfl, trivial⟩ ?_ ?_
  ·
   refine ⟨rfl, ?_⟩
   exact ⟨by omega, fun _ _ => by omega⟩
  ·
   rintro k _ ⟨rfl, hI⟩ KL1 hKL1
   refine .forget (fr' := [(3, some (.int .i64 (k : Int))), (0, some _)]) ⟨rfl, rfl, trivial⟩ ?_
   obtain ⟨hk1, ha1⟩ := hI
   refine .seq (fun K5 hK5 => ?_)
   refine .seq (fun K6 hK6 => ?_)
   refine .region ?_
   refine .m rfl rfl rfl (.move rfl) ?_
   refine .m rfl rfl rfl (.move rfl) ?_
   refine .m rfl rfl rfl (.nilCheck rfl) ?_
   refine .m rfl rfl rfl (.fieldAddr fo_33_1_E rfl) ?_
   refine .m rfl rfl rfl (.fieldAddr fo_31_0_B rfl) ?_
   refine .m rfl rfl rfl (.load on_2_A rfl (by assumption)) ?_
   refine .m rfl rfl rfl (.cmp rfl rfl rfl) ?_
   refine .nil ?_
   refine hK6 _ _ ?_
   refine .cond rfl (fun h12 => ?_) (fun h12 => ?_)
   ·
    try simp only [sps] at h12
    refine .skip ?_
    refine hK5 _ _ ?_
    refine .seq (fun K7 hK7 => ?_)
    refine .block ?_
    refine .seq (fun K8 hK8 => ?_)
    refine .seq (fun K9 hK9 => ?_)
    refine .region ?_
    refine .m rfl rfl rfl (.move rfl) ?_
    refine .m rfl rfl rfl (.nilCheck rfl) ?_
    refine .m rfl rfl rfl (.fieldAddr fo_33_2_E rfl) ?_
    refine .m rfl rfl rfl (.load on_22_B rfl (by assumption)) ?_
    refine .m rfl rfl rfl (.len sl_22_A rfl) ?_
    refine .m rfl rfl rfl (.move rfl) ?_
    refine .nil ?_
    refine hK9 _ _ ?_
    refine .block ?_
    refine .loopR (σ := Nat) [(0, some _), (3, some _), (18, some _), (19, some _)] (fun j => [(20, some (.int .i64 (j : Int)))]) (fun j H' => H = H' ∧ (j : Int) ≤ f.ob.length ∧ ∀ x, x < j → ¬ f.t.Alike (f.ob.getD x 0) k) (fun j => (f.ob.length - j : Int).toNat) (0) ⟨rfl, rfl, rfl, rfl, trivial⟩ ⟨rfl, trivial⟩ ?_ ?_
    ·
     refine ⟨rfl, ?_⟩
     exact ⟨by omega, fun _ _ => by omega⟩
    ·
     rintro j _ ⟨rfl, hI⟩ KL2 hKL2
     refine .forget (fr' := [(20, some (.int .i64 (j : Int))), (0, some _), (3, some _), (18, some _), (19, some _)]) ⟨rfl, rfl, rfl, rfl, rfl, trivial⟩ ?_
     obtain ⟨hk2, ha2⟩ := hI
     refine .seq (fun K10 hK10 => ?_)
     refine .region ?_
     refine .m rfl rfl rfl (.cmp rfl rfl rfl) ?_
     refine .nil ?_
     refine hK10 _ _ ?_
     refine .seq (fun K11 hK11 => ?_)
     refine .cond rfl (fun h21 => ?_) (fun h21 => ?_)
     ·
      try simp only [sps] at h21
      refine .skip ?_
      refine hK11 _ _ ?_
      refine .seq (fun K12 hK12 => ?_)
      refine .block ?_
      refine .seq (fun K13 hK13 => ?_)
      refine .region ?_
      refine .m rfl rfl rfl (.idxN sl_22_A (by assumption) rfl rfl (by omega)) ?_
      refine .m rfl rfl rfl (.loadI on_2_A (by assumption) rfl (by omega)) ?_
      refine .m rfl rfl rfl (.assign rfl) ?_
      refine .nil ?_
      refine hK13 _ _ ?_
      refine .seq (fun K14 hK14 => ?_)
      refine .region ?_
      refine .m rfl rfl rfl (.move rfl) ?_
      refine .m rfl rfl rfl (.nilCheck rfl) ?_
      refine .m rfl rfl rfl (.fieldAddr fo_33_1_E rfl) ?_
      refine .m rfl rfl rfl (.move rfl) ?_
      refine .m rfl rfl rfl (.move rfl) ?_
      refine .callQ rfl rfl rfl rfl @Try.call164 rfl (isomorphic_c) ?_
      refine .m rfl rfl rfl (.cmp rfl rfl rfl) ?_
      refine .nil ?_
      refine hK14 _ _ ?_
      refine .cond rfl (fun h30 => ?_) (fun h30 => ?_)
      ·
       try simp only [sps] at h30
       refine .exit ?_
       refine hK7 _ _ ?_
       refine .region ?_
       refine .m rfl rfl rfl (.move rfl) ?_
       refine .m rfl rfl rfl (.add rfl rfl rfl (by omega) (by omega)) ?_
       refine .m rfl rfl rfl (.assign rfl) ?_
       refine .nil ?_
       refine hKL1 (k + 1) _ _ ?_ ?_ ⟨rfl, rfl, trivial⟩
       ·
        refine ⟨rfl, ?_⟩
        refine ⟨by omega, fun y hx => ?_⟩
        by_cases e : y < k
        · exact ha1 y e
        · obtain rfl : y = k := by omega
          exact ⟨j, by omega, Cat.iso_ge.1 h30⟩
       ·
        omega
      ·
       try simp only [sps] at h30
       refine .skip ?_
       refine hK12 _ _ ?_
       refine .region ?_
       refine .m rfl rfl rfl (.add rfl rfl rfl (by omega) (by omega)) ?_
       refine .m rfl rfl rfl (.move rfl) ?_
       refine .nil ?_
       refine hKL2 (j + 1) _ _ ?_ ?_ ⟨rfl, rfl, rfl, rfl, rfl, trivial⟩
       ·
        refine ⟨rfl, ?_⟩
        refine ⟨by omega, fun x hx => ?_⟩
        by_cases e : x < j
        · exact ha2 x e
        · obtain rfl : x = j := by omega
          rw [← Cat.iso_ge]; omega
       ·
        omega
     ·
      try simp only [sps] at h21
      refine .exit ?_
      refine hK8 _ _ ?_
      refine .seq (fun K15 hK15 => ?_)
      refine .region ?_
      refine .m rfl rfl rfl (.assign rfl) ?_
      refine .nil ?_
      refine hK15 _ _ ?_
      refine .ret ?_
      -- leaf e1
      refine hret _ _ ?_
      refine ⟨_, rfl, ?_⟩
      exact .of (congrArg _ (B_false fun hF => by
        obtain ⟨x, hx, hy⟩ := hF k (by omega)
        exact ha2 x (by omega) hy))
   ·
    try simp only [sps] at h12
    refine .exit ?_
    refine hK3 _ _ ?_
    refine .seq (fun K16 hK16 => ?_)
    refine .region ?_
    refine .m rfl rfl rfl (.assign rfl) ?_
    refine .nil ?_
    refine hK16 _ _ ?_
    refine .ret ?_
    -- leaf e2
    refine hret _ _ ?_
    refine ⟨_, rfl, ?_⟩
    exact .of (congrArg _ (B_true fun x hx => ha1 x (by omega)))
theorem isEquivalence_c {g o : Nat} {f : Fun} {p : FunP} {H : GHeap} (h : Fun.At H g o f p := by assumption) (hI : f.Is := by assumption) :
    GCalls Try.prog 67 [.pointer (some ⟨g, o, none⟩)] H (Ret (.bool (B f.Equiv)) H) := by
  refine GCalls.body (N := 13) (rs := [.tmp 2]) Try.func67 rfl rfl rfl rfl (fun Qx hret hend => ?_)
  refine .forget (fr' := [(0, some _)]) ⟨rfl, trivial⟩ ?_
  refine .seq (fun K1 hK1 => ?_)
  refine .region ?_
  refine .m rfl rfl rfl (.assign rfl) ?_
  refine .nil ?_
  refine hK1 _ _ ?_
  refine .seq (fun K2 hK2 => ?_)
  refine .region ?_
  refine .m rfl rfl rfl (.move rfl) ?_
  refine .callQ rfl rfl rfl rfl @Try.call117 rfl (isFull_c) ?_
  refine .m rfl rfl rfl (.move rfl) ?_
  refine .split (fun h5 => ?_) (fun h5 => ?_)
  ·
   try simp only [sps] at h5
   refine .mg rfl rfl rfl rfl rfl (.move rfl) ?_
   refine .callQg rfl rfl rfl rfl rfl rfl @Try.call118 rfl (isFaithful_c) ?_
   refine .m rfl rfl rfl (.pickT rfl rfl) ?_
   refine .m rfl rfl rfl (.move rfl) ?_
   refine .split (fun h9 => ?_) (fun h9 => ?_)
   ·
    try simp only [sps] at h9
    refine .mg rfl rfl rfl rfl rfl (.move rfl) ?_
    refine .callQg rfl rfl rfl rfl rfl rfl @Try.call119 rfl (isOnto_c) ?_
    refine .m rfl rfl rfl (.pickT rfl rfl) ?_
    refine .m rfl rfl rfl (.assign rfl) ?_
    refine .nil ?_
    refine hK2 _ _ ?_
    refine .ret ?_
    -- leaf e1
    refine hret _ _ ?_
    refine ⟨_, rfl, ?_⟩
    first
    | exact .of (congrArg _ (B_congr ⟨fun hE => hE.2.2, fun hO => ⟨by assumption, by assumption, hO⟩⟩))
    | exact .of (congrArg _ (B_false fun hE => absurd hE.1 (by assumption)))
    | exact .of (congrArg _ (B_false fun hE => absurd hE.2.1 (by assumption)))
   ·
    try simp only [sps] at h9
    refine .sg rfl rfl rfl rfl rfl ?_
    refine .sg rfl rfl rfl rfl rfl ?_
    refine .m rfl rfl rfl (.pickF rfl rfl) ?_
    refine .m rfl rfl rfl (.assign rfl) ?_
    refine .nil ?_
    refine hK2 _ _ ?_
    refine .ret ?_
    -- leaf e2
    refine hret _ _ ?_
    refine ⟨_, rfl, ?_⟩
    first
    | exact .of (congrArg _ (B_congr ⟨fun hE => hE.2.2, fun hO => ⟨by assumption, by assumption, hO⟩⟩))
    | exact .of (congrArg _ (B_false fun hE => absurd hE.1 (by assumption)))
    | exact .of (congrArg _ (B_false fun hE => absurd hE.2.1 (by assumption)))
  ·
   try simp only [sps] at h5
   refine .sg rfl rfl rfl rfl rfl ?_
   refine .sg rfl rfl rfl rfl rfl ?_
   refine .m rfl rfl rfl (.pickF rfl rfl) ?_
   refine .m rfl rfl rfl (.move rfl) ?_
   refine .sg rfl rfl rfl rfl rfl ?_
   refine .sg rfl rfl rfl rfl rfl ?_
   refine .m rfl rfl rfl (.pickF rfl rfl) ?_
   refine .m rfl rfl rfl (.assign rfl) ?_
   refine .nil ?_
   refine hK2 _ _ ?_
   refine .ret ?_
   -- leaf e3
   refine hret _ _ ?_
   refine ⟨_, rfl, ?_⟩
   first
   | exact .of (congrArg _ (B_congr ⟨fun hE => hE.2.2, fun hO => ⟨by assumption, by assumption, hO⟩⟩))
   | exact .of (congrArg _ (B_false fun hE => absurd hE.1 (by assumption)))
   | exact .of (congrArg _ (B_false fun hE => absurd hE.2.1 (by assumption)))
theorem asked_c {g o : Nat} {f : Fun} {p : FunP} {fn : Nat} {b : Bool} {H : GHeap} (h : Fun.At H g o f p := by assumption) (hsm : f.Small := by assumption) (hcall : ∀ (xs : Array Value) (w : World), (callFunc fn xs).run Try.prog w = .ok (.enter fn xs) w)
    (hq : f.Is → GCalls Try.prog fn [.pointer (some ⟨g, o, none⟩)] H (Ret (.bool b) H)) :
    GCalls Try.prog 66 [.pointer (some ⟨g, o, none⟩), .func (.func fn) #[] #[]] H (Ret (.tuple #[.bool (B f.Is && b), .int .i64 (bif B f.Is then 0 else 1)]) H) := by
  refine GCalls.body (N := 12) (rs := [.tmp 4, .tmp 5]) Try.func66 rfl rfl rfl rfl (fun Qx hret hend => ?_)
  refine .forget (fr' := [(0, some _), (1, some _)]) ⟨rfl, rfl, trivial⟩ ?_
  refine .seq (fun K1 hK1 => ?_)
  refine .region ?_
  refine .m rfl rfl rfl (.assign rfl) ?_
  refine .m rfl rfl rfl (.assign rfl) ?_
  refine .nil ?_
  refine hK1 _ _ ?_
  refine .seq (fun K2 hK2 => ?_)
  refine .seq (fun K3 hK3 => ?_)
  refine .region ?_
  refine .m rfl rfl rfl (.move rfl) ?_
  refine .callQ rfl rfl rfl rfl @Try.call82 rfl (isFunctor_c) ?_
  refine .m rfl rfl rfl (.not rfl) ?_
  refine .nil ?_
  refine hK3 _ _ ?_
  refine .cond rfl (fun h8 => ?_) (fun h8 => ?_)
  ·
   try simp only [sps] at h8
   refine .seq (fun K4 hK4 => ?_)
   refine .region ?_
   refine .m rfl rfl rfl (.assign rfl) ?_
   refine .m rfl rfl rfl (.assign rfl) ?_
   refine .nil ?_
   refine hK4 _ _ ?_
   refine .ret ?_
   -- leaf e1
   refine hret _ _ ?_
   refine ⟨_, _, rfl, rfl, ?_⟩
   exact .of (by rw [B_false h8]; rfl)
  ·
   try simp only [sps] at h8
   refine .skip ?_
   refine hK2 _ _ ?_
   refine .seq (fun K5 hK5 => ?_)
   refine .region ?_
   refine .m rfl rfl rfl (.move rfl) ?_
   refine .m rfl rfl rfl (.move rfl) ?_
   refine .callV rfl rfl rfl rfl rfl hcall rfl ((hq h8)) ?_
   rintro _ _ ⟨rfl, rfl⟩
   refine .m rfl rfl rfl (.assign rfl) ?_
   refine .m rfl rfl rfl (.assign rfl) ?_
   refine .nil ?_
   refine hK5 _ _ ?_
   refine .ret ?_
   -- leaf e2
   refine hret _ _ ?_
   refine ⟨_, _, rfl, rfl, ?_⟩
   exact .of (by rw [B_true h8]; rfl)
theorem implIsEquivalence_c {f : Fun} {p : FunP} {H : GHeap} (hin : f.In H p := by assumption) (hsm : f.Small := by assumption) :
    GCalls Try.prog 18 [.agg (f.cells p).toArray] H (Ret (.tuple #[.bool (B f.Is && B f.Equiv), .int .i64 (bif B f.Is then 0 else 1)]) H) := by
  refine GCalls.ret rfl ?_
  refine GCalls.body (N := 7) (rs := [.tmp 2, .tmp 3]) Try.func18 rfl rfl rfl rfl (fun Qx hret hend => ?_)
  refine .forget (fr' := [(0, some _)]) ⟨rfl, trivial⟩ ?_
  have hle := GHeap.Le.refl H
  have base_hin := hin
  refine .seq (fun K1 hK1 => ?_)
  refine .region ?_
  refine .r rfl rfl rfl (.boxR rfl sz_33_E rfl) ?_
  rintro _ H1 ⟨g1, rfl, le1, ge1, at1⟩
  have nx_H1 := le1.1
  replace hle := hle.trans le1
  have lt_at1 := GHeap.lt_of_get at1
  replace hin := base_hin.mono hle
  have hb1 : Fun.At _ g1 0 f p := ⟨Mem.of_get at1, hin⟩
  obtain ⟨fs1, ft1, c101, c111, j11, j21⟩ := hb1.get
  have hm1 : MemN _ _ _ _ _ := ⟨rfl, hb1.1⟩
  have hi1 := hb1.2
  have hms1 : MemN _ _ _ _ _ := ⟨rfl, fs1.1⟩
  have his1 := fs1.2
  have hmt1 : MemN _ _ _ _ _ := ⟨rfl, ft1.1⟩
  have hit1 := ft1.2
  refine .m rfl rfl rfl (.assign rfl) ?_
  refine .m rfl rfl rfl (.assign rfl) ?_
  refine .nil ?_
  refine hK1 _ _ ?_
  refine .seq (fun K2 hK2 => ?_)
  refine .region ?_
  refine .callQ rfl rfl rfl rfl @Try.call66 rfl (asked_c hb1 hsm @Try.call67 (fun hI => isEquivalence_c hb1 hI)) ?_
  refine .m rfl rfl rfl (.extract rfl rfl) ?_
  refine .m rfl rfl rfl (.extract rfl rfl) ?_
  refine .m rfl rfl rfl (.assign rfl) ?_
  refine .m rfl rfl rfl (.assign rfl) ?_
  refine .nil ?_
  refine hK2 _ _ ?_
  refine .ret ?_
  -- leaf e1
  refine hret _ _ ?_
  refine ⟨_, _, rfl, rfl, ?_⟩
  exact ⟨rfl, hle⟩
theorem l06Faithful_c {f : Fun} {p : FunP} {H : GHeap} (hin : f.In H p := by assumption) (hI : f.Is := by assumption) :
    GCalls Try.prog 115 [.agg (f.cells p).toArray] H (Ret (.bool (B f.Faithful)) H) := by
  refine GCalls.ret rfl ?_
  have hSs := hI.1.1
  refine GCalls.body (N := 35) (rs := [.tmp 2]) Try.func115 rfl rfl rfl rfl (fun Qx hret hend => ?_)
  refine .forget (fr' := [(0, some _)]) ⟨rfl, trivial⟩ ?_
  have hle := GHeap.Le.refl H
  have base_hin := hin
  have q4 := hI.2.2.al
  have q2 := hSs.n40
  have q1 := hSs.tl
  refine .seq (fun K1 hK1 => ?_)
  refine .region ?_
  refine .r rfl rfl rfl (.boxR rfl sz_33_E rfl) ?_
  rintro _ H1 ⟨g1, rfl, le1, ge1, at1⟩
  have nx_H1 := le1.1
  replace hle := hle.trans le1
  have lt_at1 := GHeap.lt_of_get at1
  replace hin := base_hin.mono hle
  have hb1 : Fun.At _ g1 0 f p := ⟨Mem.of_get at1, hin⟩
  obtain ⟨fs1, ft1, c101, c111, j11, j21⟩ := hb1.get
  have hm1 : MemN _ _ _ _ _ := ⟨rfl, hb1.1⟩
  have hi1 := hb1.2
  have hms1 : MemN _ _ _ _ _ := ⟨rfl, fs1.1⟩
  have his1 := fs1.2
  have hmt1 : MemN _ _ _ _ _ := ⟨rfl, ft1.1⟩
  have hit1 := ft1.2
  refine .m rfl rfl rfl (.assign rfl) ?_
  refine .nil ?_
  refine hK1 _ _ ?_
  refine .seq (fun K2 hK2 => ?_)
  refine .seq (fun K3 hK3 => ?_)
  refine .region ?_
  refine .m rfl rfl rfl (.assign rfl) ?_
  refine .nil ?_
  refine hK3 _ _ ?_
  refine .block ?_
  refine .loopR (σ := Nat) [(1, some _)] (fun k => [(3, some (.int .i64 (k : Int)))]) (fun k H' => H1 = H' ∧ (k : Int) ≤ f.ar.length ∧ ∀ a, a < k → ∀ b : Nat, b < a → ¬ (f.s.src.getD a 0 = f.s.src.getD b 0 ∧ f.s.tgt.getD a 0 = f.s.tgt.getD b 0 ∧ f.ar.getD a 0 = f.ar.getD b 0)) (fun k => (f.ar.length - k : Int).toNat) (0) ⟨rfl, trivial⟩ ⟨rfl, trivial⟩ ?_ ?_
  ·
   refine ⟨rfl, ?_⟩
   exact ⟨by omega, fun _ _ => by omega⟩
  ·
   rintro k _ ⟨rfl, hI⟩ KL1 hKL1
   refine .forget (fr' := [(3, some (.int .i64 (k : Int))), (1, some _)]) ⟨rfl, rfl, trivial⟩ ?_
   obtain ⟨hk1, ha1⟩ := hI
   refine .seq (fun K4 hK4 => ?_)
   refine .seq (fun K5 hK5 => ?_)
   refine .region ?_
   refine .m rfl rfl rfl (.move rfl) ?_
   refine .m rfl rfl rfl (.fieldAddr fo_33_3_E rfl) ?_
   refine .m rfl rfl rfl (.load on_22_B rfl (by assumption)) ?_
   refine .m rfl rfl rfl (.len sl_22_A rfl) ?_
   refine .m rfl rfl rfl (.cmp rfl rfl rfl) ?_
   refine .nil ?_
   refine hK5 _ _ ?_
   refine .cond rfl (fun h9 => ?_) (fun h9 => ?_)
   ·
    try simp only [sps] at h9
    refine .skip ?_
    refine hK4 _ _ ?_
    refine .seq (fun K6 hK6 => ?_)
    refine .block ?_
    refine .seq (fun K7 hK7 => ?_)
    refine .region ?_
    refine .m rfl rfl rfl (.assign rfl) ?_
    refine .nil ?_
    refine hK7 _ _ ?_
    refine .block ?_
    refine .loopR (σ := Nat) [(1, some _), (3, some _)] (fun j => [(4, some (.int .i64 (j : Int)))]) (fun j H' => H1 = H' ∧ (j : Int) ≤ k ∧ ∀ b, b < j → ¬ (f.s.src.getD k 0 = f.s.src.getD b 0 ∧ f.s.tgt.getD k 0 = f.s.tgt.getD b 0 ∧ f.ar.getD k 0 = f.ar.getD b 0)) (fun j => (k - j : Int).toNat) (0) ⟨rfl, rfl, trivial⟩ ⟨rfl, trivial⟩ ?_ ?_
    ·
     refine ⟨rfl, ?_⟩
     exact ⟨by omega, fun _ _ => by omega⟩
    ·
     rintro j _ ⟨rfl, hI⟩ KL2 hKL2
     refine .forget (fr' := [(4, some (.int .i64 (j : Int))), (1, some _), (3, some _)]) ⟨rfl, rfl, rfl, trivial⟩ ?_
     obtain ⟨hk2, ha2⟩ := hI
     refine .seq (fun K8 hK8 => ?_)
     refine .seq (fun K9 hK9 => ?_)
     refine .region ?_
     refine .m rfl rfl rfl (.move rfl) ?_
     refine .m rfl rfl rfl (.move rfl) ?_
     refine .m rfl rfl rfl (.cmp rfl rfl rfl) ?_
     refine .nil ?_
     refine hK9 _ _ ?_
     refine .cond rfl (fun h14 => ?_) (fun h14 => ?_)
     ·
      try simp only [sps] at h14
      refine .skip ?_
      refine hK8 _ _ ?_
      refine .seq (fun K10 hK10 => ?_)
      refine .block ?_
      refine .seq (fun K11 hK11 => ?_)
      refine .regionD mixed_orders_B (.q 0 (.q 1 (.q 2 (.q 3 (.c 4 0 (.q 5 (.q 6 (.q 7 (.q 8 (.q 9 (.q 10 (.q 11 (.q 12 (.q 13 (.q 14 (.q 15 (.q 16 (.q 17 (.done))))))))))))))))))) (by kernel_rfl) ?_
      refine .m rfl rfl rfl rfl (.refl _) (.fieldAddr fo_33_0_E rfl) ?_
      refine .m rfl rfl rfl rfl (.refl _) (.loadM ag_31_D rfl (by assumption)) ?_
      refine .m rfl rfl rfl rfl (.refl _) (.move rfl) ?_
      refine .m rfl rfl rfl rfl (.refl _) (.move rfl) ?_
      refine .callQ0 rfl rfl rfl rfl rfl @Try.call161 rfl (l03Parallel_c) ?_
      refine .m rfl rfl rfl rfl (.refl _) (.move rfl) ?_
      refine .split (fun h22 => ?_) (fun h22 => ?_)
      ·
       try simp only [sps] at h22
       refine .mg rfl rfl rfl rfl rfl rfl (.refl _) (.fieldAddr fo_33_3_E rfl) ?_
       refine .mg rfl rfl rfl rfl rfl rfl (.refl _) (.load on_22_B rfl (by assumption)) ?_
       refine .mg rfl rfl rfl rfl rfl rfl (.refl _) (.move rfl) ?_
       refine .mg rfl rfl rfl rfl rfl rfl (.refl _) (.idxN sl_22_A (by assumption) rfl rfl (by omega)) ?_
       refine .mg rfl rfl rfl rfl rfl rfl (.refl _) (.loadI on_2_A (by assumption) rfl (by omega)) ?_
       refine .mg rfl rfl rfl rfl rfl rfl (.refl _) (.fieldAddr fo_33_3_E rfl) ?_
       refine .mg rfl rfl rfl rfl rfl rfl (.refl _) (.load on_22_B rfl (by assumption)) ?_
       refine .mg rfl rfl rfl rfl rfl rfl (.refl _) (.move rfl) ?_
       refine .mg rfl rfl rfl rfl rfl rfl (.refl _) (.idxN sl_22_A (by assumption) rfl rfl (by omega)) ?_
       refine .mg rfl rfl rfl rfl rfl rfl (.refl _) (.loadI on_2_A (by assumption) rfl (by omega)) ?_
       refine .mg rfl rfl rfl rfl rfl rfl (.refl _) (.cmp rfl rfl rfl) ?_
       refine .m rfl rfl rfl rfl (.refl _) (.pickT rfl rfl) ?_
       refine .done ?_
       refine hK11 _ _ ?_
       refine .cond rfl (fun h34 => ?_) (fun h34 => ?_)
       ·
        try simp only [sps] at h34
        refine .seq (fun K12 hK12 => ?_)
        refine .region ?_
        refine .m rfl rfl rfl (.assign rfl) ?_
        refine .nil ?_
        refine hK12 _ _ ?_
        refine .ret ?_
        -- leaf e1
        refine hret _ _ ?_
        refine ⟨_, rfl, ?_⟩
        exact ⟨congrArg _ (B_false fun hF => hF k (by omega) j (by omega) (by omega)), hle⟩
       ·
        try simp only [sps] at h34
        refine .skip ?_
        refine hK10 _ _ ?_
        refine .region ?_
        refine .m rfl rfl rfl (.move rfl) ?_
        refine .m rfl rfl rfl (.add rfl rfl rfl (by omega) (by omega)) ?_
        refine .m rfl rfl rfl (.assign rfl) ?_
        refine .nil ?_
        refine hKL2 (j + 1) _ _ ?_ ?_ ⟨rfl, rfl, rfl, trivial⟩
        ·
         refine ⟨rfl, ?_⟩
         refine ⟨by omega, fun b hx => ?_⟩
         by_cases e : b < j
         · exact ha2 b e
         · obtain rfl : b = j := by omega
           omega
        ·
         omega
      ·
       try simp only [sps] at h22
       refine .sg rfl rfl rfl rfl rfl rfl ?_
       refine .sg rfl rfl rfl rfl rfl rfl ?_
       refine .sg rfl rfl rfl rfl rfl rfl ?_
       refine .sg rfl rfl rfl rfl rfl rfl ?_
       refine .sg rfl rfl rfl rfl rfl rfl ?_
       refine .sg rfl rfl rfl rfl rfl rfl ?_
       refine .sg rfl rfl rfl rfl rfl rfl ?_
       refine .sg rfl rfl rfl rfl rfl rfl ?_
       refine .sg rfl rfl rfl rfl rfl rfl ?_
       refine .sg rfl rfl rfl rfl rfl rfl ?_
       refine .sg rfl rfl rfl rfl rfl rfl ?_
       refine .m rfl rfl rfl rfl (.refl _) (.pickF rfl rfl) ?_
       refine .done ?_
       refine hK11 _ _ ?_
       refine .condF rfl ?_
       refine .skip ?_
       refine hK10 _ _ ?_
       refine .region ?_
       refine .m rfl rfl rfl (.move rfl) ?_
       refine .m rfl rfl rfl (.add rfl rfl rfl (by omega) (by omega)) ?_
       refine .m rfl rfl rfl (.assign rfl) ?_
       refine .nil ?_
       refine hKL2 (j + 1) _ _ ?_ ?_ ⟨rfl, rfl, rfl, trivial⟩
       ·
        refine ⟨rfl, ?_⟩
        refine ⟨by omega, fun b hx => ?_⟩
        by_cases e : b < j
        · exact ha2 b e
        · obtain rfl : b = j := by omega
          omega
       ·
        omega
     ·
      try simp only [sps] at h14
      refine .exit ?_
      refine hK6 _ _ ?_
      refine .region ?_
      refine .m rfl rfl rfl (.move rfl) ?_
      refine .m rfl rfl rfl (.add rfl rfl rfl (by omega) (by omega)) ?_
      refine .m rfl rfl rfl (.assign rfl) ?_
      refine .nil ?_
      refine hKL1 (k + 1) _ _ ?_ ?_ ⟨rfl, rfl, trivial⟩
      ·
       refine ⟨rfl, ?_⟩
       refine ⟨by omega, fun a hx => ?_⟩
       by_cases e : a < k
       · exact ha1 a e
       · obtain rfl : a = k := by omega
         exact fun b hb => ha2 b (by omega)
      ·
       omega
   ·
    try simp only [sps] at h9
    refine .exit ?_
    refine hK2 _ _ ?_
    refine .seq (fun K13 hK13 => ?_)
    refine .region ?_
    refine .m rfl rfl rfl (.assign rfl) ?_
    refine .nil ?_
    refine hK13 _ _ ?_
    refine .ret ?_
    -- leaf e2
    refine hret _ _ ?_
    refine ⟨_, rfl, ?_⟩
    exact ⟨congrArg _ (B_true fun x hx => ha1 x (by omega)), hle⟩
theorem l06Full_c {f : Fun} {p : FunP} {H : GHeap} (hin : f.In H p := by assumption) (hI : f.Is := by assumption) :
    GCalls Try.prog 114 [.agg (f.cells p).toArray] H (Ret (.bool (B f.Full)) H) := by
  refine GCalls.ret rfl ?_
  have hSs := hI.1.1
  have hTs := hI.2.1.1
  refine GCalls.body (N := 56) (rs := [.tmp 2]) Try.func114 rfl rfl rfl rfl (fun Qx hret hend => ?_)
  refine .forget (fr' := [(0, some _)]) ⟨rfl, trivial⟩ ?_
  have hle := GHeap.Le.refl H
  have base_hin := hin
  have q1 := hI.2.2.ol
  have q2 := hSs.n40
  have q3 := hTs.n40
  have q4 := hI.2.2.al
  have q5 := hSs.obj
  refine .seq (fun K1 hK1 => ?_)
  refine .region ?_
  refine .r rfl rfl rfl (.boxR rfl sz_33_E rfl) ?_
  rintro _ H1 ⟨g1, rfl, le1, ge1, at1⟩
  have nx_H1 := le1.1
  replace hle := hle.trans le1
  have lt_at1 := GHeap.lt_of_get at1
  replace hin := base_hin.mono hle
  have hb1 : Fun.At _ g1 0 f p := ⟨Mem.of_get at1, hin⟩
  obtain ⟨fs1, ft1, c101, c111, j11, j21⟩ := hb1.get
  have hm1 : MemN _ _ _ _ _ := ⟨rfl, hb1.1⟩
  have hi1 := hb1.2
  have hms1 : MemN _ _ _ _ _ := ⟨rfl, fs1.1⟩
  have his1 := fs1.2
  have hmt1 : MemN _ _ _ _ _ := ⟨rfl, ft1.1⟩
  have hit1 := ft1.2
  refine .m rfl rfl rfl (.assign rfl) ?_
  refine .nil ?_
  refine hK1 _ _ ?_
  refine .seq (fun K2 hK2 => ?_)
  refine .seq (fun K3 hK3 => ?_)
  refine .region ?_
  refine .m rfl rfl rfl (.assign rfl) ?_
  refine .nil ?_
  refine hK3 _ _ ?_
  refine .block ?_
  obtain ⟨c0, c1, c2, c3, c4, i1, i2, i3, i4⟩ := fs1.get
  refine .loopR (σ := Nat) [(1, some _)] (fun k => [(3, some (.int .i64 (k : Int)))]) (fun k H' => St [] H1 H' ∧ (k : Int) ≤ f.s.obj ∧ ∀ x, x < k → ∀ y : Nat, (y : Int) < f.s.obj → ∀ i, i < (f.t.hom (f.ob.getD x 0) (f.ob.getD y 0)).length → (f.t.hom (f.ob.getD x 0) (f.ob.getD y 0)).getD i 0 ∈ thenL (f.s.hom x y) f.ar) (fun k => (f.s.obj - k : Int).toNat) (0) ⟨rfl, trivial⟩ ⟨rfl, trivial⟩ ?_ ?_
  ·
   refine ⟨.refl _ _, ?_⟩
   exact ⟨by omega, fun _ _ => by omega⟩
  ·
   rintro k HL1 ⟨lst1, hI⟩ KL1 hKL1
   refine .forget (fr' := [(3, some (.int .i64 (k : Int))), (1, some _)]) ⟨rfl, rfl, trivial⟩ ?_
   have nx_HL1 := lst1.nx
   replace hle := hle.st lst1 (fun k hk => trivial)
   replace at1 := lst1.same _ _ trivial at1
   replace hin := base_hin.mono hle
   clear hb1 fs1 ft1 c101 c111 j11 j21 hm1 hi1 hms1 his1 hmt1 hit1
   have hb1 : Fun.At _ g1 0 f p := ⟨Mem.of_get at1, hin⟩
   obtain ⟨fs1, ft1, c101, c111, j11, j21⟩ := hb1.get
   have hm1 : MemN _ _ _ _ _ := ⟨rfl, hb1.1⟩
   have hi1 := hb1.2
   have hms1 : MemN _ _ _ _ _ := ⟨rfl, fs1.1⟩
   have his1 := fs1.2
   have hmt1 : MemN _ _ _ _ _ := ⟨rfl, ft1.1⟩
   have hit1 := ft1.2
   obtain ⟨hk1, ha1⟩ := hI
   obtain ⟨c0, c1, c2, c3, c4, i1, i2, i3, i4⟩ := fs1.get
   refine .seq (fun K4 hK4 => ?_)
   refine .seq (fun K5 hK5 => ?_)
   refine .region ?_
   refine .m rfl rfl rfl (.move rfl) ?_
   refine .m rfl rfl rfl (.fieldAddr fo_33_0_E rfl) ?_
   refine .m rfl rfl rfl (.fieldAddr fo_31_0_B rfl) ?_
   refine .m rfl rfl rfl (.load on_2_A rfl (by assumption)) ?_
   refine .m rfl rfl rfl (.cmp rfl rfl rfl) ?_
   refine .nil ?_
   refine hK5 _ _ ?_
   refine .cond rfl (fun h12 => ?_) (fun h12 => ?_)
   ·
    try simp only [sps] at h12
    refine .skip ?_
    refine hK4 _ _ ?_
    refine .seq (fun K6 hK6 => ?_)
    refine .block ?_
    refine .seq (fun K7 hK7 => ?_)
    refine .region ?_
    refine .m rfl rfl rfl (.assign rfl) ?_
    refine .nil ?_
    refine hK7 _ _ ?_
    refine .block ?_
    refine .loopR (σ := Nat) [(1, some _), (3, some _)] (fun j => [(4, some (.int .i64 (j : Int)))]) (fun j H' => St [] HL1 H' ∧ (j : Int) ≤ f.s.obj ∧ ∀ y, y < j → ∀ i, i < (f.t.hom (f.ob.getD k 0) (f.ob.getD y 0)).length → (f.t.hom (f.ob.getD k 0) (f.ob.getD y 0)).getD i 0 ∈ thenL (f.s.hom k y) f.ar) (fun j => (f.s.obj - j : Int).toNat) (0) ⟨rfl, rfl, trivial⟩ ⟨rfl, trivial⟩ ?_ ?_
    ·
     refine ⟨.refl _ _, ?_⟩
     exact ⟨by omega, fun _ _ => by omega⟩
    ·
     rintro j HL2 ⟨lst2, hI⟩ KL2 hKL2
     refine .forget (fr' := [(4, some (.int .i64 (j : Int))), (1, some _), (3, some _)]) ⟨rfl, rfl, rfl, trivial⟩ ?_
     have nx_HL2 := lst2.nx
     replace hle := hle.st lst2 (fun k hk => trivial)
     replace lst1 := lst1.st lst2 (fun k hk ho => by simp only [out, and_true] at ho ⊢ <;> omega)
     replace at1 := lst2.same _ _ trivial at1
     replace hin := base_hin.mono hle
     clear hb1 fs1 ft1 c101 c111 j11 j21 hm1 hi1 hms1 his1 hmt1 hit1
     have hb1 : Fun.At _ g1 0 f p := ⟨Mem.of_get at1, hin⟩
     obtain ⟨fs1, ft1, c101, c111, j11, j21⟩ := hb1.get
     have hm1 : MemN _ _ _ _ _ := ⟨rfl, hb1.1⟩
     have hi1 := hb1.2
     have hms1 : MemN _ _ _ _ _ := ⟨rfl, fs1.1⟩
     have his1 := fs1.2
     have hmt1 : MemN _ _ _ _ _ := ⟨rfl, ft1.1⟩
     have hit1 := ft1.2
     obtain ⟨hk2, ha2⟩ := hI
     obtain ⟨c0, c1, c2, c3, c4, i1, i2, i3, i4⟩ := fs1.get
     refine .seq (fun K8 hK8 => ?_)
     refine .seq (fun K9 hK9 => ?_)
     refine .region ?_
     refine .m rfl rfl rfl (.move rfl) ?_
     refine .m rfl rfl rfl (.fieldAddr fo_33_0_E rfl) ?_
     refine .m rfl rfl rfl (.fieldAddr fo_31_0_B rfl) ?_
     refine .m rfl rfl rfl (.load on_2_A rfl (by assumption)) ?_
     refine .m rfl rfl rfl (.cmp rfl rfl rfl) ?_
     refine .nil ?_
     refine hK9 _ _ ?_
     refine .cond rfl (fun h19 => ?_) (fun h19 => ?_)
     ·
      simp only [sps] at h19
      have hb : ∀ i, i < (f.s.hom k j).length → 0 ≤ (f.s.hom k j).getD i 0 ∧ (f.s.hom k j).getD i 0 < f.ar.length := fun i hi => by
        obtain ⟨a, a1, _, _, a4⟩ := f.s.hom_get hi
        omega
      have q6 := f.s.hom_le k j
      have q7 := f.t.hom_le (f.ob.getD k 0) (f.ob.getD j 0)
      have q8 := length_thenL (f.s.hom k j) f.ar
      refine .skip ?_
      refine hK8 _ _ ?_
      refine .seq (fun K10 hK10 => ?_)
      refine .block ?_
      refine .seq (fun K11 hK11 => ?_)
      refine .regionD mixed_orders_B (.q 0 (.q 1 (.q 2 (.q 3 (.q 5 (.q 6 (.c 4 1 (.c 7 0 (.q 8 (.done)))))))))) (by kernel_rfl) ?_
      refine .m rfl rfl rfl rfl (.refl _) (.fieldAddr fo_33_0_E rfl) ?_
      refine .m rfl rfl rfl rfl (.refl _) (.loadM ag_31_D rfl (by assumption)) ?_
      refine .m rfl rfl rfl rfl (.refl _) (.move rfl) ?_
      refine .m rfl rfl rfl rfl (.refl _) (.move rfl) ?_
      refine .m rfl rfl rfl rfl (.refl _) (.fieldAddr fo_33_3_E rfl) ?_
      refine .m rfl rfl rfl rfl (.refl _) (.load on_22_B rfl (by assumption)) ?_
      refine .call1 rfl rfl rfl rfl rfl @Try.call144 rfl (l02Hom_c) ?_
      rintro _ H26 ⟨le26, g26, rfl, at26, ge26⟩
      have hbl := le26
      refine ⟨hbl, ?_⟩
      have nx_H26 := le26.1
      replace hle := hle.trans le26
      replace lst1 := lst1.le le26
      replace lst2 := lst2.le le26
      replace at1 := le26.2 _ _ at1
      have lt_at26 := GHeap.lt_of_get at26
      replace hin := base_hin.mono hle
      clear hb1 fs1 ft1 c101 c111 j11 j21 hm1 hi1 hms1 his1 hmt1 hit1
      have hb1 : Fun.At _ g1 0 f p := ⟨Mem.of_get at1, hin⟩
      obtain ⟨fs1, ft1, c101, c111, j11, j21⟩ := hb1.get
      have hm1 : MemN _ _ _ _ _ := ⟨rfl, hb1.1⟩
      have hi1 := hb1.2
      have hms1 : MemN _ _ _ _ _ := ⟨rfl, fs1.1⟩
      have his1 := fs1.2
      have hmt1 : MemN _ _ _ _ _ := ⟨rfl, ft1.1⟩
      have hit1 := ft1.2
      have i26 := Ints.of_get at26
      refine .call0 rfl rfl rfl rfl rfl @Try.call70 rfl (l01Then_c) ?_
      rintro _ H29 ⟨le29, g29, rfl, at29, ge29⟩
      have nx_H29 := le29.1
      replace hle := hle.trans le29
      replace lst1 := lst1.le le29
      replace lst2 := lst2.le le29
      replace at1 := le29.2 _ _ at1
      replace at26 := le29.2 _ _ at26
      have lt_at29 := GHeap.lt_of_get at29
      replace hin := base_hin.mono hle
      clear hb1 fs1 ft1 c101 c111 j11 j21 hm1 hi1 hms1 his1 hmt1 hit1
      have hb1 : Fun.At _ g1 0 f p := ⟨Mem.of_get at1, hin⟩
      obtain ⟨fs1, ft1, c101, c111, j11, j21⟩ := hb1.get
      have hm1 : MemN _ _ _ _ _ := ⟨rfl, hb1.1⟩
      have hi1 := hb1.2
      have hms1 : MemN _ _ _ _ _ := ⟨rfl, fs1.1⟩
      have his1 := fs1.2
      have hmt1 : MemN _ _ _ _ _ := ⟨rfl, ft1.1⟩
      have hit1 := ft1.2
      clear i26
      have i26 := Ints.of_get at26
      have i29 := Ints.of_get at29
      refine .m rfl rfl rfl rfl (.refl _) (.assign rfl) ?_
      refine .done ?_
      refine hK11 _ _ ?_
      refine .seq (fun K12 hK12 => ?_)
      refine .regionD mixed_orders_B (.q 0 (.q 1 (.q 2 (.q 3 (.q 4 (.q 5 (.q 6 (.q 7 (.q 8 (.q 9 (.q 10 (.q 11 (.c 12 0 (.q 13 (.done))))))))))))))) (by kernel_rfl) ?_
      refine .m rfl rfl rfl rfl (.refl _) (.fieldAddr fo_33_1_E rfl) ?_
      refine .m rfl rfl rfl rfl (.refl _) (.loadM ag_31_D rfl (by assumption)) ?_
      refine .m rfl rfl rfl rfl (.refl _) (.fieldAddr fo_33_2_E rfl) ?_
      refine .m rfl rfl rfl rfl (.refl _) (.load on_22_B rfl (by assumption)) ?_
      refine .m rfl rfl rfl rfl (.refl _) (.move rfl) ?_
      refine .m rfl rfl rfl rfl (.refl _) (.idxN sl_22_A (by assumption) rfl rfl (by omega)) ?_
      refine .m rfl rfl rfl rfl (.refl _) (.loadI on_2_A (by assumption) rfl (by omega)) ?_
      refine .m rfl rfl rfl rfl (.refl _) (.fieldAddr fo_33_2_E rfl) ?_
      refine .m rfl rfl rfl rfl (.refl _) (.load on_22_B rfl (by assumption)) ?_
      refine .m rfl rfl rfl rfl (.refl _) (.move rfl) ?_
      refine .m rfl rfl rfl rfl (.refl _) (.idxN sl_22_A (by assumption) rfl rfl (by omega)) ?_
      refine .m rfl rfl rfl rfl (.refl _) (.loadI on_2_A (by assumption) rfl (by omega)) ?_
      refine .call0 rfl rfl rfl rfl rfl @Try.call144 rfl (l02Hom_c) ?_
      rintro _ H42 ⟨le42, g42, rfl, at42, ge42⟩
      have nx_H42 := le42.1
      replace hle := hle.trans le42
      replace lst1 := lst1.le le42
      replace lst2 := lst2.le le42
      replace at1 := le42.2 _ _ at1
      replace at26 := le42.2 _ _ at26
      replace at29 := le42.2 _ _ at29
      have lt_at42 := GHeap.lt_of_get at42
      replace hin := base_hin.mono hle
      clear hb1 fs1 ft1 c101 c111 j11 j21 hm1 hi1 hms1 his1 hmt1 hit1
      have hb1 : Fun.At _ g1 0 f p := ⟨Mem.of_get at1, hin⟩
      obtain ⟨fs1, ft1, c101, c111, j11, j21⟩ := hb1.get
      have hm1 : MemN _ _ _ _ _ := ⟨rfl, hb1.1⟩
      have hi1 := hb1.2
      have hms1 : MemN _ _ _ _ _ := ⟨rfl, fs1.1⟩
      have his1 := fs1.2
      have hmt1 : MemN _ _ _ _ _ := ⟨rfl, ft1.1⟩
      have hit1 := ft1.2
      clear i26
      have i26 := Ints.of_get at26
      clear i29
      have i29 := Ints.of_get at29
      have i42 := Ints.of_get at42
      refine .m rfl rfl rfl rfl (.refl _) (.assign rfl) ?_
      refine .done ?_
      refine hK12 _ _ ?_
      refine .seq (fun K13 hK13 => ?_)
      refine .region ?_
      refine .m rfl rfl rfl (.assign rfl) ?_
      refine .nil ?_
      refine hK13 _ _ ?_
      refine .block ?_
      refine .loopR (σ := Nat) [(1, some _), (3, some _), (4, some _), (5, some _), (6, some _)] (fun l => [(7, some (.int .i64 (l : Int)))]) (fun l H' => H42 = H' ∧ (l : Int) ≤ (f.t.hom (f.ob.getD k 0) (f.ob.getD j 0)).length ∧ ∀ i, i < l → (f.t.hom (f.ob.getD k 0) (f.ob.getD j 0)).getD i 0 ∈ thenL (f.s.hom k j) f.ar) (fun l => ((f.t.hom (f.ob.getD k 0) (f.ob.getD j 0)).length - l : Int).toNat) (0) ⟨rfl, rfl, rfl, rfl, rfl, trivial⟩ ⟨rfl, trivial⟩ ?_ ?_
      ·
       refine ⟨rfl, ?_⟩
       exact ⟨by omega, fun _ _ => by omega⟩
      ·
       rintro l _ ⟨rfl, hI⟩ KL3 hKL3
       refine .forget (fr' := [(7, some (.int .i64 (l : Int))), (1, some _), (3, some _), (4, some _), (5, some _), (6, some _)]) ⟨rfl, rfl, rfl, rfl, rfl, rfl, trivial⟩ ?_
       obtain ⟨hk3, ha3⟩ := hI
       refine .seq (fun K14 hK14 => ?_)
       refine .seq (fun K15 hK15 => ?_)
       refine .region ?_
       refine .m rfl rfl rfl (.move rfl) ?_
       refine .m rfl rfl rfl (.move rfl) ?_
       refine .m rfl rfl rfl (.len sl_22_A rfl) ?_
       refine .m rfl rfl rfl (.cmp rfl rfl rfl) ?_
       refine .nil ?_
       refine hK15 _ _ ?_
       refine .cond rfl (fun h46 => ?_) (fun h46 => ?_)
       ·
        try simp only [sps] at h46
        refine .skip ?_
        refine hK14 _ _ ?_
        refine .seq (fun K16 hK16 => ?_)
        refine .block ?_
        refine .seq (fun K17 hK17 => ?_)
        refine .region ?_
        refine .m rfl rfl rfl (.move rfl) ?_
        refine .m rfl rfl rfl (.move rfl) ?_
        refine .m rfl rfl rfl (.move rfl) ?_
        refine .m rfl rfl rfl (.idxN sl_22_A (by assumption) rfl rfl (by omega)) ?_
        refine .m rfl rfl rfl (.loadI on_2_A (by assumption) rfl (by omega)) ?_
        refine .callQ rfl rfl rfl rfl @Try.call160 rfl (l01Has_c) ?_
        refine .m rfl rfl rfl (.not rfl) ?_
        refine .nil ?_
        refine hK17 _ _ ?_
        refine .cond rfl (fun h55 => ?_) (fun h55 => ?_)
        ·
         try simp only [sps] at h55
         refine .seq (fun K18 hK18 => ?_)
         refine .region ?_
         refine .m rfl rfl rfl (.assign rfl) ?_
         refine .nil ?_
         refine hK18 _ _ ?_
         refine .ret ?_
         -- leaf e1
         refine hret _ _ ?_
         refine ⟨_, rfl, ?_⟩
         exact ⟨congrArg _ (B_false fun hF => by
           have := hF k (by omega) j (by omega) l (by omega)
           rw [← List.contains_iff_mem] at this
           rw [this] at h55; cases h55), hle⟩
        ·
         try simp only [sps] at h55
         refine .skip ?_
         refine hK16 _ _ ?_
         refine .region ?_
         refine .m rfl rfl rfl (.move rfl) ?_
         refine .m rfl rfl rfl (.add rfl rfl rfl (by omega) (by omega)) ?_
         refine .m rfl rfl rfl (.assign rfl) ?_
         refine .nil ?_
         refine hKL3 (l + 1) _ _ ?_ ?_ ⟨rfl, rfl, rfl, rfl, rfl, rfl, trivial⟩
         ·
          refine ⟨rfl, ?_⟩
          refine ⟨by omega, fun i hx => ?_⟩
          by_cases e : i < l
          · exact ha3 i e
          · obtain rfl : i = l := by omega
            exact List.contains_iff_mem.1 h55
         ·
          omega
       ·
        try simp only [sps] at h46
        refine .exit ?_
        refine hK10 _ _ ?_
        refine .region ?_
        refine .m rfl rfl rfl (.move rfl) ?_
        refine .m rfl rfl rfl (.add rfl rfl rfl (by omega) (by omega)) ?_
        refine .m rfl rfl rfl (.assign rfl) ?_
        refine .nil ?_
        refine hKL2 (j + 1) _ _ ?_ ?_ ⟨rfl, rfl, rfl, trivial⟩
        ·
         refine ⟨lst2, ?_⟩
         refine ⟨by omega, fun y hx => ?_⟩
         by_cases e : y < j
         · exact ha2 y e
         · obtain rfl : y = j := by omega
           exact fun i hi => ha3 i (by omega)
        ·
         omega
     ·
      try simp only [sps] at h19
      refine .exit ?_
      refine hK6 _ _ ?_
      refine .region ?_
      refine .m rfl rfl rfl (.move rfl) ?_
      refine .m rfl rfl rfl (.add rfl rfl rfl (by omega) (by omega)) ?_
      refine .m rfl rfl rfl (.assign rfl) ?_
      refine .nil ?_
      refine hKL1 (k + 1) _ _ ?_ ?_ ⟨rfl, rfl, trivial⟩
      ·
       refine ⟨lst1, ?_⟩
       refine ⟨by omega, fun x hx => ?_⟩
       by_cases e : x < k
       · exact ha1 x e
       · obtain rfl : x = k := by omega
         exact fun y hy => ha2 y (by omega)
      ·
       omega
   ·
    try simp only [sps] at h12
    refine .exit ?_
    refine hK2 _ _ ?_
    refine .seq (fun K19 hK19 => ?_)
    refine .region ?_
    refine .m rfl rfl rfl (.assign rfl) ?_
    refine .nil ?_
    refine hK19 _ _ ?_
    refine .ret ?_
    -- leaf e2
    refine hret _ _ ?_
    refine ⟨_, rfl, ?_⟩
    exact ⟨congrArg _ (B_true fun x hx => ha1 x (by omega)), hle⟩
theorem l06Surjective_c {f : Fun} {p : FunP} {H : GHeap} (hin : f.In H p := by assumption) (hI : f.Is := by assumption) :
    GCalls Try.prog 116 [.agg (f.cells p).toArray] H (Ret (.bool (B f.Onto)) H) := by
  refine GCalls.ret rfl ?_
  have hTs := hI.2.1.1
  refine GCalls.body (N := 34) (rs := [.tmp 2]) Try.func116 rfl rfl rfl rfl (fun Qx hret hend => ?_)
  refine .forget (fr' := [(0, some _)]) ⟨rfl, trivial⟩ ?_
  have hle := GHeap.Le.refl H
  have base_hin := hin
  have q1 := hI.2.2.ol
  have q5 := hTs.obj
  have q6 := hI.1.1.obj
  refine .seq (fun K1 hK1 => ?_)
  refine .region ?_
  refine .r rfl rfl rfl (.boxR rfl sz_33_E rfl) ?_
  rintro _ H1 ⟨g1, rfl, le1, ge1, at1⟩
  have nx_H1 := le1.1
  replace hle := hle.trans le1
  have lt_at1 := GHeap.lt_of_get at1
  replace hin := base_hin.mono hle
  have hb1 : Fun.At _ g1 0 f p := ⟨Mem.of_get at1, hin⟩
  obtain ⟨fs1, ft1, c101, c111, j11, j21⟩ := hb1.get
  have hm1 : MemN _ _ _ _ _ := ⟨rfl, hb1.1⟩
  have hi1 := hb1.2
  have hms1 : MemN _ _ _ _ _ := ⟨rfl, fs1.1⟩
  have his1 := fs1.2
  have hmt1 : MemN _ _ _ _ _ := ⟨rfl, ft1.1⟩
  have hit1 := ft1.2
  refine .m rfl rfl rfl (.assign rfl) ?_
  refine .nil ?_
  refine hK1 _ _ ?_
  refine .seq (fun K2 hK2 => ?_)
  refine .seq (fun K3 hK3 => ?_)
  refine .region ?_
  refine .m rfl rfl rfl (.assign rfl) ?_
  refine .nil ?_
  refine hK3 _ _ ?_
  refine .block ?_
  obtain ⟨c0, c1, c2, c3, c4, i1, i2, i3, i4⟩ := ft1.get
  refine .loopR (σ := Nat) [(1, some _)] (fun k => [(3, some (.int .i64 (k : Int)))]) (fun k H' => H1 = H' ∧ (k : Int) ≤ f.t.obj ∧ ∀ y, y < k → ∃ x, x < f.ob.length ∧ f.t.Alike (f.ob.getD x 0) y) (fun k => (f.t.obj - k : Int).toNat) (0) ⟨rfl, trivial⟩ ⟨rfl, trivial⟩ ?_ ?_
  ·
   refine ⟨rfl, ?_⟩
   exact ⟨by omega, fun _ _ => by omega⟩
  ·
   rintro k _ ⟨rfl, hI⟩ KL1 hKL1
   refine .forget (fr' := [(3, some (.int .i64 (k : Int))), (1, some _)]) ⟨rfl, rfl, trivial⟩ ?_
   obtain ⟨hk1, ha1⟩ := hI
   refine .seq (fun K4 hK4 => ?_)
   refine .seq (fun K5 hK5 => ?_)
   refine .region ?_
   refine .m rfl rfl rfl (.move rfl) ?_
   refine .m rfl rfl rfl (.fieldAddr fo_33_1_E rfl) ?_
   refine .m rfl rfl rfl (.fieldAddr fo_31_0_B rfl) ?_
   refine .m rfl rfl rfl (.load on_2_A rfl (by assumption)) ?_
   refine .m rfl rfl rfl (.cmp rfl rfl rfl) ?_
   refine .nil ?_
   refine hK5 _ _ ?_
   refine .cond rfl (fun h10 => ?_) (fun h10 => ?_)
   ·
    try simp only [sps] at h10
    refine .skip ?_
    refine hK4 _ _ ?_
    refine .seq (fun K6 hK6 => ?_)
    refine .block ?_
    refine .seq (fun K7 hK7 => ?_)
    refine .region ?_
    refine .m rfl rfl rfl (.assign rfl) ?_
    refine .nil ?_
    refine hK7 _ _ ?_
    refine .seq (fun K8 hK8 => ?_)
    refine .seq (fun K9 hK9 => ?_)
    refine .region ?_
    refine .m rfl rfl rfl (.assign rfl) ?_
    refine .nil ?_
    refine hK9 _ _ ?_
    refine .block ?_
    refine .loopR (σ := Nat × Bool) [(1, some _), (3, some _)] (fun (j, b) => [(5, some (.int .i64 (j : Int))), (4, some (.bool b))]) (fun (j, b) H' => H1 = H' ∧ j ≤ f.ob.length ∧ (b = true ↔ ∃ x, x < j ∧ f.t.Alike (f.ob.getD x 0) k)) (fun (j, b) => f.ob.length - j) ((0, false)) ⟨rfl, rfl, trivial⟩ ⟨rfl, rfl, trivial⟩ ?_ ?_
    ·
     refine ⟨rfl, ?_⟩
     exact ⟨by omega, by simp⟩
    ·
     rintro ⟨j, b⟩ _ ⟨rfl, hI⟩ KL2 hKL2
     refine .forget (fr' := [(5, some (.int .i64 (j : Int))), (4, some (.bool b)), (1, some _), (3, some _)]) ⟨rfl, rfl, rfl, rfl, trivial⟩ ?_
     obtain ⟨hj, hbv⟩ := hI
     refine .seq (fun K10 hK10 => ?_)
     refine .seq (fun K11 hK11 => ?_)
     refine .region ?_
     refine .m rfl rfl rfl (.move rfl) ?_
     refine .m rfl rfl rfl (.fieldAddr fo_33_2_E rfl) ?_
     refine .m rfl rfl rfl (.load on_22_B rfl (by assumption)) ?_
     refine .m rfl rfl rfl (.len sl_22_A rfl) ?_
     refine .m rfl rfl rfl (.cmp rfl rfl rfl) ?_
     refine .nil ?_
     refine hK11 _ _ ?_
     refine .cond rfl (fun h17 => ?_) (fun h17 => ?_)
     ·
      try simp only [sps] at h17
      refine .skip ?_
      refine hK10 _ _ ?_
      refine .seq (fun K12 hK12 => ?_)
      refine .block ?_
      refine .regionD mixed_orders_B (.q 0 (.q 1 (.q 2 (.q 3 (.q 4 (.q 5 (.q 6 (.q 7 (.q 8 (.q 9 (.c 10 0 (.q 11 (.c 12 0 (.done)))))))))))))) (by kernel_rfl) ?_
      refine .m rfl rfl rfl rfl (.refl _) (.move rfl) ?_
      refine .m rfl rfl rfl rfl (.refl _) (.move rfl) ?_
      refine .split (fun h21 => ?_) (fun h21 => ?_)
      ·
       try simp only [sps] at h21
       refine .sg rfl rfl rfl rfl rfl rfl ?_
       refine .sg rfl rfl rfl rfl rfl rfl ?_
       refine .sg rfl rfl rfl rfl rfl rfl ?_
       refine .sg rfl rfl rfl rfl rfl rfl ?_
       refine .sg rfl rfl rfl rfl rfl rfl ?_
       refine .sg rfl rfl rfl rfl rfl rfl ?_
       refine .sg rfl rfl rfl rfl rfl rfl ?_
       refine .sg rfl rfl rfl rfl rfl rfl ?_
       refine .sgc rfl rfl rfl rfl rfl rfl ?_
       refine .m rfl rfl rfl rfl (.refl _) (.pickT rfl rfl) ?_
       refine .d0 rfl rfl rfl rfl (.quiet (.assign rfl) CIs.mk) ?_
       refine .done ?_
       refine hK12 _ _ ?_
       refine .region ?_
       refine .m rfl rfl rfl (.move rfl) ?_
       refine .m rfl rfl rfl (.add rfl rfl rfl (by omega) (by omega)) ?_
       refine .m rfl rfl rfl (.assign rfl) ?_
       refine .nil ?_
       refine hKL2 ((j + 1, _)) _ _ ?_ ?_ ⟨rfl, rfl, rfl, rfl, trivial⟩
       ·
        refine ⟨rfl, ?_⟩
        refine ⟨by omega, ?_⟩
        first
          | exact ⟨fun _ => let ⟨x, hx, ha⟩ := hbv.1 h21; ⟨x, by omega, ha⟩, fun _ => rfl⟩
          | (rw [B_iff]
             refine ⟨fun ha => ⟨j, by omega, ha⟩, fun ⟨x, hx, ha⟩ => ?_⟩
             by_cases e : x = j
             · subst e; exact ha
             · rw [hbv.2 ⟨x, by omega, ha⟩] at h21; cases h21)
       ·
        (dsimp only; omega)
      ·
       try simp only [sps] at h21
       refine .mg rfl rfl rfl rfl rfl rfl (.refl _) (.fieldAddr fo_33_1_E rfl) ?_
       refine .mg rfl rfl rfl rfl rfl rfl (.refl _) (.loadM ag_31_D rfl (by assumption)) ?_
       refine .mg rfl rfl rfl rfl rfl rfl (.refl _) (.fieldAddr fo_33_2_E rfl) ?_
       refine .mg rfl rfl rfl rfl rfl rfl (.refl _) (.load on_22_B rfl (by assumption)) ?_
       refine .mg rfl rfl rfl rfl rfl rfl (.refl _) (.move rfl) ?_
       refine .mg rfl rfl rfl rfl rfl rfl (.refl _) (.idxN sl_22_A (by assumption) rfl rfl (by omega)) ?_
       refine .mg rfl rfl rfl rfl rfl rfl (.refl _) (.loadI on_2_A (by assumption) rfl (by omega)) ?_
       refine .mg rfl rfl rfl rfl rfl rfl (.refl _) (.move rfl) ?_
       refine .callQ0g rfl rfl rfl rfl rfl rfl rfl @Try.call162 rfl (l06Alike_c) ?_
       refine .m rfl rfl rfl rfl (.refl _) (.pickF rfl rfl) ?_
       refine .d0 rfl rfl rfl rfl (.quiet (.assign rfl) CIs.mk) ?_
       refine .done ?_
       refine hK12 _ _ ?_
       refine .region ?_
       refine .m rfl rfl rfl (.move rfl) ?_
       refine .m rfl rfl rfl (.add rfl rfl rfl (by omega) (by omega)) ?_
       refine .m rfl rfl rfl (.assign rfl) ?_
       refine .nil ?_
       refine hKL2 ((j + 1, _)) _ _ ?_ ?_ ⟨rfl, rfl, rfl, rfl, trivial⟩
       ·
        refine ⟨rfl, ?_⟩
        refine ⟨by omega, ?_⟩
        first
          | exact ⟨fun _ => let ⟨x, hx, ha⟩ := hbv.1 h21; ⟨x, by omega, ha⟩, fun _ => rfl⟩
          | (rw [B_iff]
             refine ⟨fun ha => ⟨j, by omega, ha⟩, fun ⟨x, hx, ha⟩ => ?_⟩
             by_cases e : x = j
             · subst e; exact ha
             · rw [hbv.2 ⟨x, by omega, ha⟩] at h21; cases h21)
       ·
        (dsimp only; omega)
     ·
      try simp only [sps] at h17
      refine .exit ?_
      refine hK8 _ _ ?_
      refine .seq (fun K13 hK13 => ?_)
      refine .region ?_
      refine .m rfl rfl rfl (.move rfl) ?_
      refine .m rfl rfl rfl (.not rfl) ?_
      refine .nil ?_
      refine hK13 _ _ ?_
      refine .cond rfl (fun h33 => ?_) (fun h33 => ?_)
      ·
       try simp only [sps] at h33
       refine .seq (fun K14 hK14 => ?_)
       refine .region ?_
       refine .m rfl rfl rfl (.assign rfl) ?_
       refine .nil ?_
       refine hK14 _ _ ?_
       refine .ret ?_
       -- leaf e1
       refine hret _ _ ?_
       refine ⟨_, rfl, ?_⟩
       exact ⟨congrArg _ (B_false fun hO => by
         obtain ⟨x, hx, ha⟩ := hO k (by omega)
         rw [hbv.2 ⟨x, by omega, ha⟩] at h33; cases h33), hle⟩
      ·
       try simp only [sps] at h33
       refine .skip ?_
       refine hK6 _ _ ?_
       refine .region ?_
       refine .m rfl rfl rfl (.move rfl) ?_
       refine .m rfl rfl rfl (.add rfl rfl rfl (by omega) (by omega)) ?_
       refine .m rfl rfl rfl (.assign rfl) ?_
       refine .nil ?_
       refine hKL1 (k + 1) _ _ ?_ ?_ ⟨rfl, rfl, trivial⟩
       ·
        refine ⟨rfl, ?_⟩
        refine ⟨by omega, fun y hx => ?_⟩
        by_cases e : y < k
        · exact ha1 y e
        · obtain rfl : y = k := by omega
          (obtain ⟨x, hx', ha⟩ := hbv.1 h33; exact ⟨x, by omega, ha⟩)
       ·
        omega
   ·
    try simp only [sps] at h10
    refine .exit ?_
    refine hK2 _ _ ?_
    refine .seq (fun K15 hK15 => ?_)
    refine .region ?_
    refine .m rfl rfl rfl (.assign rfl) ?_
    refine .nil ?_
    refine hK15 _ _ ?_
    refine .ret ?_
    -- leaf e2
    refine hret _ _ ?_
    refine ⟨_, rfl, ?_⟩
    exact ⟨congrArg _ (B_true fun x hx => ha1 x (by omega)), hle⟩
theorem l11Equivalence_c {f : Fun} {p : FunP} {H : GHeap} (hin : f.In H p := by assumption) (hI : f.Is := by assumption) :
    GCalls Try.prog 64 [.agg (f.cells p).toArray] H (Ret (.bool (B f.Equiv)) H) := by
  refine GCalls.ret rfl ?_
  refine GCalls.body (N := 13) (rs := [.tmp 2]) Try.func64 rfl rfl rfl rfl (fun Qx hret hend => ?_)
  refine .forget (fr' := [(0, some _)]) ⟨rfl, trivial⟩ ?_
  have hle := GHeap.Le.refl H
  have base_hin := hin
  refine .seq (fun K1 hK1 => ?_)
  refine .region ?_
  refine .r rfl rfl rfl (.boxR rfl sz_33_E rfl) ?_
  rintro _ H1 ⟨g1, rfl, le1, ge1, at1⟩
  have nx_H1 := le1.1
  replace hle := hle.trans le1
  have lt_at1 := GHeap.lt_of_get at1
  replace hin := base_hin.mono hle
  have hb1 : Fun.At _ g1 0 f p := ⟨Mem.of_get at1, hin⟩
  obtain ⟨fs1, ft1, c101, c111, j11, j21⟩ := hb1.get
  have hm1 : MemN _ _ _ _ _ := ⟨rfl, hb1.1⟩
  have hi1 := hb1.2
  have hms1 : MemN _ _ _ _ _ := ⟨rfl, fs1.1⟩
  have his1 := fs1.2
  have hmt1 : MemN _ _ _ _ _ := ⟨rfl, ft1.1⟩
  have hit1 := ft1.2
  refine .m rfl rfl rfl (.assign rfl) ?_
  refine .nil ?_
  refine hK1 _ _ ?_
  refine .seq (fun K2 hK2 => ?_)
  refine .region ?_
  refine .m rfl rfl rfl (.loadM ag_33_E rfl (by assumption)) ?_
  refine .callQ rfl rfl rfl rfl @Try.call114 rfl (l06Full_c) ?_
  refine .m rfl rfl rfl (.move rfl) ?_
  refine .split (fun h5 => ?_) (fun h5 => ?_)
  ·
   try simp only [sps] at h5
   refine .mg rfl rfl rfl rfl rfl (.loadM ag_33_E rfl (by assumption)) ?_
   refine .callQg rfl rfl rfl rfl rfl rfl @Try.call115 rfl (l06Faithful_c) ?_
   refine .m rfl rfl rfl (.pickT rfl rfl) ?_
   refine .m rfl rfl rfl (.move rfl) ?_
   refine .split (fun h9 => ?_) (fun h9 => ?_)
   ·
    try simp only [sps] at h9
    refine .mg rfl rfl rfl rfl rfl (.loadM ag_33_E rfl (by assumption)) ?_
    refine .callQg rfl rfl rfl rfl rfl rfl @Try.call116 rfl (l06Surjective_c) ?_
    refine .m rfl rfl rfl (.pickT rfl rfl) ?_
    refine .m rfl rfl rfl (.assign rfl) ?_
    refine .nil ?_
    refine hK2 _ _ ?_
    refine .ret ?_
    -- leaf e1
    refine hret _ _ ?_
    refine ⟨_, rfl, ?_⟩
    first
    | exact ⟨congrArg _ (B_congr ⟨fun hE => hE.2.2, fun hO => ⟨by assumption, by assumption, hO⟩⟩), hle⟩
    | exact ⟨congrArg _ (B_false fun hE => absurd hE.1 (by assumption)), hle⟩
    | exact ⟨congrArg _ (B_false fun hE => absurd hE.2.1 (by assumption)), hle⟩
   ·
    try simp only [sps] at h9
    refine .sg rfl rfl rfl rfl rfl ?_
    refine .sg rfl rfl rfl rfl rfl ?_
    refine .m rfl rfl rfl (.pickF rfl rfl) ?_
    refine .m rfl rfl rfl (.assign rfl) ?_
    refine .nil ?_
    refine hK2 _ _ ?_
    refine .ret ?_
    -- leaf e2
    refine hret _ _ ?_
    refine ⟨_, rfl, ?_⟩
    first
    | exact ⟨congrArg _ (B_congr ⟨fun hE => hE.2.2, fun hO => ⟨by assumption, by assumption, hO⟩⟩), hle⟩
    | exact ⟨congrArg _ (B_false fun hE => absurd hE.1 (by assumption)), hle⟩
    | exact ⟨congrArg _ (B_false fun hE => absurd hE.2.1 (by assumption)), hle⟩
  ·
   try simp only [sps] at h5
   refine .sg rfl rfl rfl rfl rfl ?_
   refine .sg rfl rfl rfl rfl rfl ?_
   refine .m rfl rfl rfl (.pickF rfl rfl) ?_
   refine .m rfl rfl rfl (.move rfl) ?_
   refine .sg rfl rfl rfl rfl rfl ?_
   refine .sg rfl rfl rfl rfl rfl ?_
   refine .m rfl rfl rfl (.pickF rfl rfl) ?_
   refine .m rfl rfl rfl (.assign rfl) ?_
   refine .nil ?_
   refine hK2 _ _ ?_
   refine .ret ?_
   -- leaf e3
   refine hret _ _ ?_
   refine ⟨_, rfl, ?_⟩
   first
   | exact ⟨congrArg _ (B_congr ⟨fun hE => hE.2.2, fun hO => ⟨by assumption, by assumption, hO⟩⟩), hle⟩
   | exact ⟨congrArg _ (B_false fun hE => absurd hE.1 (by assumption)), hle⟩
   | exact ⟨congrArg _ (B_false fun hE => absurd hE.2.1 (by assumption)), hle⟩
theorem specIsEquivalence_c {f : Fun} {p : FunP} {H : GHeap} (hin : f.In H p := by assumption) (hsm : f.Small := by assumption) :
    GCalls Try.prog 16 [.agg (f.cells p).toArray] H (Ret (.tuple #[.bool (B f.Is && B f.Equiv), .int .i64 (bif B f.Is then 0 else 1)]) H) := by
  refine GCalls.ret rfl ?_
  refine GCalls.body (N := 9) (rs := [.tmp 2, .tmp 3]) Try.func16 rfl rfl rfl rfl (fun Qx hret hend => ?_)
  refine .forget (fr' := [(0, some _)]) ⟨rfl, trivial⟩ ?_
  have hle := GHeap.Le.refl H
  have base_hin := hin
  refine .seq (fun K1 hK1 => ?_)
  refine .region ?_
  refine .r rfl rfl rfl (.boxR rfl sz_33_E rfl) ?_
  rintro _ H1 ⟨g1, rfl, le1, ge1, at1⟩
  have nx_H1 := le1.1
  replace hle := hle.trans le1
  have lt_at1 := GHeap.lt_of_get at1
  replace hin := base_hin.mono hle
  have hb1 : Fun.At _ g1 0 f p := ⟨Mem.of_get at1, hin⟩
  obtain ⟨fs1, ft1, c101, c111, j11, j21⟩ := hb1.get
  have hm1 : MemN _ _ _ _ _ := ⟨rfl, hb1.1⟩
  have hi1 := hb1.2
  have hms1 : MemN _ _ _ _ _ := ⟨rfl, fs1.1⟩
  have his1 := fs1.2
  have hmt1 : MemN _ _ _ _ _ := ⟨rfl, ft1.1⟩
  have hit1 := ft1.2
  refine .m rfl rfl rfl (.assign rfl) ?_
  refine .m rfl rfl rfl (.assign rfl) ?_
  refine .nil ?_
  refine hK1 _ _ ?_
  refine .seq (fun K2 hK2 => ?_)
  refine .seq (fun K3 hK3 => ?_)
  refine .region ?_
  refine .m rfl rfl rfl (.loadM ag_33_E rfl (by assumption)) ?_
  refine .callQ rfl rfl rfl rfl @Try.call63 rfl (l06Is_c) ?_
  refine .m rfl rfl rfl (.not rfl) ?_
  refine .nil ?_
  refine hK3 _ _ ?_
  refine .cond rfl (fun h6 => ?_) (fun h6 => ?_)
  ·
   try simp only [sps] at h6
   refine .seq (fun K4 hK4 => ?_)
   refine .region ?_
   refine .m rfl rfl rfl (.assign rfl) ?_
   refine .m rfl rfl rfl (.assign rfl) ?_
   refine .nil ?_
   refine hK4 _ _ ?_
   refine .ret ?_
   -- leaf e1
   refine hret _ _ ?_
   refine ⟨_, _, rfl, rfl, ?_⟩
   exact ⟨by rw [B_false h6]; rfl, hle⟩
  ·
   try simp only [sps] at h6
   refine .skip ?_
   refine hK2 _ _ ?_
   refine .seq (fun K5 hK5 => ?_)
   refine .region ?_
   refine .m rfl rfl rfl (.loadM ag_33_E rfl (by assumption)) ?_
   refine .callQ rfl rfl rfl rfl @Try.call64 rfl (l11Equivalence_c) ?_
   refine .m rfl rfl rfl (.assign rfl) ?_
   refine .m rfl rfl rfl (.assign rfl) ?_
   refine .nil ?_
   refine hK5 _ _ ?_
   refine .ret ?_
   -- leaf e2
   refine hret _ _ ?_
   refine ⟨_, _, rfl, rfl, ?_⟩
   exact ⟨by rw [B_true h6]; rfl, hle⟩
theorem lawIsEquivalence_c {m : Fun} {p : FunP} {H : GHeap} (hin : m.In H p) (hw : m.Wide) : GCalls Try.prog 3 [.agg (m.cells p).toArray] H (fun v _ => v = .bool true) := by
  refine GCalls.body (N := 40) (rs := [.tmp 2]) Try.func3 rfl rfl rfl rfl (fun Qx hret hend => ?_)
  refine .forget (fr' := [(0, some _)]) ⟨rfl, trivial⟩ ?_
  have hle := GHeap.Le.refl H
  have base_hin := hin
  refine .seq (fun K1 hK1 => ?_)
  refine .region ?_
  refine .r rfl rfl rfl (.boxR rfl sz_27_E rfl) ?_
  rintro _ H1 ⟨g1, rfl, le1, ge1, at1⟩
  have nx_H1 := le1.1
  replace hle := hle.trans le1
  have lt_at1 := GHeap.lt_of_get at1
  replace hin := base_hin.mono hle
  have hb1 : Fun.At _ g1 0 m p := ⟨Mem.of_get at1, hin⟩
  obtain ⟨fs1, ft1, c101, c111, j11, j21⟩ := hb1.get
  have hm1 : MemN _ _ _ _ _ := ⟨rfl, hb1.1⟩
  have hi1 := hb1.2
  have hms1 : MemN _ _ _ _ _ := ⟨rfl, fs1.1⟩
  have his1 := fs1.2
  have hmt1 : MemN _ _ _ _ _ := ⟨rfl, ft1.1⟩
  have hit1 := ft1.2
  refine .m rfl rfl rfl (.assign rfl) ?_
  refine .nil ?_
  refine hK1 _ _ ?_
  refine .seq (fun K2 hK2 => ?_)
  refine .region ?_
  refine .m rfl rfl rfl (.assign rfl) ?_
  refine .nil ?_
  refine hK2 _ _ ?_
  refine .seq (fun K3 hK3 => ?_)
  refine .region ?_
  refine .m rfl rfl rfl (.loadM ag_27_N rfl (by assumption)) ?_
  refine .m rfl rfl rfl (.move rfl) ?_
  refine .call rfl rfl rfl rfl @Try.call15 rfl (szFunctor_c) ?_
  rintro _ _ ⟨heq, lf11, rfl, z111, z211, z311⟩
  obtain rfl := heq.symm
  refine .m rfl rfl rfl (.assign rfl) ?_
  refine .nil ?_
  refine hK3 _ _ ?_
  refine .seq (fun K4 hK4 => ?_)
  refine .seq (fun K5 hK5 => ?_)
  refine .region ?_
  refine .m rfl rfl rfl (.move rfl) ?_
  refine .m rfl rfl rfl (.cmp rfl rfl rfl) ?_
  refine .nil ?_
  refine hK5 _ _ ?_
  refine .cond rfl (fun h13 => ?_) (fun h13 => ?_)
  ·
   try simp only [sps] at h13
   refine .seq (fun K6 hK6 => ?_)
   refine .region ?_
   refine .m rfl rfl rfl (.assign rfl) ?_
   refine .nil ?_
   refine hK6 _ _ ?_
   refine .ret ?_
   -- leaf e1
   refine hret _ _ ?_
   refine ⟨_, rfl, ?_⟩
   first
   | exact rfl
   | exact absurd trivial (by assumption)
   | contradiction
  ·
   try simp only [sps] at h13
   have hsm11 := z311 (by omega)
   refine .skip ?_
   refine hK4 _ _ ?_
   refine .seq (fun K7 hK7 => ?_)
   refine .region ?_
   refine .m rfl rfl rfl (.loadM ag_27_N rfl (by assumption)) ?_
   refine .call rfl rfl rfl rfl @Try.call17 rfl (toFunctor_c) ?_
   rintro _ H16 ⟨le16, p16, rfl, v16⟩
   have nx_H16 := le16.1
   replace hle := hle.trans le16
   replace at1 := le16.2 _ _ at1
   have bs_v16 := v16
   have lv_v16 := GHeap.Le.refl H16
   replace hin := base_hin.mono hle
   clear hb1 fs1 ft1 c101 c111 j11 j21 hm1 hi1 hms1 his1 hmt1 hit1
   have hb1 : Fun.At _ g1 0 m p := ⟨Mem.of_get at1, hin⟩
   obtain ⟨fs1, ft1, c101, c111, j11, j21⟩ := hb1.get
   have hm1 : MemN _ _ _ _ _ := ⟨rfl, hb1.1⟩
   have hi1 := hb1.2
   have hms1 : MemN _ _ _ _ _ := ⟨rfl, fs1.1⟩
   have his1 := fs1.2
   have hmt1 : MemN _ _ _ _ _ := ⟨rfl, ft1.1⟩
   have hit1 := ft1.2
   have i16 := v16.inn
   refine .callQ rfl rfl rfl rfl @Try.call16 rfl (specIsEquivalence_c) ?_
   refine .m rfl rfl rfl (.move rfl) ?_
   refine .m rfl rfl rfl (.extract rfl rfl) ?_
   refine .m rfl rfl rfl (.extract rfl rfl) ?_
   refine .m rfl rfl rfl (.assign rfl) ?_
   refine .m rfl rfl rfl (.assign rfl) ?_
   refine .nil ?_
   refine hK7 _ _ ?_
   refine .seq (fun K8 hK8 => ?_)
   refine .region ?_
   refine .m rfl rfl rfl (.loadM ag_27_N rfl (by assumption)) ?_
   refine .call rfl rfl rfl rfl @Try.call17 rfl (toFunctor_c) ?_
   rintro _ H21 ⟨le21, p21, rfl, v21⟩
   have nx_H21 := le21.1
   replace hle := hle.trans le21
   replace at1 := le21.2 _ _ at1
   replace lv_v16 := lv_v16.trans le21
   replace v16 := bs_v16.keep (.of_le lv_v16) (Nat.le_refl _)
   have bs_v21 := v21
   have lv_v21 := GHeap.Le.refl H21
   replace hin := base_hin.mono hle
   clear hb1 fs1 ft1 c101 c111 j11 j21 hm1 hi1 hms1 his1 hmt1 hit1
   have hb1 : Fun.At _ g1 0 m p := ⟨Mem.of_get at1, hin⟩
   obtain ⟨fs1, ft1, c101, c111, j11, j21⟩ := hb1.get
   have hm1 : MemN _ _ _ _ _ := ⟨rfl, hb1.1⟩
   have hi1 := hb1.2
   have hms1 : MemN _ _ _ _ _ := ⟨rfl, fs1.1⟩
   have his1 := fs1.2
   have hmt1 : MemN _ _ _ _ _ := ⟨rfl, ft1.1⟩
   have hit1 := ft1.2
   clear i16
   have i16 := v16.inn
   have i21 := v21.inn
   refine .r rfl rfl rfl (.allocR rfl ze_33_E rfl) ?_
   rintro _ H6 ⟨g6, rfl, le6, ge6, at6⟩
   have nx_H6 := le6.1
   replace hle := hle.trans le6
   replace at1 := le6.2 _ _ at1
   replace lv_v16 := lv_v16.trans le6
   replace v16 := bs_v16.keep (.of_le lv_v16) (Nat.le_refl _)
   replace lv_v21 := lv_v21.trans le6
   replace v21 := bs_v21.keep (.of_le lv_v21) (Nat.le_refl _)
   have lt_at6 := GHeap.lt_of_get at6
   replace hin := base_hin.mono hle
   clear hb1 fs1 ft1 c101 c111 j11 j21 hm1 hi1 hms1 his1 hmt1 hit1
   have hb1 : Fun.At _ g1 0 m p := ⟨Mem.of_get at1, hin⟩
   obtain ⟨fs1, ft1, c101, c111, j11, j21⟩ := hb1.get
   have hm1 : MemN _ _ _ _ _ := ⟨rfl, hb1.1⟩
   have hi1 := hb1.2
   have hms1 : MemN _ _ _ _ _ := ⟨rfl, fs1.1⟩
   have his1 := fs1.2
   have hmt1 : MemN _ _ _ _ _ := ⟨rfl, ft1.1⟩
   have hit1 := ft1.2
   clear i16
   have i16 := v16.inn
   clear i21
   have i21 := v21.inn
   refine .r0 rfl rfl (.fillR rfl sz_33_E rfl rfl rfl rfl (by assumption) (by simp)) ?_
   rintro _ H6003 ⟨rfl, st6003, at6003⟩
   have nx_H6003 := st6003.nx
   replace hle := hle.st st6003 (fun k hk => ⟨by omega, trivial⟩)
   replace at1 := st6003.same _ _ ⟨by omega, trivial⟩ at1
   replace lv_v16 := lv_v16.st st6003 (fun k hk => ⟨by omega, trivial⟩)
   replace v16 := bs_v16.keep (.of_le lv_v16) (Nat.le_refl _)
   replace lv_v21 := lv_v21.st st6003 (fun k hk => ⟨by omega, trivial⟩)
   replace v21 := bs_v21.keep (.of_le lv_v21) (Nat.le_refl _)
   have lt_at6003 := GHeap.lt_of_get at6003
   replace hin := base_hin.mono hle
   clear hb1 fs1 ft1 c101 c111 j11 j21 hm1 hi1 hms1 his1 hmt1 hit1
   have hb1 : Fun.At _ g1 0 m p := ⟨Mem.of_get at1, hin⟩
   obtain ⟨fs1, ft1, c101, c111, j11, j21⟩ := hb1.get
   have hm1 : MemN _ _ _ _ _ := ⟨rfl, hb1.1⟩
   have hi1 := hb1.2
   have hms1 : MemN _ _ _ _ _ := ⟨rfl, fs1.1⟩
   have his1 := fs1.2
   have hmt1 : MemN _ _ _ _ _ := ⟨rfl, ft1.1⟩
   have hit1 := ft1.2
   clear i16
   have i16 := v16.inn
   clear i21
   have i21 := v21.inn
   have mm6003 : MemN _ _ _ _ _ := ⟨rfl, Mem.of_get at6003⟩
   refine .nil ?_
   refine hK8 _ _ ?_
   refine .seq (fun K9 hK9 => ?_)
   refine .region ?_
   refine .m rfl rfl rfl (.loadM ag_33_E rfl (by assumption)) ?_
   refine .callQ rfl rfl rfl rfl @Try.call18 rfl (implIsEquivalence_c) ?_
   refine .m rfl rfl rfl (.move rfl) ?_
   refine .m rfl rfl rfl (.extract rfl rfl) ?_
   refine .m rfl rfl rfl (.extract rfl rfl) ?_
   refine .m rfl rfl rfl (.assign rfl) ?_
   refine .m rfl rfl rfl (.assign rfl) ?_
   refine .nil ?_
   refine hK9 _ _ ?_
   refine .seq (fun K10 hK10 => ?_)
   refine .seq (fun K11 hK11 => ?_)
   refine .region ?_
   refine .m rfl rfl rfl (.move rfl) ?_
   refine .m rfl rfl rfl (.move rfl) ?_
   refine .m rfl rfl rfl (.boolNe bo_4_N rfl rfl) ?_
   refine .m rfl rfl rfl (.move rfl) ?_
   refine .split (fun h30 => ?_) (fun h30 => ?_)
   ·
    try simp only [sps] at h30
    refine .sg rfl rfl rfl rfl rfl ?_
    refine .sg rfl rfl rfl rfl rfl ?_
    refine .sg rfl rfl rfl rfl rfl ?_
    refine .m rfl rfl rfl (.pickT rfl rfl) ?_
    refine .nil ?_
    refine hK11 _ _ ?_
    refine .condT rfl ?_
    refine .seq (fun K12 hK12 => ?_)
    refine .region ?_
    refine .m rfl rfl rfl (.assign rfl) ?_
    refine .nil ?_
    refine hK12 _ _ ?_
    refine .ret ?_
    -- leaf e2
    refine hret _ _ ?_
    refine ⟨_, rfl, ?_⟩
    first
    | exact rfl
    | exact absurd trivial (by assumption)
    | contradiction
   ·
    try simp only [sps] at h30
    refine .mg rfl rfl rfl rfl rfl (.move rfl) ?_
    refine .mg rfl rfl rfl rfl rfl (.move rfl) ?_
    refine .mg rfl rfl rfl rfl rfl (.cmp rfl rfl rfl) ?_
    refine .m rfl rfl rfl (.pickF rfl rfl) ?_
    refine .nil ?_
    refine hK11 _ _ ?_
    refine .cond rfl (fun h34 => ?_) (fun h34 => ?_)
    ·
     try simp only [sps] at h34
     refine .seq (fun K13 hK13 => ?_)
     refine .region ?_
     refine .m rfl rfl rfl (.assign rfl) ?_
     refine .nil ?_
     refine hK13 _ _ ?_
     refine .ret ?_
     -- leaf e3
     refine hret _ _ ?_
     refine ⟨_, rfl, ?_⟩
     first
     | exact rfl
     | exact absurd trivial (by assumption)
     | contradiction
    ·
     try simp only [sps] at h34
     refine .skip ?_
     refine hK10 _ _ ?_
     refine .seq (fun K14 hK14 => ?_)
     refine .seq (fun K15 hK15 => ?_)
     refine .regionD mixed_orders_B (.q 0 (.q 1 (.c 2 1 (.c 3 0 (.q 4 (.done)))))) (by kernel_rfl) ?_
     refine .m rfl rfl rfl rfl (.refl _) (.loadM ag_33_E rfl (by assumption)) ?_
     refine .m rfl rfl rfl rfl (.refl _) (.loadM ag_27_N rfl (by assumption)) ?_
     refine .call1 rfl rfl rfl rfl rfl @Try.call17 rfl (toFunctor_c) ?_
     rintro _ H37 ⟨le37, p37, rfl, v37⟩
     have hbl := le37
     refine ⟨hbl, ?_⟩
     have nx_H37 := le37.1
     replace hle := hle.trans le37
     replace at1 := le37.2 _ _ at1
     replace at6003 := le37.2 _ _ at6003
     replace lv_v16 := lv_v16.trans le37
     replace v16 := bs_v16.keep (.of_le lv_v16) (Nat.le_refl _)
     replace lv_v21 := lv_v21.trans le37
     replace v21 := bs_v21.keep (.of_le lv_v21) (Nat.le_refl _)
     have bs_v37 := v37
     have lv_v37 := GHeap.Le.refl H37
     replace hin := base_hin.mono hle
     clear hb1 fs1 ft1 c101 c111 j11 j21 hm1 hi1 hms1 his1 hmt1 hit1
     have hb1 : Fun.At _ g1 0 m p := ⟨Mem.of_get at1, hin⟩
     obtain ⟨fs1, ft1, c101, c111, j11, j21⟩ := hb1.get
     have hm1 : MemN _ _ _ _ _ := ⟨rfl, hb1.1⟩
     have hi1 := hb1.2
     have hms1 : MemN _ _ _ _ _ := ⟨rfl, fs1.1⟩
     have his1 := fs1.2
     have hmt1 : MemN _ _ _ _ _ := ⟨rfl, ft1.1⟩
     have hit1 := ft1.2
     clear i16
     have i16 := v16.inn
     clear i21
     have i21 := v21.inn
     clear mm6003
     have mm6003 : MemN _ _ _ _ _ := ⟨rfl, Mem.of_get at6003⟩
     have i37 := v37.inn
     refine .callQ0 rfl rfl rfl rfl rfl @Try.call19 rfl (eqFunctor_c) ?_
     refine .m rfl rfl rfl rfl (.refl _) (.not rfl) ?_
     refine .done ?_
     refine hK15 _ _ ?_
     refine .cond rfl (fun h39 => ?_) (fun h39 => ?_)
     ·
      try simp only [sps] at h39
      refine .seq (fun K16 hK16 => ?_)
      refine .region ?_
      refine .m rfl rfl rfl (.assign rfl) ?_
      refine .nil ?_
      refine hK16 _ _ ?_
      refine .ret ?_
      -- leaf e4
      refine hret _ _ ?_
      refine ⟨_, rfl, ?_⟩
      first
      | exact rfl
      | exact absurd trivial (by assumption)
      | contradiction
     ·
      try simp only [sps] at h39
      refine .skip ?_
      refine hK14 _ _ ?_
      refine .seq (fun K17 hK17 => ?_)
      refine .region ?_
      refine .m rfl rfl rfl (.assign rfl) ?_
      refine .nil ?_
      refine hK17 _ _ ?_
      refine .ret ?_
      -- leaf e5
      refine hret _ _ ?_
      refine ⟨_, rfl, ?_⟩
      first
      | exact rfl
      | exact absurd trivial (by assumption)
      | contradiction
end Go.Proofs.Ythdnpbpiadkcmaa
