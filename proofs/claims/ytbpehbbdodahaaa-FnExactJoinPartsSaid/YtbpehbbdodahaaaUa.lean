/- Marks on set functors, their maps and parts. No condition but those of each statement. -/
import Derived.Test.YtbpehbbdodahaaaU
import Derived.Test.YtbpehbbdodahaaaGlUa
import Derived.Test.YtbpehbbdodahaaaS
namespace Go.Proofs.Ytbpehbbdodahaaa
open Go Go.GL Go.RowKit Go.Proofs
theorem markSetFunctor_c {c : SFun} {p : SFunP} {lo hi : Nat} {k : Int} {H : GHeap} (w : SFunW lo hi H c p := by assumption) (hs : c.Small := by assumption) (hk : 0 ≤ k := by omega) (hk' : k + c.total ≤ 4611686018427387904 := by omega) (hhi : hi ≤ H.next := by omega) :
    GCalls Try.prog 23 [.agg (c.cells p).toArray, .int .i64 k] H (fun v H' => v = .int .i64 (k + c.total) ∧ Marked lo hi H H' (c.leaves p) k) := by
  obtain ⟨w1, w2, w3⟩ := w
  have ht : c.total = c.sh.total + (c.sz.length + sumL c.ac) := rfl
  obtain ⟨s1, s2, s3, s4⟩ := hs
  refine GCalls.body (N := 18) (rs := [.tmp 4]) Try.func23 rfl rfl rfl rfl (fun Qx hret hend => ?_)
  refine .forget (fr' := [(0, some _), (1, some _)]) ⟨rfl, rfl, trivial⟩ ?_
  refine .seq (fun K1 hK1 => ?_)
  refine .region ?_
  refine .r rfl rfl rfl (.boxR rfl sz_39_VSFun rfl) ?_
  rintro _ H2 ⟨g2, rfl, le2, ge2, at2⟩
  have nx_H2 := le2.1
  have lt_at2 := GHeap.lt_of_get at2
  have mm2 : MemN _ _ _ _ _ := ⟨rfl, Mem.of_get at2⟩
  replace w1 := w1.stm (.of_le le2)
  replace w2 := w2.stm (.of_le le2)
  replace w3 := w3.stm (.of_le le2)
  refine .m rfl rfl rfl (.assign rfl) ?_
  refine .nil ?_
  refine hK1 _ _ ?_
  refine .seq (fun K2 hK2 => ?_)
  refine .region ?_
  have m1 : MemN H2 g2 (0 + 0) 5 (c.sh.cells p.sh) := ⟨rfl, Mem.left (bs := [.slice p.a1 c.sz.length c.sz.length, .slice p.a2 c.ac.length c.ac.length]) (Mem.of_get at2)⟩
  refine .m rfl rfl rfl (.fieldAddr fo_39_0_P rfl) ?_
  refine .m rfl rfl rfl (.loadM ag_37_D rfl (by assumption)) ?_
  refine .m rfl rfl rfl (.move rfl) ?_
  refine .call rfl rfl rfl rfl @Try.call49 rfl (markCategory_c) ?_
  rintro _ H8 ⟨rfl, mk8⟩
  have sm8 := mk8.stm
  have nx_H8 := sm8.nx
  replace at2 := sm8.same _ _ (by omega) at2
  replace w1 := w1.stm sm8
  replace w2 := w2.stm sm8
  replace w3 := w3.stm sm8
  clear mm2
  have mm2 : MemN _ _ _ _ _ := ⟨rfl, Mem.of_get at2⟩
  refine .m rfl rfl rfl (.assign rfl) ?_
  refine .nil ?_
  refine hK2 _ _ ?_
  refine .seq (fun K3 hK3 => ?_)
  refine .region ?_
  have c1 : H8.cell g2 (0 + 5) = some (.slice p.a1 c.sz.length c.sz.length) := Mem.of_get at2 5 _ rfl
  refine .m rfl rfl rfl (.fieldAddr fo_39_1_P rfl) ?_
  refine .m rfl rfl rfl (.load on_22_B rfl (by assumption)) ?_
  refine .m rfl rfl rfl (.move rfl) ?_
  refine .call rfl rfl rfl rfl @Try.call50 rfl (markInt64S_c) ?_
  rintro _ H12 ⟨rfl, mk12⟩
  have sm12 := mk12.stm
  have nx_H12 := sm12.nx
  replace at2 := sm12.same _ _ (by omega) at2
  replace w1 := w1.stm sm12
  replace w2 := w2.stm sm12
  replace w3 := w3.stm sm12
  clear mm2
  have mm2 : MemN _ _ _ _ _ := ⟨rfl, Mem.of_get at2⟩
  refine .m rfl rfl rfl (.assign rfl) ?_
  refine .nil ?_
  refine hK3 _ _ ?_
  refine .seq (fun K4 hK4 => ?_)
  refine .region ?_
  have c1 : H12.cell g2 (0 + 6) = some (.slice p.a2 c.ac.length c.ac.length) := Mem.of_get at2 6 _ rfl
  refine .m rfl rfl rfl (.fieldAddr fo_39_2_P rfl) ?_
  refine .m rfl rfl rfl (.load on_23_B rfl (by assumption)) ?_
  refine .m rfl rfl rfl (.move rfl) ?_
  refine .call rfl rfl rfl rfl @Try.call37 rfl (markInt64SS_c) ?_
  rintro _ H16 ⟨rfl, mk16⟩
  have sm16 := mk16.stm
  have nx_H16 := sm16.nx
  replace at2 := sm16.same _ _ (by omega) at2
  replace w1 := w1.stm sm16
  replace w2 := w2.stm sm16
  replace w3 := w3.stm sm16
  clear mm2
  have mm2 : MemN _ _ _ _ _ := ⟨rfl, Mem.of_get at2⟩
  refine .m rfl rfl rfl (.assign rfl) ?_
  refine .nil ?_
  refine hK4 _ _ ?_
  refine .seq (fun K5 hK5 => ?_)
  refine .region ?_
  refine .m rfl rfl rfl (.move rfl) ?_
  refine .m rfl rfl rfl (.assign rfl) ?_
  refine .nil ?_
  refine hK5 _ _ ?_
  refine .ret ?_
  -- leaf e1
  refine hret _ _ ?_
  refine ⟨_, rfl, ?_⟩
  exact ⟨by rw [ht]; congr 1; omega, .le_left le2 (mk8.app' (mk12.app' mk16 (by simp [lvSum])) (by rw [Cat.lvSum_leaves]))⟩
theorem markPart_c {c : Prt} {p : PrtP} {lo hi : Nat} {k : Int} {H : GHeap} (w : PrtW lo hi H c p := by assumption) (hs : c.Small := by assumption) (hk : 0 ≤ k := by omega) (hk' : k + c.total ≤ 4611686018427387904 := by omega) (hhi : hi ≤ H.next := by omega) :
    GCalls Try.prog 16 [.agg (c.cells p).toArray, .int .i64 k] H (fun v H' => v = .int .i64 (k + c.total) ∧ Marked lo hi H H' (c.leaves p) k) := by
  have ht : c.total = sumL c.me := rfl
  have w1 : IntssW lo hi H p.a0 c.me p.r0 := w
  obtain ⟨s1, s2⟩ := hs
  refine GCalls.body (N := 10) (rs := [.tmp 4]) Try.func16 rfl rfl rfl rfl (fun Qx hret hend => ?_)
  refine .forget (fr' := [(0, some _), (1, some _)]) ⟨rfl, rfl, trivial⟩ ?_
  refine .seq (fun K1 hK1 => ?_)
  refine .region ?_
  refine .r rfl rfl rfl (.boxR rfl sz_34_VPrt rfl) ?_
  rintro _ H2 ⟨g2, rfl, le2, ge2, at2⟩
  have nx_H2 := le2.1
  have lt_at2 := GHeap.lt_of_get at2
  have mm2 : MemN _ _ _ _ _ := ⟨rfl, Mem.of_get at2⟩
  replace w1 := w1.stm (.of_le le2)
  refine .m rfl rfl rfl (.assign rfl) ?_
  refine .nil ?_
  refine hK1 _ _ ?_
  refine .seq (fun K2 hK2 => ?_)
  refine .region ?_
  have c1 : H2.cell g2 (0 + 0) = some (.slice p.a0 c.me.length c.me.length) := Mem.of_get at2 0 _ rfl
  refine .m rfl rfl rfl (.fieldAddr fo_34_0_VPrt rfl) ?_
  refine .m rfl rfl rfl (.load on_23_B rfl (by assumption)) ?_
  refine .m rfl rfl rfl (.move rfl) ?_
  refine .call rfl rfl rfl rfl @Try.call37 rfl (markInt64SS_c) ?_
  rintro _ H8 ⟨rfl, mk8⟩
  have sm8 := mk8.stm
  have nx_H8 := sm8.nx
  replace at2 := sm8.same _ _ (by omega) at2
  replace w1 := w1.stm sm8
  clear mm2
  have mm2 : MemN _ _ _ _ _ := ⟨rfl, Mem.of_get at2⟩
  refine .m rfl rfl rfl (.assign rfl) ?_
  refine .nil ?_
  refine hK2 _ _ ?_
  refine .seq (fun K3 hK3 => ?_)
  refine .region ?_
  refine .m rfl rfl rfl (.move rfl) ?_
  refine .m rfl rfl rfl (.assign rfl) ?_
  refine .nil ?_
  refine hK3 _ _ ?_
  refine .ret ?_
  -- leaf e1
  refine hret _ _ ?_
  refine ⟨_, rfl, ?_⟩
  exact ⟨rfl, .le_left le2 mk8⟩
theorem heldPart_c {c : Prt} {p : PrtP} {lo hi b : Nat} {k : Int} {H : GHeap} (w : PrtW lo hi H c p := by assumption) (h : Held b H (c.leaves p) k := by assumption) (hs : c.Small := by assumption) (hk : 0 ≤ k := by omega) (hk' : k + c.total ≤ 4611686018427387904 := by omega) :
    GCalls Try.prog 17 [.agg (c.cells p).toArray, .int .i64 k] H (Ret (.int .i64 (k + c.total)) H) := by
  refine GCalls.ret rfl ?_
  have ht : c.total = sumL c.me := rfl
  have v1 : Held b H (rowsL p.r0 c.me c.me.length) k := h
  obtain ⟨s1, s2⟩ := hs
  refine GCalls.body (N := 12) (rs := [.tmp 4]) Try.func17 rfl rfl rfl rfl (fun Qx hret hend => ?_)
  refine .forget (fr' := [(0, some _), (1, some _)]) ⟨rfl, rfl, trivial⟩ ?_
  have hle := GHeap.Le.refl H
  refine .seq (fun K1 hK1 => ?_)
  refine .region ?_
  refine .r rfl rfl rfl (.boxR rfl sz_34_VPrt rfl) ?_
  rintro _ H2 ⟨g2, rfl, le2, ge2, at2⟩
  have nx_H2 := le2.1
  replace hle := hle.trans le2
  have lt_at2 := GHeap.lt_of_get at2
  have mm2 : MemN _ _ _ _ _ := ⟨rfl, Mem.of_get at2⟩
  refine .m rfl rfl rfl (.assign rfl) ?_
  refine .nil ?_
  refine hK1 _ _ ?_
  refine .seq (fun K2 hK2 => ?_)
  refine .region ?_
  replace v1 := v1.keep (.of_le le2) (Nat.zero_le _)
  have hsl := w.1.mono le2
  have c1 : H2.cell g2 (0 + 0) = some (.slice p.a0 c.me.length c.me.length) := Mem.of_get at2 0 _ rfl
  refine .m rfl rfl rfl (.fieldAddr fo_34_0_VPrt rfl) ?_
  refine .m rfl rfl rfl (.load on_23_B rfl (by assumption)) ?_
  refine .m rfl rfl rfl (.move rfl) ?_
  refine .callQ rfl rfl rfl rfl @Try.call38 rfl (heldInt64SS_c) ?_
  refine .m rfl rfl rfl (.assign rfl) ?_
  refine .nil ?_
  refine hK2 _ _ ?_
  refine .seq (fun K3 hK3 => ?_)
  refine .seq (fun K4 hK4 => ?_)
  refine .region ?_
  refine .m rfl rfl rfl (.move rfl) ?_
  refine .m rfl rfl rfl (.cmp rfl rfl rfl) ?_
  refine .nil ?_
  refine hK4 _ _ ?_
  refine .cond rfl (fun h10 => ?_) (fun h10 => ?_)
  ·
   exact absurd h10 (by simp; omega)
  ·
   try simp only [sps] at h10
   refine .skip ?_
   refine hK3 _ _ ?_
   refine .seq (fun K5 hK5 => ?_)
   refine .region ?_
   refine .m rfl rfl rfl (.move rfl) ?_
   refine .m rfl rfl rfl (.assign rfl) ?_
   refine .nil ?_
   refine hK5 _ _ ?_
   refine .ret ?_
   -- leaf e1
   refine hret _ _ ?_
   refine ⟨_, rfl, ?_⟩
   exact ⟨rfl, hle⟩
end Go.Proofs.Ytbpehbbdodahaaa
