/- Cones and their images. No condition but those of each statement. -/
import Derived.Test.YtihkbggaaopebaaN
import Derived.Test.YtihkbggaaopebaaU
import Derived.Test.YtihkbggaaopebaaVCon
import Derived.Test.YtihkbggaaopebaaGlW
namespace Go.Proofs.Ytihkbggaaopebaa
open Go Go.GL Go.RowKit Go.Proofs
theorem l02Object_c {c : Cat} {p : CatP} {x : Int} {H : GHeap} (hin : c.In H p := by assumption) : GCalls Try.prog 27 [.agg (c.cells p).toArray, .int .i64 x] H (Ret (.bool (B (0 ≤ x ∧ x < c.obj))) H) := by
  refine GCalls.ret rfl ?_
  refine GCalls.body (N := 13) (rs := [.tmp 4]) Try.func27 rfl rfl rfl rfl (fun Qx hret hend => ?_)
  refine .forget (fr' := [(0, some _), (1, some _)]) ⟨rfl, rfl, trivial⟩ ?_
  have hle := GHeap.Le.refl H
  have base_hin := hin
  refine .seq (fun K1 hK1 => ?_)
  refine .region ?_
  refine .r rfl rfl rfl (.boxR rfl sz_31_D rfl) ?_
  rintro _ H2 ⟨g2, rfl, le2, ge2, at2⟩
  have nx_H2 := le2.1
  replace hle := hle.trans le2
  have lt_at2 := GHeap.lt_of_get at2
  replace hin := base_hin.mono hle
  have hb2 : Cat.At _ g2 0 c p := ⟨Mem.of_get at2, hin⟩
  obtain ⟨c02, c12, c22, c32, c42, i12, i22, i32, i42⟩ := hb2.get
  have hm2 : MemN _ _ _ _ _ := ⟨rfl, hb2.1⟩
  have hi2 := hb2.2
  refine .m rfl rfl rfl (.assign rfl) ?_
  refine .nil ?_
  refine hK1 _ _ ?_
  refine .seq (fun K2 hK2 => ?_)
  refine .region ?_
  refine .m rfl rfl rfl (.move rfl) ?_
  refine .m rfl rfl rfl (.cmp rfl rfl rfl) ?_
  refine .m rfl rfl rfl (.move rfl) ?_
  refine .split (fun h7 => ?_) (fun h7 => ?_)
  ·
   try simp only [sps] at h7
   refine .mg rfl rfl rfl rfl rfl (.move rfl) ?_
   refine .mg rfl rfl rfl rfl rfl (.fieldAddr fo_31_0_B rfl) ?_
   refine .mg rfl rfl rfl rfl rfl (.load on_2_A rfl (by assumption)) ?_
   refine .mg rfl rfl rfl rfl rfl (.cmp rfl rfl rfl) ?_
   refine .m rfl rfl rfl (.pickT rfl rfl) ?_
   refine .m rfl rfl rfl (.assign rfl) ?_
   refine .nil ?_
   refine hK2 _ _ ?_
   refine .ret ?_
   -- leaf e1
   refine hret _ _ ?_
   refine ⟨_, rfl, ?_⟩
   first
   | exact ⟨congrArg _ (B_false fun hh => by omega), hle⟩
   | exact ⟨congrArg _ (by rw [Bool.eq_iff_iff, B_iff, decide_eq_true_eq]; omega), hle⟩
  ·
   try simp only [sps] at h7
   refine .sg rfl rfl rfl rfl rfl ?_
   refine .sg rfl rfl rfl rfl rfl ?_
   refine .sg rfl rfl rfl rfl rfl ?_
   refine .sg rfl rfl rfl rfl rfl ?_
   refine .m rfl rfl rfl (.pickF rfl rfl) ?_
   refine .m rfl rfl rfl (.assign rfl) ?_
   refine .nil ?_
   refine hK2 _ _ ?_
   refine .ret ?_
   -- leaf e2
   refine hret _ _ ?_
   refine ⟨_, rfl, ?_⟩
   first
   | exact ⟨congrArg _ (B_false fun hh => by omega), hle⟩
   | exact ⟨congrArg _ (by rw [Bool.eq_iff_iff, B_iff, decide_eq_true_eq]; omega), hle⟩
end Go.Proofs.Ytihkbggaaopebaa
