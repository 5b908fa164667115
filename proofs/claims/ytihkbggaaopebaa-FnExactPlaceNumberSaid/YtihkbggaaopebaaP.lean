/- Set functors, in the program. No condition but those of each statement. -/
import Derived.Test.YtihkbggaaopebaaG
import Derived.Test.YtihkbggaaopebaaGlX
namespace Go.Proofs.Ytihkbggaaopebaa
open Go Go.GL Go.RowKit Go.Proofs
theorem isMapOf_c {a : Option Addr} {xs : List Int} {m n : Int} {H : GHeap} (h : Ints H a xs := by assumption) (hn : -9223372036854775808 < n := by omega) (hn' : n ≤ 9223372036854775807 := by omega) (hl : xs.length ≤ 1048576 := by omega) :
    GCalls Try.prog 52 [.slice a xs.length xs.length, .int .i64 m, .int .i64 n] H (Ret (.bool (B ((xs.length : Int) = m ∧ allIn xs n = true))) H) := by
  refine GCalls.body (N := 16) (rs := [.tmp 6]) Try.func52 rfl rfl rfl rfl (fun Qx hret hend => ?_)
  refine .forget (fr' := [(0, some _), (1, some _), (2, some _)]) ⟨rfl, rfl, rfl, trivial⟩ ?_
  refine .seq (fun K1 hK1 => ?_)
  refine .region ?_
  refine .m rfl rfl rfl (.assign rfl) ?_
  refine .nil ?_
  refine hK1 _ _ ?_
  refine .seq (fun K2 hK2 => ?_)
  refine .region ?_
  refine .m rfl rfl rfl (.move rfl) ?_
  refine .m rfl rfl rfl (.len sl_22_A rfl) ?_
  refine .m rfl rfl rfl (.move rfl) ?_
  refine .m rfl rfl rfl (.cmp rfl rfl rfl) ?_
  refine .m rfl rfl rfl (.move rfl) ?_
  refine .split (fun h11 => ?_) (fun h11 => ?_)
  ·
   simp only [beq_iff_eq, beq_eq_false_iff_ne] at h11
   refine .mg rfl rfl rfl rfl rfl (.move rfl) ?_
   refine .mg rfl rfl rfl rfl rfl (.move rfl) ?_
   refine .callQg rfl rfl rfl rfl rfl rfl @Try.call59 rfl (within_c) ?_
   refine .m rfl rfl rfl (.pickT rfl rfl) ?_
   refine .m rfl rfl rfl (.assign rfl) ?_
   refine .nil ?_
   refine hK2 _ _ ?_
   refine .ret ?_
   -- leaf e1
   refine hret _ _ ?_
   refine ⟨_, rfl, ?_⟩
   first
   | exact .of (congrArg _ (B_false fun hh => h11 hh.1))
   | exact .of (congrArg _ (by rw [Bool.eq_iff_iff, B_iff]; exact ⟨fun hh => hh.2, fun hh => ⟨h11, hh⟩⟩))
  ·
   simp only [beq_iff_eq, beq_eq_false_iff_ne] at h11
   refine .sg rfl rfl rfl rfl rfl ?_
   refine .sg rfl rfl rfl rfl rfl ?_
   refine .sg rfl rfl rfl rfl rfl ?_
   refine .m rfl rfl rfl (.pickF rfl rfl) ?_
   refine .m rfl rfl rfl (.assign rfl) ?_
   refine .nil ?_
   refine hK2 _ _ ?_
   refine .ret ?_
   -- leaf e2
   refine hret _ _ ?_
   refine ⟨_, rfl, ?_⟩
   first
   | exact .of (congrArg _ (B_false fun hh => h11 hh.1))
   | exact .of (congrArg _ (by rw [Bool.eq_iff_iff, B_iff]; exact ⟨fun hh => hh.2, fun hh => ⟨h11, hh⟩⟩))
end Go.Proofs.Ytihkbggaaopebaa
