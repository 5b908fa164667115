/- Equivalences. No condition but those of each statement. -/
import Derived.Test.YtbpehbbdodahaaaL
import Derived.Test.YtbpehbbdodahaaaGlT
namespace Go.Proofs.Ytbpehbbdodahaaa
open Go Go.GL Go.RowKit Go.Proofs
theorem has_c {a : Option Addr} {xs : List Int} {n : Int} {H : GHeap} (h : Ints H a xs := by assumption) (hl : xs.length ≤ 1048576 := by omega) :
    GCalls Try.prog 65 [.slice a xs.length xs.length, .int .i64 n] H (Ret (.bool (xs.contains n)) H) := by
  refine GCalls.body (N := 17) (rs := [.tmp 4]) Try.func65 rfl rfl rfl rfl (fun Qx hret hend => ?_)
  refine .forget (fr' := [(0, some _), (1, some _)]) ⟨rfl, rfl, trivial⟩ ?_
  refine .seq (fun K1 hK1 => ?_)
  refine .region ?_
  refine .m rfl rfl rfl (.assign rfl) ?_
  refine .nil ?_
  refine hK1 _ _ ?_
  refine .seq (fun K2 hK2 => ?_)
  refine .seq (fun K3 hK3 => ?_)
  refine .region ?_
  refine .m rfl rfl rfl (.move rfl) ?_
  refine .m rfl rfl rfl (.len sl_22_A rfl) ?_
  refine .m rfl rfl rfl (.move rfl) ?_
  refine .nil ?_
  refine hK3 _ _ ?_
  refine .block ?_
  refine .loopR (σ := Nat) [(1, some _), (7, some _), (8, some _)] (fun k => [(9, some (.int .i64 (k : Int)))]) (fun k H' => H = H' ∧ (k : Int) ≤ xs.length ∧ ∀ i, i < k → ¬ xs.getD i 0 = n) (fun k => (xs.length - k : Int).toNat) (0) ⟨rfl, rfl, rfl, trivial⟩ ⟨rfl, trivial⟩ ?_ ?_
  ·
   refine ⟨rfl, ?_⟩
   exact ⟨by omega, fun _ _ => by omega⟩
  ·
   rintro k _ ⟨rfl, hI⟩ KL1 hKL1
   refine .forget (fr' := [(9, some (.int .i64 (k : Int))), (1, some _), (7, some _), (8, some _)]) ⟨rfl, rfl, rfl, rfl, trivial⟩ ?_
   obtain ⟨hk1, ha1⟩ := hI
   refine .seq (fun K4 hK4 => ?_)
   refine .region ?_
   refine .m rfl rfl rfl (.cmp rfl rfl rfl) ?_
   refine .nil ?_
   refine hK4 _ _ ?_
   refine .seq (fun K5 hK5 => ?_)
   refine .cond rfl (fun h10 => ?_) (fun h10 => ?_)
   ·
    try simp only [sps] at h10
    refine .skip ?_
    refine hK5 _ _ ?_
    refine .seq (fun K6 hK6 => ?_)
    refine .block ?_
    refine .seq (fun K7 hK7 => ?_)
    refine .region ?_
    refine .m rfl rfl rfl (.idxN sl_22_A (by assumption) rfl rfl (by omega)) ?_
    refine .m rfl rfl rfl (.loadI on_2_A (by assumption) rfl (by omega)) ?_
    refine .m rfl rfl rfl (.assign rfl) ?_
    refine .nil ?_
    refine hK7 _ _ ?_
    refine .seq (fun K8 hK8 => ?_)
    refine .region ?_
    refine .m rfl rfl rfl (.move rfl) ?_
    refine .m rfl rfl rfl (.move rfl) ?_
    refine .m rfl rfl rfl (.cmp rfl rfl rfl) ?_
    refine .nil ?_
    refine hK8 _ _ ?_
    refine .cond rfl (fun h15 => ?_) (fun h15 => ?_)
    ·
     try simp only [sps] at h15
     refine .seq (fun K9 hK9 => ?_)
     refine .region ?_
     refine .m rfl rfl rfl (.assign rfl) ?_
     refine .nil ?_
     refine hK9 _ _ ?_
     refine .ret ?_
     -- leaf e1
     refine hret _ _ ?_
     refine ⟨_, rfl, ?_⟩
     exact .of (congrArg _ (List.contains_iff_mem.2 (by rw [← h15]; exact getD_mem (by omega))))
    ·
     try simp only [sps] at h15
     refine .skip ?_
     refine hK6 _ _ ?_
     refine .region ?_
     refine .m rfl rfl rfl (.add rfl rfl rfl (by omega) (by omega)) ?_
     refine .m rfl rfl rfl (.move rfl) ?_
     refine .nil ?_
     refine hKL1 (k + 1) _ _ ?_ ?_ ⟨rfl, rfl, rfl, rfl, trivial⟩
     ·
      refine ⟨rfl, ?_⟩
      refine ⟨by omega, fun i hx => ?_⟩
      by_cases hltq : i < k
      · exact ha1 i hltq
      · obtain rfl : i = k := by omega
        first | assumption | omega | simp_all
     ·
      omega
   ·
    try simp only [sps] at h10
    refine .exit ?_
    refine hK2 _ _ ?_
    refine .seq (fun K10 hK10 => ?_)
    refine .region ?_
    refine .m rfl rfl rfl (.assign rfl) ?_
    refine .nil ?_
    refine hK10 _ _ ?_
    refine .ret ?_
    -- leaf e2
    refine hret _ _ ?_
    refine ⟨_, rfl, ?_⟩
    exact .of (congrArg _ (Bool.eq_false_iff.2 fun hc => by
      obtain ⟨i, hi, e⟩ := mem_getD (List.contains_iff_mem.1 hc)
      exact ha1 i (by omega) e))
end Go.Proofs.Ytbpehbbdodahaaa
