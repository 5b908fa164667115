/- The smallest functions of the program, of the reference and of the laws' file: what each hands back. No condition but those of each statement. -/
import Derived.Test.YtdnjnligclkkgaaDoorZ5
import Derived.Test.YtdnjnligclkkgaaDoorProg
namespace Go.Proofs.YtdnjnligclkkgaaDoor
open Go Go.GL Go.RowKit Go.Proofs
theorem sl_36_A : sliceT Tryd.prog 36 = some (2, 1) := by kernel_rfl
theorem on_2_A : oneT Tryd.prog 2 = true := by kernel_rfl
theorem inRange_c {n lo hi : Int} {H : GHeap} : GCalls Tryd.prog 36 [.int .i64 n, .int .i64 lo, .int .i64 hi] H (Ret (.bool (inR n lo hi)) H) := by
  refine GCalls.body (N := 15) (rs := [.tmp 6]) Tryd.func36 rfl rfl rfl rfl (fun Qx a hend => ?_)
  refine .fg [0, 1, 2] rfl ?_
  refine .seq (fun K1 d => .region (.mv rfl (.nil (d _ _ (.seq (fun K2 c => .region (.mv rfl (.mv rfl (.q rfl (.cmp rfl rfl rfl) (.mv rfl ?_))))))))))
  refine .split (fun b => ?_) (fun b => ?_)
  ·
   try simp only [sps] at b
   refine .qg rfl (.move rfl) (.qg rfl (.move rfl) (.qg rfl (.cmp rfl rfl rfl) (.q rfl (.pickT rfl rfl) (.mv rfl (.nil (c _ _ (.ret (a _ _ (⟨_, rfl, ?_⟩)))))))))
   exact .of (by simp [inR]; omega)
  try simp only [sps] at b
  refine .z rfl (.z rfl (.z rfl (.q rfl (.pickF rfl rfl) (.mv rfl (.nil (c _ _ (.ret (a _ _ (⟨_, rfl, ?_⟩)))))))))
  exact .of (by simp [inR]; omega)
theorem l01In_c {n lo hi : Int} {H : GHeap} : GCalls Tryd.prog 21 [.int .i64 n, .int .i64 lo, .int .i64 hi] H (Ret (.bool (inR n lo hi)) H) := by
  refine GCalls.body (N := 15) (rs := [.tmp 6]) Tryd.func21 rfl rfl rfl rfl (fun Qx a hend => ?_)
  refine .fg [0, 1, 2] rfl ?_
  refine .seq (fun K1 d => .region (.mv rfl (.nil (d _ _ (.seq (fun K2 c => .region (.mv rfl (.mv rfl (.q rfl (.cmp rfl rfl rfl) (.mv rfl ?_))))))))))
  refine .split (fun b => ?_) (fun b => ?_)
  ·
   try simp only [sps] at b
   refine .qg rfl (.move rfl) (.qg rfl (.move rfl) (.qg rfl (.cmp rfl rfl rfl) (.q rfl (.pickT rfl rfl) (.mv rfl (.nil (c _ _ (.ret (a _ _ (⟨_, rfl, ?_⟩)))))))))
   exact .of (by simp [inR]; omega)
  try simp only [sps] at b
  refine .z rfl (.z rfl (.z rfl (.q rfl (.pickF rfl rfl) (.mv rfl (.nil (c _ _ (.ret (a _ _ (⟨_, rfl, ?_⟩)))))))))
  exact .of (by simp [inR]; omega)
theorem within_c {a : Option Addr} {xs : List Int} {n : Int} {H : GHeap} (h : Ints H a xs := by assumption) (hn : -9223372036854775808 < n := by omega) (hn' : n ≤ 9223372036854775807 := by omega) (hl : xs.length ≤ 1048576 := by omega) :
    GCalls Tryd.prog 40 [.slice a xs.length xs.length, .int .i64 n] H (Ret (.bool (allIn xs n)) H) := by
  refine GCalls.body (N := 19) (rs := [.tmp 4]) Tryd.func40 rfl rfl rfl rfl (fun Qx b hend => ?_)
  refine .fg [0, 1] rfl ?_
  refine .seq (fun K1 o => .region (.mv rfl (.nil (o _ _ (.seq (fun K2 l => .seq (fun K3 r => .region (.mv rfl (.q rfl (.len sl_36_A rfl) (.mv rfl (.nil (r _ _ (.block ?_)))))))))))))
  refine .loopF (σ := Nat) [1, 7, 8] (fun k => [(9, some (.int .i64 (k : Int)))]) (fun k H' => H = H' ∧ k ≤ xs.length ∧ ∀ i, i < k → inR (xs.getD i 0) 0 (n - 1) = true) (fun k => xs.length - k) (0) rfl (.p rfl) ?_ ?_
  ·
   refine ⟨rfl, ?_⟩
   exact ⟨by omega, fun i hi => by omega⟩
  rintro k _ ⟨rfl, hI⟩ _ f
  dsimp only [cA, nA]
  obtain ⟨_, c⟩ := hI
  refine .seq (fun K4 t => .region (.q rfl (.cmp rfl rfl rfl) (.nil (t _ _ (.seq (fun K5 s => ?_))))))
  refine .cond rfl ?_ ?_ <;> intro j
  ·
   try simp only [sps] at j
   refine .skip (s _ _ (.seq (fun K6 u => .block (.seq (fun K7 w => .region (.q rfl (.iN sl_36_A rfl rfl) (.q rfl (.lI on_2_A rfl) (.mv rfl (.nil (w _ _ (.seq (fun K8 m => .region (.mv rfl (.mv rfl ?_))))))))))))))
   refine .q rfl (.sub rfl rfl rfl (by omega) (by omega)) ?_
   refine .callQ rfl rfl rfl rfl @Tryd.call36 rfl (inRange_c) ?_
   refine .q rfl (.not rfl) (.nil (m _ _ ?_))
   refine .cond rfl ?_ ?_ <;> intro d
   ·
    try simp only [sps] at d
    refine .seq (fun K9 v => .region (.mv rfl (.nil (v _ _ (.ret (b _ _ (⟨_, rfl, ?_⟩)))))))
    exact .of (congrArg _ (allN_not (i := k) (by omega) (inR_not.2 d)))
   try simp only [sps] at d
   refine .skip (u _ _ (.region (.q rfl (.aD rfl rfl rfl) (.mv rfl (.nil ?_)))))
   refine f (k + 1) _ _ ?_ ?_ (.p rfl)
   ·
    refine ⟨rfl, ?_⟩
    refine ⟨by omega, fun i hi => ?_⟩
    by_cases e : i < k
    · exact c i e
    · obtain rfl : i = k := by omega
      exact inR_iff.2 d
   omega
  try simp only [sps] at j
  refine .exit (l _ _ (.seq (fun K10 g => .region (.mv rfl (.nil (g _ _ (.ret (b _ _ (⟨_, rfl, ?_⟩)))))))))
  exact .of (congrArg _ (allN_of fun i hi => c i (by omega)))
theorem l01Map_c {a : Option Addr} {xs : List Int} {n : Int} {H : GHeap} (h : Ints H a xs := by assumption) (hl : xs.length ≤ 1048576 := by omega) :
    GCalls Tryd.prog 28 [.int .i64 n, .slice a xs.length xs.length] H (Ret (.bool (allIn xs n)) H) := by
  refine GCalls.body (N := 25) (rs := [.tmp 4]) Tryd.func28 rfl rfl rfl rfl (fun Qx b hend => ?_)
  refine .fg [0, 1] rfl ?_
  refine .seq (fun K1 r => .region (.mv rfl (.nil (r _ _ (.seq (fun K2 m => .seq (fun K3 s => .region (.mv rfl (.nil (s _ _ (.block ?_)))))))))))
  refine .loopF (σ := Nat) [0, 1] (fun k => [(5, some (.int .i64 (k : Int)))]) (fun k H' => H = H' ∧ k ≤ xs.length ∧ ∀ i, i < k → inR (xs.getD i 0) 0 (n - 1) = true) (fun k => xs.length - k) (0) rfl (.p rfl) ?_ ?_
  ·
   refine ⟨rfl, ?_⟩
   exact ⟨by omega, fun i hi => by omega⟩
  rintro k _ ⟨rfl, hI⟩ _ g
  dsimp only [cA, nA]
  obtain ⟨_, d⟩ := hI
  refine .seq (fun K4 u => .seq (fun K5 t => .region (.mv rfl (.mv rfl (.q rfl (.len sl_36_A rfl) (.q rfl (.cmp rfl rfl rfl) (.nil (t _ _ ?_))))))))
  refine .cond rfl ?_ ?_ <;> intro h9
  ·
   try simp only [sps] at h9
   refine .skip (u _ _ (.seq (fun K6 v => .block (.seq (fun K7 l => .region (.mv rfl (.mv rfl (.q rfl (.iN sl_36_A rfl rfl) (.q rfl (.lI on_2_A rfl) (.q rfl (.cmp rfl rfl rfl) (.mv rfl ?_)))))))))))
   refine .split (fun c => ?_) (fun c => ?_)
   ·
    try simp only [sps] at c
    refine .z rfl (.z rfl (.z rfl (.z rfl (.z rfl (.z rfl (.q rfl (.pickT rfl rfl) (.nil (l _ _ ?_))))))))
    refine .condT rfl ?_
    refine .seq (fun K8 o => .region (.mv rfl (.nil (o _ _ (.ret (b _ _ (⟨_, rfl, ?_⟩)))))))
    exact .of (congrArg _ (allN_not (i := k) (by omega) (inR_not.2 (.inl c))))
   try simp only [sps] at c
   refine .qg rfl (.move rfl) (.qg rfl (.move rfl) (.qg rfl (.iN sl_36_A rfl rfl) (.qg rfl (.lI on_2_A rfl) (.qg rfl (.move rfl) (.qg rfl (.cmp rfl rfl rfl) (.q rfl (.pickF rfl rfl) (.nil (l _ _ ?_))))))))
   refine .cond rfl ?_ ?_ <;> intro f
   ·
    try simp only [sps] at f
    refine .seq (fun K9 w => .region (.mv rfl (.nil (w _ _ (.ret (b _ _ (⟨_, rfl, ?_⟩)))))))
    exact .of (congrArg _ (allN_not (i := k) (by omega) (inR_not.2 (.inr (by simp at f ⊢; omega)))))
   try simp only [sps] at f
   refine .skip (v _ _ (.region (.mv rfl (.q rfl (.aD rfl rfl rfl) (.mv rfl (.nil ?_))))))
   refine g (k + 1) _ _ ?_ ?_ (.p rfl)
   ·
    refine ⟨rfl, ?_⟩
    refine ⟨by omega, fun i hi => ?_⟩
    by_cases e : i < k
    · exact d i e
    · obtain rfl : i = k := by omega
      exact inR_iff.2 ⟨c, by omega⟩
   omega
  try simp only [sps] at h9
  refine .exit (m _ _ (.seq (fun K10 j => .region (.mv rfl (.nil (j _ _ (.ret (b _ _ (⟨_, rfl, ?_⟩)))))))))
  exact .of (congrArg _ (allN_of fun i hi => d i (by omega)))
end Go.Proofs.YtdnjnligclkkgaaDoor
namespace Go.Proofs.YtdnjnligclkkgaaDoor
open Go Go.GL Go.RowKit Go.Proofs
end Go.Proofs.YtdnjnligclkkgaaDoor
namespace Go.Proofs.YtdnjnligclkkgaaDoor
open Go Go.GL Go.RowKit Go.Proofs
end Go.Proofs.YtdnjnligclkkgaaDoor
namespace Go.Proofs.YtdnjnligclkkgaaDoor
open Go Go.GL Go.RowKit Go.Proofs
end Go.Proofs.YtdnjnligclkkgaaDoor
