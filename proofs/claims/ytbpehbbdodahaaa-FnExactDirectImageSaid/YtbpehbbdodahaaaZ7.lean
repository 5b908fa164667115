/- Equal lists, equal categories, in the program and in the reference. No condition but those of each statement. -/
import Derived.Test.YtbpehbbdodahaaaZ6
namespace Go.Proofs.Ytbpehbbdodahaaa
open Go Go.GL Go.RowKit Go.Proofs
theorem eqss_of_getD {xs ys : List (List Int)} (hl : xs.length = ys.length) (h : ∀ i, i < xs.length → xs.getD i [] = ys.getD i []) : xs = ys := by
  apply List.ext_getElem hl
  intro i h1 h2
  have := h i h1
  simpa [List.getD_eq_getElem?_getD, h1, h2] using this
theorem Cat.eq_iff {c d : Cat} : c = d ↔ c.obj = d.obj ∧ c.src = d.src ∧ c.tgt = d.tgt ∧ c.idn = d.idn ∧ c.comp = d.comp := by
  cases c; cases d; simp
theorem compare_c {a b : Option Addr} {xs ys : List Int} {H : GHeap} (h : Ints H a xs := by assumption) (h' : Ints H b ys := by assumption) (hx : xs.length ≤ 1048576 := by omega) (hy : ys.length ≤ 1048576 := by omega) :
    GCalls Try.prog 95 [.slice a xs.length xs.length, .slice b ys.length ys.length] H (fun v H' => H' = H ∧ ∃ n, v = .int .i64 n ∧ (n = 0 ↔ xs = ys)) := by
  refine GCalls.body (N := 39) (rs := [.tmp 4]) Try.func95 rfl rfl rfl rfl (fun Qx hret hend => ?_)
  refine .forget (fr' := [(0, some _), (1, some _)]) ⟨rfl, rfl, trivial⟩ ?_
  refine .seq (fun K1 hK1 => ?_)
  refine .region ?_
  refine .m rfl rfl rfl (.assign rfl) ?_
  refine .nil ?_
  refine hK1 _ _ ?_
  refine .seq (fun K2 hK2 => ?_)
  refine .seq (fun K3 hK3 => ?_)
  refine .region ?_
  refine .m rfl rfl rfl (.move rfl) ?_
  refine .m rfl rfl rfl (.len sl_22_A rfl) ?_
  refine .m rfl rfl rfl (.move rfl) ?_
  refine .nil ?_
  refine hK3 _ _ ?_
  refine .block ?_
  refine .loopR (σ := Nat) [(0, some _), (1, some _), (7, some _)] (fun k => [(8, some (.int .i64 (k : Int)))]) (fun k H' => H = H' ∧ k ≤ xs.length ∧ k ≤ ys.length ∧ ∀ i, i < k → xs.getD i 0 = ys.getD i 0) (fun k => xs.length - k) (0) ⟨rfl, rfl, rfl, trivial⟩ ⟨rfl, trivial⟩ ?_ ?_
  ·
   refine ⟨rfl, ?_⟩
   exact ⟨by omega, by omega, fun i hi => by omega⟩
  ·
   rintro k _ ⟨rfl, hI⟩ KL1 hKL1
   refine .forget (fr' := [(8, some (.int .i64 (k : Int))), (0, some _), (1, some _), (7, some _)]) ⟨rfl, rfl, rfl, rfl, trivial⟩ ?_
   obtain ⟨hk, hk', hall⟩ := hI
   refine .seq (fun K4 hK4 => ?_)
   refine .region ?_
   refine .m rfl rfl rfl (.cmp rfl rfl rfl) ?_
   refine .nil ?_
   refine hK4 _ _ ?_
   refine .seq (fun K5 hK5 => ?_)
   refine .cond rfl (fun h9 => ?_) (fun h9 => ?_)
   ·
    try simp only [sps] at h9
    refine .skip ?_
    refine hK5 _ _ ?_
    refine .seq (fun K6 hK6 => ?_)
    refine .block ?_
    refine .seq (fun K7 hK7 => ?_)
    refine .region ?_
    refine .m rfl rfl rfl (.move rfl) ?_
    refine .m rfl rfl rfl (.assign rfl) ?_
    refine .nil ?_
    refine hK7 _ _ ?_
    refine .seq (fun K8 hK8 => ?_)
    refine .seq (fun K9 hK9 => ?_)
    refine .region ?_
    refine .m rfl rfl rfl (.move rfl) ?_
    refine .m rfl rfl rfl (.move rfl) ?_
    refine .m rfl rfl rfl (.len sl_22_A rfl) ?_
    refine .m rfl rfl rfl (.cmp rfl rfl rfl) ?_
    refine .nil ?_
    refine hK9 _ _ ?_
    refine .cond rfl (fun h14 => ?_) (fun h14 => ?_)
    ·
     try simp only [sps] at h14
     refine .seq (fun K10 hK10 => ?_)
     refine .region ?_
     refine .m rfl rfl rfl (.assign rfl) ?_
     refine .nil ?_
     refine hK10 _ _ ?_
     refine .ret ?_
     -- leaf e1
     refine hret _ _ ?_
     refine ⟨_, rfl, ?_⟩
     exact ⟨rfl, _, rfl, fun e => by omega, fun e => by subst e; first | omega | simp_all⟩
    ·
     try simp only [sps] at h14
     refine .skip ?_
     refine hK8 _ _ ?_
     refine .seq (fun K11 hK11 => ?_)
     refine .regionD mixed_orders_B (.q 0 (.q 1 (.q 2 (.q 3 (.q 4 (.q 5 (.q 6 (.q 7 (.q 8 (.done)))))))))) (by kernel_rfl) ?_
     refine .m rfl rfl rfl rfl (.refl _) (.move rfl) ?_
     refine .m rfl rfl rfl rfl (.refl _) (.move rfl) ?_
     refine .m rfl rfl rfl rfl (.refl _) (.idxN sl_22_A (by assumption) rfl rfl (by omega)) ?_
     refine .m rfl rfl rfl rfl (.refl _) (.loadI on_2_A (by assumption) rfl (by omega)) ?_
     refine .m rfl rfl rfl rfl (.refl _) (.move rfl) ?_
     refine .m rfl rfl rfl rfl (.refl _) (.move rfl) ?_
     refine .m rfl rfl rfl rfl (.refl _) (.idxN sl_22_A (by assumption) rfl rfl (by omega)) ?_
     refine .m rfl rfl rfl rfl (.refl _) (.loadI on_2_A (by assumption) rfl (by omega)) ?_
     refine .m rfl rfl rfl rfl (.refl _) (.cmp rfl rfl rfl) ?_
     refine .done ?_
     refine hK11 _ _ ?_
     refine .cond rfl (fun h23 => ?_) (fun h23 => ?_)
     ·
      try simp only [sps] at h23
      refine .seq (fun K12 hK12 => ?_)
      refine .seq (fun K13 hK13 => ?_)
      refine .regionD mixed_orders_B (.q 0 (.q 1 (.q 2 (.q 3 (.q 4 (.q 5 (.q 6 (.q 7 (.q 8 (.done)))))))))) (by kernel_rfl) ?_
      refine .m rfl rfl rfl rfl (.refl _) (.move rfl) ?_
      refine .m rfl rfl rfl rfl (.refl _) (.move rfl) ?_
      refine .m rfl rfl rfl rfl (.refl _) (.idxN sl_22_A (by assumption) rfl rfl (by omega)) ?_
      refine .m rfl rfl rfl rfl (.refl _) (.loadI on_2_A (by assumption) rfl (by omega)) ?_
      refine .m rfl rfl rfl rfl (.refl _) (.move rfl) ?_
      refine .m rfl rfl rfl rfl (.refl _) (.move rfl) ?_
      refine .m rfl rfl rfl rfl (.refl _) (.idxN sl_22_A (by assumption) rfl rfl (by omega)) ?_
      refine .m rfl rfl rfl rfl (.refl _) (.loadI on_2_A (by assumption) rfl (by omega)) ?_
      refine .m rfl rfl rfl rfl (.refl _) (.cmp rfl rfl rfl) ?_
      refine .done ?_
      refine hK13 _ _ ?_
      refine .cond rfl (fun h32 => ?_) (fun h32 => ?_)
      ·
       try simp only [sps] at h32
       refine .seq (fun K14 hK14 => ?_)
       refine .region ?_
       refine .m rfl rfl rfl (.assign rfl) ?_
       refine .nil ?_
       refine hK14 _ _ ?_
       refine .ret ?_
       -- leaf e2
       refine hret _ _ ?_
       refine ⟨_, rfl, ?_⟩
       exact ⟨rfl, _, rfl, fun e => by omega, fun e => by subst e; first | omega | simp_all⟩
      ·
       try simp only [sps] at h32
       refine .skip ?_
       refine hK12 _ _ ?_
       refine .seq (fun K15 hK15 => ?_)
       refine .region ?_
       refine .m rfl rfl rfl (.assign rfl) ?_
       refine .nil ?_
       refine hK15 _ _ ?_
       refine .ret ?_
       -- leaf e3
       refine hret _ _ ?_
       refine ⟨_, rfl, ?_⟩
       exact ⟨rfl, _, rfl, fun e => by omega, fun e => by subst e; first | omega | simp_all⟩
     ·
      try simp only [sps] at h23
      refine .skip ?_
      refine hK6 _ _ ?_
      refine .region ?_
      refine .m rfl rfl rfl (.add rfl rfl rfl (by omega) (by omega)) ?_
      refine .m rfl rfl rfl (.move rfl) ?_
      refine .nil ?_
      refine hKL1 (k + 1) _ _ ?_ ?_ ⟨rfl, rfl, rfl, rfl, trivial⟩
      ·
       refine ⟨rfl, ?_⟩
       refine ⟨by omega, by omega, fun i hi => ?_⟩
       by_cases e : i < k
       · exact hall i e
       · obtain rfl : i = k := by omega
         assumption
      ·
       omega
   ·
    try simp only [sps] at h9
    refine .exit ?_
    refine hK2 _ _ ?_
    refine .seq (fun K16 hK16 => ?_)
    refine .seq (fun K17 hK17 => ?_)
    refine .region ?_
    refine .m rfl rfl rfl (.move rfl) ?_
    refine .m rfl rfl rfl (.len sl_22_A rfl) ?_
    refine .m rfl rfl rfl (.move rfl) ?_
    refine .m rfl rfl rfl (.len sl_22_A rfl) ?_
    refine .m rfl rfl rfl (.cmp rfl rfl rfl) ?_
    refine .nil ?_
    refine hK17 _ _ ?_
    refine .cond rfl (fun h38 => ?_) (fun h38 => ?_)
    ·
     try simp only [sps] at h38
     refine .seq (fun K18 hK18 => ?_)
     refine .region ?_
     refine .m rfl rfl rfl (.assign rfl) ?_
     refine .nil ?_
     refine hK18 _ _ ?_
     refine .ret ?_
     -- leaf e4
     refine hret _ _ ?_
     refine ⟨_, rfl, ?_⟩
     exact ⟨rfl, _, rfl, fun e => by omega, fun e => by subst e; first | omega | simp_all⟩
    ·
     try simp only [sps] at h38
     refine .skip ?_
     refine hK16 _ _ ?_
     refine .seq (fun K19 hK19 => ?_)
     refine .region ?_
     refine .m rfl rfl rfl (.assign rfl) ?_
     refine .nil ?_
     refine hK19 _ _ ?_
     refine .ret ?_
     -- leaf e5
     refine hret _ _ ?_
     refine ⟨_, rfl, ?_⟩
     exact ⟨rfl, _, rfl, fun _ => eq_of_getD (by omega) fun i hi => hall i (by omega), fun _ => rfl⟩
theorem same_c {a b : Option Addr} {xs ys : List Int} {H : GHeap} (h : Ints H a xs := by assumption) (h' : Ints H b ys := by assumption) (hx : xs.length ≤ 1048576 := by omega) (hy : ys.length ≤ 1048576 := by omega) :
    GCalls Try.prog 89 [.slice a xs.length xs.length, .slice b ys.length ys.length] H (Ret (.bool (decide (xs = ys))) H) := by
  refine GCalls.body (N := 9) (rs := [.tmp 4]) Try.func89 rfl rfl rfl rfl (fun Qx hret hend => ?_)
  refine .forget (fr' := [(0, some _), (1, some _)]) ⟨rfl, rfl, trivial⟩ ?_
  refine .seq (fun K1 hK1 => ?_)
  refine .region ?_
  refine .m rfl rfl rfl (.assign rfl) ?_
  refine .nil ?_
  refine hK1 _ _ ?_
  refine .seq (fun K2 hK2 => ?_)
  refine .region ?_
  refine .m rfl rfl rfl (.move rfl) ?_
  refine .m rfl rfl rfl (.move rfl) ?_
  refine .call rfl rfl rfl rfl @Try.call95 rfl (compare_c) ?_
  rintro _ _ ⟨rfl, n, rfl, hn⟩
  refine .m rfl rfl rfl (.cmp rfl rfl rfl) ?_
  refine .m rfl rfl rfl (.assign rfl) ?_
  refine .nil ?_
  refine hK2 _ _ ?_
  refine .ret ?_
  -- leaf e1
  refine hret _ _ ?_
  refine ⟨_, rfl, ?_⟩
  exact .of (congrArg _ (by rw [Bool.eq_iff_iff]; simp [hn]))
theorem l01Same_c {a b : Option Addr} {xs ys : List Int} {H : GHeap} (h : Ints H a xs := by assumption) (h' : Ints H b ys := by assumption) (hx : xs.length ≤ 1048576 := by omega) (hy : ys.length ≤ 1048576 := by omega) :
    GCalls Try.prog 87 [.slice a xs.length xs.length, .slice b ys.length ys.length] H (Ret (.bool (decide (xs = ys))) H) := by
  refine GCalls.body (N := 26) (rs := [.tmp 4]) Try.func87 rfl rfl rfl rfl (fun Qx hret hend => ?_)
  refine .forget (fr' := [(0, some _), (1, some _)]) ⟨rfl, rfl, trivial⟩ ?_
  refine .seq (fun K1 hK1 => ?_)
  refine .region ?_
  refine .m rfl rfl rfl (.assign rfl) ?_
  refine .nil ?_
  refine hK1 _ _ ?_
  refine .seq (fun K2 hK2 => ?_)
  refine .seq (fun K3 hK3 => ?_)
  refine .region ?_
  refine .m rfl rfl rfl (.move rfl) ?_
  refine .m rfl rfl rfl (.len sl_22_A rfl) ?_
  refine .m rfl rfl rfl (.move rfl) ?_
  refine .m rfl rfl rfl (.len sl_22_A rfl) ?_
  refine .m rfl rfl rfl (.cmp rfl rfl rfl) ?_
  refine .nil ?_
  refine hK3 _ _ ?_
  refine .cond rfl (fun h10 => ?_) (fun h10 => ?_)
  ·
   try simp only [sps] at h10
   refine .seq (fun K4 hK4 => ?_)
   refine .region ?_
   refine .m rfl rfl rfl (.assign rfl) ?_
   refine .nil ?_
   refine hK4 _ _ ?_
   refine .ret ?_
   -- leaf e1
   refine hret _ _ ?_
   refine ⟨_, rfl, ?_⟩
   exact .of (congrArg _ (decide_eq_false fun e => by subst e; first | omega | simp_all))
  ·
   try simp only [sps] at h10
   refine .skip ?_
   refine hK2 _ _ ?_
   refine .seq (fun K5 hK5 => ?_)
   refine .seq (fun K6 hK6 => ?_)
   refine .region ?_
   refine .m rfl rfl rfl (.assign rfl) ?_
   refine .nil ?_
   refine hK6 _ _ ?_
   refine .block ?_
   refine .loopR (σ := Nat) [(0, some _), (1, some _)] (fun k => [(5, some (.int .i64 (k : Int)))]) (fun k H' => H = H' ∧ k ≤ xs.length ∧ ∀ i, i < k → xs.getD i 0 = ys.getD i 0) (fun k => xs.length - k) (0) ⟨rfl, rfl, trivial⟩ ⟨rfl, trivial⟩ ?_ ?_
   ·
    refine ⟨rfl, ?_⟩
    exact ⟨by omega, fun i hi => by omega⟩
   ·
    rintro k _ ⟨rfl, hI⟩ KL1 hKL1
    refine .forget (fr' := [(5, some (.int .i64 (k : Int))), (0, some _), (1, some _)]) ⟨rfl, rfl, rfl, trivial⟩ ?_
    obtain ⟨hk, hall⟩ := hI
    refine .seq (fun K7 hK7 => ?_)
    refine .seq (fun K8 hK8 => ?_)
    refine .region ?_
    refine .m rfl rfl rfl (.move rfl) ?_
    refine .m rfl rfl rfl (.move rfl) ?_
    refine .m rfl rfl rfl (.len sl_22_A rfl) ?_
    refine .m rfl rfl rfl (.cmp rfl rfl rfl) ?_
    refine .nil ?_
    refine hK8 _ _ ?_
    refine .cond rfl (fun h14 => ?_) (fun h14 => ?_)
    ·
     try simp only [sps] at h14
     refine .skip ?_
     refine hK7 _ _ ?_
     refine .seq (fun K9 hK9 => ?_)
     refine .block ?_
     refine .seq (fun K10 hK10 => ?_)
     refine .regionD mixed_orders_B (.q 0 (.q 1 (.q 2 (.q 3 (.q 4 (.q 5 (.q 6 (.q 7 (.q 8 (.done)))))))))) (by kernel_rfl) ?_
     refine .m rfl rfl rfl rfl (.refl _) (.move rfl) ?_
     refine .m rfl rfl rfl rfl (.refl _) (.move rfl) ?_
     refine .m rfl rfl rfl rfl (.refl _) (.idxN sl_22_A (by assumption) rfl rfl (by omega)) ?_
     refine .m rfl rfl rfl rfl (.refl _) (.loadI on_2_A (by assumption) rfl (by omega)) ?_
     refine .m rfl rfl rfl rfl (.refl _) (.move rfl) ?_
     refine .m rfl rfl rfl rfl (.refl _) (.move rfl) ?_
     refine .m rfl rfl rfl rfl (.refl _) (.idxN sl_22_A (by assumption) rfl rfl (by omega)) ?_
     refine .m rfl rfl rfl rfl (.refl _) (.loadI on_2_A (by assumption) rfl (by omega)) ?_
     refine .m rfl rfl rfl rfl (.refl _) (.cmp rfl rfl rfl) ?_
     refine .done ?_
     refine hK10 _ _ ?_
     refine .cond rfl (fun h25 => ?_) (fun h25 => ?_)
     ·
      try simp only [sps] at h25
      refine .seq (fun K11 hK11 => ?_)
      refine .region ?_
      refine .m rfl rfl rfl (.assign rfl) ?_
      refine .nil ?_
      refine hK11 _ _ ?_
      refine .ret ?_
      -- leaf e2
      refine hret _ _ ?_
      refine ⟨_, rfl, ?_⟩
      exact .of (congrArg _ (decide_eq_false fun e => by subst e; first | omega | simp_all))
     ·
      try simp only [sps] at h25
      refine .skip ?_
      refine hK9 _ _ ?_
      refine .region ?_
      refine .m rfl rfl rfl (.move rfl) ?_
      refine .m rfl rfl rfl (.add rfl rfl rfl (by omega) (by omega)) ?_
      refine .m rfl rfl rfl (.assign rfl) ?_
      refine .nil ?_
      refine hKL1 (k + 1) _ _ ?_ ?_ ⟨rfl, rfl, rfl, trivial⟩
      ·
       refine ⟨rfl, ?_⟩
       refine ⟨by omega, fun i hi => ?_⟩
       by_cases e : i < k
       · exact hall i e
       · obtain rfl : i = k := by omega
         assumption
      ·
       omega
    ·
     try simp only [sps] at h14
     refine .exit ?_
     refine hK5 _ _ ?_
     refine .seq (fun K12 hK12 => ?_)
     refine .region ?_
     refine .m rfl rfl rfl (.assign rfl) ?_
     refine .nil ?_
     refine hK12 _ _ ?_
     refine .ret ?_
     -- leaf e3
     refine hret _ _ ?_
     refine ⟨_, rfl, ?_⟩
     exact .of (congrArg _ (decide_eq_true (eq_of_getD (by omega) fun i hi => hall i (by omega))))
theorem l01Same2_c {a b : Option Addr} {xs ys : List (List Int)} {r r' : Nat → Option Addr} {H : GHeap} (h : Intss H a xs r := by assumption) (h' : Intss H b ys r' := by assumption) (hx : xs.length ≤ 1048576 := by omega) (hy : ys.length ≤ 1048576 := by omega) (hxs : ∀ i, (xs.getD i []).length ≤ 1048576 := by assumption) (hys : ∀ i, (ys.getD i []).length ≤ 1048576 := by assumption) :
    GCalls Try.prog 88 [.slice a xs.length xs.length, .slice b ys.length ys.length] H (Ret (.bool (decide (xs = ys))) H) := by
  refine GCalls.body (N := 27) (rs := [.tmp 4]) Try.func88 rfl rfl rfl rfl (fun Qx hret hend => ?_)
  refine .forget (fr' := [(0, some _), (1, some _)]) ⟨rfl, rfl, trivial⟩ ?_
  refine .seq (fun K1 hK1 => ?_)
  refine .region ?_
  refine .m rfl rfl rfl (.assign rfl) ?_
  refine .nil ?_
  refine hK1 _ _ ?_
  refine .seq (fun K2 hK2 => ?_)
  refine .seq (fun K3 hK3 => ?_)
  refine .region ?_
  refine .m rfl rfl rfl (.move rfl) ?_
  refine .m rfl rfl rfl (.len sl_23_B rfl) ?_
  refine .m rfl rfl rfl (.move rfl) ?_
  refine .m rfl rfl rfl (.len sl_23_B rfl) ?_
  refine .m rfl rfl rfl (.cmp rfl rfl rfl) ?_
  refine .nil ?_
  refine hK3 _ _ ?_
  refine .cond rfl (fun h10 => ?_) (fun h10 => ?_)
  ·
   try simp only [sps] at h10
   refine .seq (fun K4 hK4 => ?_)
   refine .region ?_
   refine .m rfl rfl rfl (.assign rfl) ?_
   refine .nil ?_
   refine hK4 _ _ ?_
   refine .ret ?_
   -- leaf e1
   refine hret _ _ ?_
   refine ⟨_, rfl, ?_⟩
   exact .of (congrArg _ (decide_eq_false fun e => by subst e; first | omega | simp_all))
  ·
   try simp only [sps] at h10
   refine .skip ?_
   refine hK2 _ _ ?_
   refine .seq (fun K5 hK5 => ?_)
   refine .seq (fun K6 hK6 => ?_)
   refine .region ?_
   refine .m rfl rfl rfl (.assign rfl) ?_
   refine .nil ?_
   refine hK6 _ _ ?_
   refine .block ?_
   refine .loopR (σ := Nat) [(0, some _), (1, some _)] (fun k => [(5, some (.int .i64 (k : Int)))]) (fun k H' => H = H' ∧ k ≤ xs.length ∧ ∀ i, i < k → xs.getD i [] = ys.getD i []) (fun k => xs.length - k) (0) ⟨rfl, rfl, trivial⟩ ⟨rfl, trivial⟩ ?_ ?_
   ·
    refine ⟨rfl, ?_⟩
    exact ⟨by omega, fun i hi => by omega⟩
   ·
    rintro k _ ⟨rfl, hI⟩ KL1 hKL1
    refine .forget (fr' := [(5, some (.int .i64 (k : Int))), (0, some _), (1, some _)]) ⟨rfl, rfl, rfl, trivial⟩ ?_
    obtain ⟨hk, hall⟩ := hI
    refine .seq (fun K7 hK7 => ?_)
    refine .seq (fun K8 hK8 => ?_)
    refine .region ?_
    refine .m rfl rfl rfl (.move rfl) ?_
    refine .m rfl rfl rfl (.move rfl) ?_
    refine .m rfl rfl rfl (.len sl_23_B rfl) ?_
    refine .m rfl rfl rfl (.cmp rfl rfl rfl) ?_
    refine .nil ?_
    refine hK8 _ _ ?_
    refine .cond rfl (fun h14 => ?_) (fun h14 => ?_)
    ·
     try simp only [sps] at h14
     refine .skip ?_
     refine hK7 _ _ ?_
     refine .seq (fun K9 hK9 => ?_)
     refine .block ?_
     refine .seq (fun K10 hK10 => ?_)
     refine .regionD mixed_orders_B (.q 0 (.q 1 (.q 2 (.q 3 (.q 4 (.q 5 (.q 6 (.q 7 (.c 8 0 (.q 9 (.done))))))))))) (by kernel_rfl) ?_
     have q1 := hxs k
     have q2 := hys k
     have q3 := h.2 k (by omega)
     have q4 := h'.2 k (by omega)
     refine .m rfl rfl rfl rfl (.refl _) (.move rfl) ?_
     refine .m rfl rfl rfl rfl (.refl _) (.move rfl) ?_
     refine .m rfl rfl rfl rfl (.refl _) (.idxN sl_23_B (Intss.sl (by assumption)) rfl rfl (by omega)) ?_
     refine .m rfl rfl rfl rfl (.refl _) (.loadR on_22_B (by assumption) rfl (by omega)) ?_
     refine .m rfl rfl rfl rfl (.refl _) (.move rfl) ?_
     refine .m rfl rfl rfl rfl (.refl _) (.move rfl) ?_
     refine .m rfl rfl rfl rfl (.refl _) (.idxN sl_23_B (Intss.sl (by assumption)) rfl rfl (by omega)) ?_
     refine .m rfl rfl rfl rfl (.refl _) (.loadR on_22_B (by assumption) rfl (by omega)) ?_
     refine .callQ0 rfl rfl rfl rfl rfl @Try.call87 rfl (l01Same_c) ?_
     refine .m rfl rfl rfl rfl (.refl _) (.not rfl) ?_
     refine .done ?_
     refine hK10 _ _ ?_
     refine .cond rfl (fun h26 => ?_) (fun h26 => ?_)
     ·
      try simp only [sps] at h26
      refine .seq (fun K11 hK11 => ?_)
      refine .region ?_
      refine .m rfl rfl rfl (.assign rfl) ?_
      refine .nil ?_
      refine hK11 _ _ ?_
      refine .ret ?_
      -- leaf e2
      refine hret _ _ ?_
      refine ⟨_, rfl, ?_⟩
      exact .of (congrArg _ (decide_eq_false fun e => by subst e; first | omega | simp_all))
     ·
      try simp only [sps] at h26
      refine .skip ?_
      refine hK9 _ _ ?_
      refine .region ?_
      refine .m rfl rfl rfl (.move rfl) ?_
      refine .m rfl rfl rfl (.add rfl rfl rfl (by omega) (by omega)) ?_
      refine .m rfl rfl rfl (.assign rfl) ?_
      refine .nil ?_
      refine hKL1 (k + 1) _ _ ?_ ?_ ⟨rfl, rfl, rfl, trivial⟩
      ·
       refine ⟨rfl, ?_⟩
       refine ⟨by omega, fun i hi => ?_⟩
       by_cases e : i < k
       · exact hall i e
       · obtain rfl : i = k := by omega
         assumption
      ·
       omega
    ·
     try simp only [sps] at h14
     refine .exit ?_
     refine hK5 _ _ ?_
     refine .seq (fun K12 hK12 => ?_)
     refine .region ?_
     refine .m rfl rfl rfl (.assign rfl) ?_
     refine .nil ?_
     refine hK12 _ _ ?_
     refine .ret ?_
     -- leaf e3
     refine hret _ _ ?_
     refine ⟨_, rfl, ?_⟩
     exact .of (congrArg _ (decide_eq_true (eqss_of_getD (by omega) fun i hi => hall i (by omega))))
theorem sameCategory_c {g o g' o' : Nat} {c d : Cat} {p q : CatP} {H : GHeap} (h : Cat.At H g o c p := by assumption) (h' : Cat.At H g' o' d q := by assumption) (hs : c.Small := by assumption) (hs' : d.Small := by assumption) :
    GCalls Try.prog 81 [.pointer (some ⟨g, o, none⟩), .pointer (some ⟨g', o', none⟩)] H (Ret (.bool (B (c = d))) H) := by
  refine GCalls.body (N := 89) (rs := [.tmp 4]) Try.func81 rfl rfl rfl rfl (fun Qx hret hend => ?_)
  refine .forget (fr' := [(0, some _), (1, some _)]) ⟨rfl, rfl, trivial⟩ ?_
  obtain ⟨c0, c1, c2, c3, c4, i1, i2, i3, i4⟩ := h.get
  obtain ⟨d0, d1, d2, d3, d4, j1, j2, j3, j4⟩ := h'.get
  obtain ⟨s1, s2, s3, s4, s5, s6⟩ := hs
  obtain ⟨t1, t2, t3, t4, t5, t6⟩ := hs'
  refine .seq (fun K1 hK1 => ?_)
  refine .region ?_
  refine .m rfl rfl rfl (.assign rfl) ?_
  refine .nil ?_
  refine hK1 _ _ ?_
  refine .seq (fun K2 hK2 => ?_)
  refine .seq (fun K3 hK3 => ?_)
  refine .regionD mixed_orders_B (.q 0 (.q 1 (.q 2 (.q 3 (.q 4 (.q 5 (.q 6 (.q 7 (.q 8 (.q 9 (.q 10 (.q 11 (.q 12 (.q 13 (.q 14 (.q 15 (.q 16 (.q 17 (.c 18 0 (.q 19 (.q 20 (.q 21 (.q 22 (.q 23 (.q 24 (.q 25 (.q 26 (.q 27 (.q 28 (.q 29 (.c 30 0 (.q 31 (.q 32 (.q 33 (.q 34 (.q 35 (.q 36 (.q 37 (.q 38 (.q 39 (.q 40 (.q 41 (.c 42 0 (.q 43 (.q 44 (.q 45 (.q 46 (.q 47 (.q 48 (.q 49 (.q 50 (.q 51 (.q 52 (.q 53 (.q 54 (.q 55 (.q 56 (.q 57 (.done))))))))))))))))))))))))))))))))))))))))))))))))))))))))))) (by kernel_rfl) ?_
  refine .m rfl rfl rfl rfl (.refl _) (.move rfl) ?_
  refine .m rfl rfl rfl rfl (.refl _) (.nilCheck rfl) ?_
  refine .m rfl rfl rfl rfl (.refl _) (.fieldAddr fo_37_0_B rfl) ?_
  refine .m rfl rfl rfl rfl (.refl _) (.load on_2_A rfl (by assumption)) ?_
  refine .m rfl rfl rfl rfl (.refl _) (.move rfl) ?_
  refine .m rfl rfl rfl rfl (.refl _) (.nilCheck rfl) ?_
  refine .m rfl rfl rfl rfl (.refl _) (.fieldAddr fo_37_0_B rfl) ?_
  refine .m rfl rfl rfl rfl (.refl _) (.load on_2_A rfl (by assumption)) ?_
  refine .m rfl rfl rfl rfl (.refl _) (.cmp rfl rfl rfl) ?_
  refine .m rfl rfl rfl rfl (.refl _) (.move rfl) ?_
  refine .split (fun h15 => ?_) (fun h15 => ?_)
  ·
   try simp only [sps] at h15
   refine .sg rfl rfl rfl rfl rfl rfl ?_
   refine .sg rfl rfl rfl rfl rfl rfl ?_
   refine .sg rfl rfl rfl rfl rfl rfl ?_
   refine .sg rfl rfl rfl rfl rfl rfl ?_
   refine .sg rfl rfl rfl rfl rfl rfl ?_
   refine .sg rfl rfl rfl rfl rfl rfl ?_
   refine .sg rfl rfl rfl rfl rfl rfl ?_
   refine .sg rfl rfl rfl rfl rfl rfl ?_
   refine .sgc rfl rfl rfl rfl rfl rfl ?_
   refine .sg rfl rfl rfl rfl rfl rfl ?_
   refine .m rfl rfl rfl rfl (.refl _) (.pickT rfl rfl) ?_
   refine .m rfl rfl rfl rfl (.refl _) (.move rfl) ?_
   refine .sg rfl rfl rfl rfl rfl rfl ?_
   refine .sg rfl rfl rfl rfl rfl rfl ?_
   refine .sg rfl rfl rfl rfl rfl rfl ?_
   refine .sg rfl rfl rfl rfl rfl rfl ?_
   refine .sg rfl rfl rfl rfl rfl rfl ?_
   refine .sg rfl rfl rfl rfl rfl rfl ?_
   refine .sg rfl rfl rfl rfl rfl rfl ?_
   refine .sg rfl rfl rfl rfl rfl rfl ?_
   refine .sgc rfl rfl rfl rfl rfl rfl ?_
   refine .sg rfl rfl rfl rfl rfl rfl ?_
   refine .m rfl rfl rfl rfl (.refl _) (.pickT rfl rfl) ?_
   refine .m rfl rfl rfl rfl (.refl _) (.move rfl) ?_
   refine .sg rfl rfl rfl rfl rfl rfl ?_
   refine .sg rfl rfl rfl rfl rfl rfl ?_
   refine .sg rfl rfl rfl rfl rfl rfl ?_
   refine .sg rfl rfl rfl rfl rfl rfl ?_
   refine .sg rfl rfl rfl rfl rfl rfl ?_
   refine .sg rfl rfl rfl rfl rfl rfl ?_
   refine .sg rfl rfl rfl rfl rfl rfl ?_
   refine .sg rfl rfl rfl rfl rfl rfl ?_
   refine .sgc rfl rfl rfl rfl rfl rfl ?_
   refine .sg rfl rfl rfl rfl rfl rfl ?_
   refine .m rfl rfl rfl rfl (.refl _) (.pickT rfl rfl) ?_
   refine .m rfl rfl rfl rfl (.refl _) (.move rfl) ?_
   refine .sg rfl rfl rfl rfl rfl rfl ?_
   refine .sg rfl rfl rfl rfl rfl rfl ?_
   refine .sg rfl rfl rfl rfl rfl rfl ?_
   refine .sg rfl rfl rfl rfl rfl rfl ?_
   refine .sg rfl rfl rfl rfl rfl rfl ?_
   refine .sg rfl rfl rfl rfl rfl rfl ?_
   refine .sg rfl rfl rfl rfl rfl rfl ?_
   refine .sg rfl rfl rfl rfl rfl rfl ?_
   refine .sg rfl rfl rfl rfl rfl rfl ?_
   refine .sg rfl rfl rfl rfl rfl rfl ?_
   refine .sg rfl rfl rfl rfl rfl rfl ?_
   refine .m rfl rfl rfl rfl (.refl _) (.pickT rfl rfl) ?_
   refine .done ?_
   refine hK3 _ _ ?_
   refine .condT rfl ?_
   refine .seq (fun K4 hK4 => ?_)
   refine .region ?_
   refine .m rfl rfl rfl (.assign rfl) ?_
   refine .nil ?_
   refine hK4 _ _ ?_
   refine .ret ?_
   -- leaf e1
   refine hret _ _ ?_
   refine ⟨_, rfl, ?_⟩
   first
   | exact .of (congrArg _ (B_false fun e => by subst e; first | omega | simp_all))
   | exact .of (congrArg _ (B_true (Cat.eq_iff.2 ⟨by assumption, by assumption, by assumption, by assumption, eqss_of_getD (by omega) fun i hi => hall i (by omega)⟩)))
  ·
   try simp only [sps] at h15
   refine .mg rfl rfl rfl rfl rfl rfl (.refl _) (.move rfl) ?_
   refine .mg rfl rfl rfl rfl rfl rfl (.refl _) (.nilCheck rfl) ?_
   refine .mg rfl rfl rfl rfl rfl rfl (.refl _) (.fieldAddr fo_37_1_B rfl) ?_
   refine .mg rfl rfl rfl rfl rfl rfl (.refl _) (.load on_22_B rfl (by assumption)) ?_
   refine .mg rfl rfl rfl rfl rfl rfl (.refl _) (.move rfl) ?_
   refine .mg rfl rfl rfl rfl rfl rfl (.refl _) (.nilCheck rfl) ?_
   refine .mg rfl rfl rfl rfl rfl rfl (.refl _) (.fieldAddr fo_37_1_B rfl) ?_
   refine .mg rfl rfl rfl rfl rfl rfl (.refl _) (.load on_22_B rfl (by assumption)) ?_
   refine .callQ0g rfl rfl rfl rfl rfl rfl rfl @Try.call89 rfl (same_c) ?_
   refine .mg rfl rfl rfl rfl rfl rfl (.refl _) (.not rfl) ?_
   refine .m rfl rfl rfl rfl (.refl _) (.pickF rfl rfl) ?_
   refine .m rfl rfl rfl rfl (.refl _) (.move rfl) ?_
   refine .split (fun h27 => ?_) (fun h27 => ?_)
   ·
    try simp only [sps] at h27
    refine .sg rfl rfl rfl rfl rfl rfl ?_
    refine .sg rfl rfl rfl rfl rfl rfl ?_
    refine .sg rfl rfl rfl rfl rfl rfl ?_
    refine .sg rfl rfl rfl rfl rfl rfl ?_
    refine .sg rfl rfl rfl rfl rfl rfl ?_
    refine .sg rfl rfl rfl rfl rfl rfl ?_
    refine .sg rfl rfl rfl rfl rfl rfl ?_
    refine .sg rfl rfl rfl rfl rfl rfl ?_
    refine .sgc rfl rfl rfl rfl rfl rfl ?_
    refine .sg rfl rfl rfl rfl rfl rfl ?_
    refine .m rfl rfl rfl rfl (.refl _) (.pickT rfl rfl) ?_
    refine .m rfl rfl rfl rfl (.refl _) (.move rfl) ?_
    refine .sg rfl rfl rfl rfl rfl rfl ?_
    refine .sg rfl rfl rfl rfl rfl rfl ?_
    refine .sg rfl rfl rfl rfl rfl rfl ?_
    refine .sg rfl rfl rfl rfl rfl rfl ?_
    refine .sg rfl rfl rfl rfl rfl rfl ?_
    refine .sg rfl rfl rfl rfl rfl rfl ?_
    refine .sg rfl rfl rfl rfl rfl rfl ?_
    refine .sg rfl rfl rfl rfl rfl rfl ?_
    refine .sgc rfl rfl rfl rfl rfl rfl ?_
    refine .sg rfl rfl rfl rfl rfl rfl ?_
    refine .m rfl rfl rfl rfl (.refl _) (.pickT rfl rfl) ?_
    refine .m rfl rfl rfl rfl (.refl _) (.move rfl) ?_
    refine .sg rfl rfl rfl rfl rfl rfl ?_
    refine .sg rfl rfl rfl rfl rfl rfl ?_
    refine .sg rfl rfl rfl rfl rfl rfl ?_
    refine .sg rfl rfl rfl rfl rfl rfl ?_
    refine .sg rfl rfl rfl rfl rfl rfl ?_
    refine .sg rfl rfl rfl rfl rfl rfl ?_
    refine .sg rfl rfl rfl rfl rfl rfl ?_
    refine .sg rfl rfl rfl rfl rfl rfl ?_
    refine .sg rfl rfl rfl rfl rfl rfl ?_
    refine .sg rfl rfl rfl rfl rfl rfl ?_
    refine .sg rfl rfl rfl rfl rfl rfl ?_
    refine .m rfl rfl rfl rfl (.refl _) (.pickT rfl rfl) ?_
    refine .done ?_
    refine hK3 _ _ ?_
    refine .condT rfl ?_
    refine .seq (fun K5 hK5 => ?_)
    refine .region ?_
    refine .m rfl rfl rfl (.assign rfl) ?_
    refine .nil ?_
    refine hK5 _ _ ?_
    refine .ret ?_
    -- leaf e2
    refine hret _ _ ?_
    refine ⟨_, rfl, ?_⟩
    first
    | exact .of (congrArg _ (B_false fun e => by subst e; first | omega | simp_all))
    | exact .of (congrArg _ (B_true (Cat.eq_iff.2 ⟨by assumption, by assumption, by assumption, by assumption, eqss_of_getD (by omega) fun i hi => hall i (by omega)⟩)))
   ·
    try simp only [sps] at h27
    refine .mg rfl rfl rfl rfl rfl rfl (.refl _) (.move rfl) ?_
    refine .mg rfl rfl rfl rfl rfl rfl (.refl _) (.nilCheck rfl) ?_
    refine .mg rfl rfl rfl rfl rfl rfl (.refl _) (.fieldAddr fo_37_2_B rfl) ?_
    refine .mg rfl rfl rfl rfl rfl rfl (.refl _) (.load on_22_B rfl (by assumption)) ?_
    refine .mg rfl rfl rfl rfl rfl rfl (.refl _) (.move rfl) ?_
    refine .mg rfl rfl rfl rfl rfl rfl (.refl _) (.nilCheck rfl) ?_
    refine .mg rfl rfl rfl rfl rfl rfl (.refl _) (.fieldAddr fo_37_2_B rfl) ?_
    refine .mg rfl rfl rfl rfl rfl rfl (.refl _) (.load on_22_B rfl (by assumption)) ?_
    refine .callQ0g rfl rfl rfl rfl rfl rfl rfl @Try.call89 rfl (same_c) ?_
    refine .mg rfl rfl rfl rfl rfl rfl (.refl _) (.not rfl) ?_
    refine .m rfl rfl rfl rfl (.refl _) (.pickF rfl rfl) ?_
    refine .m rfl rfl rfl rfl (.refl _) (.move rfl) ?_
    refine .split (fun h39 => ?_) (fun h39 => ?_)
    ·
     try simp only [sps] at h39
     refine .sg rfl rfl rfl rfl rfl rfl ?_
     refine .sg rfl rfl rfl rfl rfl rfl ?_
     refine .sg rfl rfl rfl rfl rfl rfl ?_
     refine .sg rfl rfl rfl rfl rfl rfl ?_
     refine .sg rfl rfl rfl rfl rfl rfl ?_
     refine .sg rfl rfl rfl rfl rfl rfl ?_
     refine .sg rfl rfl rfl rfl rfl rfl ?_
     refine .sg rfl rfl rfl rfl rfl rfl ?_
     refine .sgc rfl rfl rfl rfl rfl rfl ?_
     refine .sg rfl rfl rfl rfl rfl rfl ?_
     refine .m rfl rfl rfl rfl (.refl _) (.pickT rfl rfl) ?_
     refine .m rfl rfl rfl rfl (.refl _) (.move rfl) ?_
     refine .sg rfl rfl rfl rfl rfl rfl ?_
     refine .sg rfl rfl rfl rfl rfl rfl ?_
     refine .sg rfl rfl rfl rfl rfl rfl ?_
     refine .sg rfl rfl rfl rfl rfl rfl ?_
     refine .sg rfl rfl rfl rfl rfl rfl ?_
     refine .sg rfl rfl rfl rfl rfl rfl ?_
     refine .sg rfl rfl rfl rfl rfl rfl ?_
     refine .sg rfl rfl rfl rfl rfl rfl ?_
     refine .sg rfl rfl rfl rfl rfl rfl ?_
     refine .sg rfl rfl rfl rfl rfl rfl ?_
     refine .sg rfl rfl rfl rfl rfl rfl ?_
     refine .m rfl rfl rfl rfl (.refl _) (.pickT rfl rfl) ?_
     refine .done ?_
     refine hK3 _ _ ?_
     refine .condT rfl ?_
     refine .seq (fun K6 hK6 => ?_)
     refine .region ?_
     refine .m rfl rfl rfl (.assign rfl) ?_
     refine .nil ?_
     refine hK6 _ _ ?_
     refine .ret ?_
     -- leaf e3
     refine hret _ _ ?_
     refine ⟨_, rfl, ?_⟩
     first
     | exact .of (congrArg _ (B_false fun e => by subst e; first | omega | simp_all))
     | exact .of (congrArg _ (B_true (Cat.eq_iff.2 ⟨by assumption, by assumption, by assumption, by assumption, eqss_of_getD (by omega) fun i hi => hall i (by omega)⟩)))
    ·
     try simp only [sps] at h39
     refine .mg rfl rfl rfl rfl rfl rfl (.refl _) (.move rfl) ?_
     refine .mg rfl rfl rfl rfl rfl rfl (.refl _) (.nilCheck rfl) ?_
     refine .mg rfl rfl rfl rfl rfl rfl (.refl _) (.fieldAddr fo_37_3_B rfl) ?_
     refine .mg rfl rfl rfl rfl rfl rfl (.refl _) (.load on_22_B rfl (by assumption)) ?_
     refine .mg rfl rfl rfl rfl rfl rfl (.refl _) (.move rfl) ?_
     refine .mg rfl rfl rfl rfl rfl rfl (.refl _) (.nilCheck rfl) ?_
     refine .mg rfl rfl rfl rfl rfl rfl (.refl _) (.fieldAddr fo_37_3_B rfl) ?_
     refine .mg rfl rfl rfl rfl rfl rfl (.refl _) (.load on_22_B rfl (by assumption)) ?_
     refine .callQ0g rfl rfl rfl rfl rfl rfl rfl @Try.call89 rfl (same_c) ?_
     refine .mg rfl rfl rfl rfl rfl rfl (.refl _) (.not rfl) ?_
     refine .m rfl rfl rfl rfl (.refl _) (.pickF rfl rfl) ?_
     refine .m rfl rfl rfl rfl (.refl _) (.move rfl) ?_
     refine .split (fun h51 => ?_) (fun h51 => ?_)
     ·
      try simp only [sps] at h51
      refine .sg rfl rfl rfl rfl rfl rfl ?_
      refine .sg rfl rfl rfl rfl rfl rfl ?_
      refine .sg rfl rfl rfl rfl rfl rfl ?_
      refine .sg rfl rfl rfl rfl rfl rfl ?_
      refine .sg rfl rfl rfl rfl rfl rfl ?_
      refine .sg rfl rfl rfl rfl rfl rfl ?_
      refine .sg rfl rfl rfl rfl rfl rfl ?_
      refine .sg rfl rfl rfl rfl rfl rfl ?_
      refine .sg rfl rfl rfl rfl rfl rfl ?_
      refine .sg rfl rfl rfl rfl rfl rfl ?_
      refine .sg rfl rfl rfl rfl rfl rfl ?_
      refine .m rfl rfl rfl rfl (.refl _) (.pickT rfl rfl) ?_
      refine .done ?_
      refine hK3 _ _ ?_
      refine .condT rfl ?_
      refine .seq (fun K7 hK7 => ?_)
      refine .region ?_
      refine .m rfl rfl rfl (.assign rfl) ?_
      refine .nil ?_
      refine hK7 _ _ ?_
      refine .ret ?_
      -- leaf e4
      refine hret _ _ ?_
      refine ⟨_, rfl, ?_⟩
      first
      | exact .of (congrArg _ (B_false fun e => by subst e; first | omega | simp_all))
      | exact .of (congrArg _ (B_true (Cat.eq_iff.2 ⟨by assumption, by assumption, by assumption, by assumption, eqss_of_getD (by omega) fun i hi => hall i (by omega)⟩)))
     ·
      try simp only [sps] at h51
      refine .mg rfl rfl rfl rfl rfl rfl (.refl _) (.move rfl) ?_
      refine .mg rfl rfl rfl rfl rfl rfl (.refl _) (.nilCheck rfl) ?_
      refine .mg rfl rfl rfl rfl rfl rfl (.refl _) (.fieldAddr fo_37_4_B rfl) ?_
      refine .mg rfl rfl rfl rfl rfl rfl (.refl _) (.load on_23_B rfl (by assumption)) ?_
      refine .mg rfl rfl rfl rfl rfl rfl (.refl _) (.len sl_23_B rfl) ?_
      refine .mg rfl rfl rfl rfl rfl rfl (.refl _) (.move rfl) ?_
      refine .mg rfl rfl rfl rfl rfl rfl (.refl _) (.nilCheck rfl) ?_
      refine .mg rfl rfl rfl rfl rfl rfl (.refl _) (.fieldAddr fo_37_4_B rfl) ?_
      refine .mg rfl rfl rfl rfl rfl rfl (.refl _) (.load on_23_B rfl (by assumption)) ?_
      refine .mg rfl rfl rfl rfl rfl rfl (.refl _) (.len sl_23_B rfl) ?_
      refine .mg rfl rfl rfl rfl rfl rfl (.refl _) (.cmp rfl rfl rfl) ?_
      refine .m rfl rfl rfl rfl (.refl _) (.pickF rfl rfl) ?_
      refine .done ?_
      refine hK3 _ _ ?_
      refine .cond rfl (fun h63 => ?_) (fun h63 => ?_)
      ·
       try simp only [sps] at h63
       refine .seq (fun K8 hK8 => ?_)
       refine .region ?_
       refine .m rfl rfl rfl (.assign rfl) ?_
       refine .nil ?_
       refine hK8 _ _ ?_
       refine .ret ?_
       -- leaf e5
       refine hret _ _ ?_
       refine ⟨_, rfl, ?_⟩
       first
       | exact .of (congrArg _ (B_false fun e => by subst e; first | omega | simp_all))
       | exact .of (congrArg _ (B_true (Cat.eq_iff.2 ⟨by assumption, by assumption, by assumption, by assumption, eqss_of_getD (by omega) fun i hi => hall i (by omega)⟩)))
      ·
       try simp only [sps] at h63
       refine .skip ?_
       refine hK2 _ _ ?_
       refine .seq (fun K9 hK9 => ?_)
       refine .seq (fun K10 hK10 => ?_)
       refine .region ?_
       refine .m rfl rfl rfl (.move rfl) ?_
       refine .m rfl rfl rfl (.nilCheck rfl) ?_
       refine .m rfl rfl rfl (.fieldAddr fo_37_4_B rfl) ?_
       refine .m rfl rfl rfl (.load on_23_B rfl (by assumption)) ?_
       refine .m rfl rfl rfl (.len sl_23_B rfl) ?_
       refine .m rfl rfl rfl (.move rfl) ?_
       refine .nil ?_
       refine hK10 _ _ ?_
       refine .block ?_
       refine .loopR (σ := Nat) [(0, some _), (1, some _), (68, some _)] (fun k => [(69, some (.int .i64 (k : Int)))]) (fun k H' => H = H' ∧ k ≤ c.comp.length ∧ ∀ i, i < k → c.comp.getD i [] = d.comp.getD i []) (fun k => c.comp.length - k) (0) ⟨rfl, rfl, rfl, trivial⟩ ⟨rfl, trivial⟩ ?_ ?_
       ·
        refine ⟨rfl, ?_⟩
        exact ⟨by omega, fun i hi => by omega⟩
       ·
        rintro k _ ⟨rfl, hI⟩ KL1 hKL1
        refine .forget (fr' := [(69, some (.int .i64 (k : Int))), (0, some _), (1, some _), (68, some _)]) ⟨rfl, rfl, rfl, rfl, trivial⟩ ?_
        obtain ⟨hk, hall⟩ := hI
        refine .seq (fun K11 hK11 => ?_)
        refine .region ?_
        refine .m rfl rfl rfl (.cmp rfl rfl rfl) ?_
        refine .nil ?_
        refine hK11 _ _ ?_
        refine .seq (fun K12 hK12 => ?_)
        refine .cond rfl (fun h70 => ?_) (fun h70 => ?_)
        ·
         try simp only [sps] at h70
         refine .skip ?_
         refine hK12 _ _ ?_
         refine .seq (fun K13 hK13 => ?_)
         refine .block ?_
         refine .seq (fun K14 hK14 => ?_)
         refine .region ?_
         refine .m rfl rfl rfl (.move rfl) ?_
         refine .m rfl rfl rfl (.assign rfl) ?_
         refine .nil ?_
         refine hK14 _ _ ?_
         refine .seq (fun K15 hK15 => ?_)
         refine .regionD mixed_orders_B (.q 0 (.q 1 (.q 2 (.q 3 (.q 4 (.q 5 (.q 6 (.q 7 (.q 8 (.q 9 (.q 10 (.q 11 (.q 12 (.q 13 (.c 14 0 (.q 15 (.done))))))))))))))))) (by kernel_rfl) ?_
         have q1 := s5 k
         have q2 := t5 k
         have q3 := i4.2 k (by omega)
         have q4 := j4.2 k (by omega)
         refine .m rfl rfl rfl rfl (.refl _) (.move rfl) ?_
         refine .m rfl rfl rfl rfl (.refl _) (.nilCheck rfl) ?_
         refine .m rfl rfl rfl rfl (.refl _) (.fieldAddr fo_37_4_B rfl) ?_
         refine .m rfl rfl rfl rfl (.refl _) (.load on_23_B rfl (by assumption)) ?_
         refine .m rfl rfl rfl rfl (.refl _) (.move rfl) ?_
         refine .m rfl rfl rfl rfl (.refl _) (.idxN sl_23_B (Intss.sl (by assumption)) rfl rfl (by omega)) ?_
         refine .m rfl rfl rfl rfl (.refl _) (.loadR on_22_B (by assumption) rfl (by omega)) ?_
         refine .m rfl rfl rfl rfl (.refl _) (.move rfl) ?_
         refine .m rfl rfl rfl rfl (.refl _) (.nilCheck rfl) ?_
         refine .m rfl rfl rfl rfl (.refl _) (.fieldAddr fo_37_4_B rfl) ?_
         refine .m rfl rfl rfl rfl (.refl _) (.load on_23_B rfl (by assumption)) ?_
         refine .m rfl rfl rfl rfl (.refl _) (.move rfl) ?_
         refine .m rfl rfl rfl rfl (.refl _) (.idxN sl_23_B (Intss.sl (by assumption)) rfl rfl (by omega)) ?_
         refine .m rfl rfl rfl rfl (.refl _) (.loadR on_22_B (by assumption) rfl (by omega)) ?_
         refine .callQ0 rfl rfl rfl rfl rfl @Try.call89 rfl (same_c) ?_
         refine .m rfl rfl rfl rfl (.refl _) (.not rfl) ?_
         refine .done ?_
         refine hK15 _ _ ?_
         refine .cond rfl (fun h87 => ?_) (fun h87 => ?_)
         ·
          try simp only [sps] at h87
          refine .seq (fun K16 hK16 => ?_)
          refine .region ?_
          refine .m rfl rfl rfl (.assign rfl) ?_
          refine .nil ?_
          refine hK16 _ _ ?_
          refine .ret ?_
          -- leaf e6
          refine hret _ _ ?_
          refine ⟨_, rfl, ?_⟩
          first
          | exact .of (congrArg _ (B_false fun e => by subst e; first | omega | simp_all))
          | exact .of (congrArg _ (B_true (Cat.eq_iff.2 ⟨by assumption, by assumption, by assumption, by assumption, eqss_of_getD (by omega) fun i hi => hall i (by omega)⟩)))
         ·
          try simp only [sps] at h87
          refine .skip ?_
          refine hK13 _ _ ?_
          refine .region ?_
          refine .m rfl rfl rfl (.add rfl rfl rfl (by omega) (by omega)) ?_
          refine .m rfl rfl rfl (.move rfl) ?_
          refine .nil ?_
          refine hKL1 (k + 1) _ _ ?_ ?_ ⟨rfl, rfl, rfl, rfl, trivial⟩
          ·
           refine ⟨rfl, ?_⟩
           refine ⟨by omega, fun i hi => ?_⟩
           by_cases e : i < k
           · exact hall i e
           · obtain rfl : i = k := by omega
             assumption
          ·
           omega
        ·
         try simp only [sps] at h70
         refine .exit ?_
         refine hK9 _ _ ?_
         refine .seq (fun K17 hK17 => ?_)
         refine .region ?_
         refine .m rfl rfl rfl (.assign rfl) ?_
         refine .nil ?_
         refine hK17 _ _ ?_
         refine .ret ?_
         -- leaf e7
         refine hret _ _ ?_
         refine ⟨_, rfl, ?_⟩
         first
         | exact .of (congrArg _ (B_false fun e => by subst e; first | omega | simp_all))
         | exact .of (congrArg _ (B_true (Cat.eq_iff.2 ⟨by assumption, by assumption, by assumption, by assumption, eqss_of_getD (by omega) fun i hi => hall i (by omega)⟩)))
theorem l02Same_c {c d : Cat} {p p' : CatP} {H : GHeap} (hin : c.In H p := by assumption) (hin' : d.In H p' := by assumption) (hs : c.Small := by assumption) (hs' : d.Small := by assumption) :
    GCalls Try.prog 79 [.agg (c.cells p).toArray, .agg (d.cells p').toArray] H (Ret (.bool (B (c = d))) H) := by
  refine GCalls.ret rfl ?_
  obtain ⟨s1, s2, s3, s4, s5, s6⟩ := hs
  obtain ⟨t1, t2, t3, t4, t5, t6⟩ := hs'
  refine GCalls.body (N := 38) (rs := [.tmp 4]) Try.func79 rfl rfl rfl rfl (fun Qx hret hend => ?_)
  refine .forget (fr' := [(0, some _), (1, some _)]) ⟨rfl, rfl, trivial⟩ ?_
  refine .seq (fun K1 hK1 => ?_)
  refine .region ?_
  refine .d rfl rfl rfl (.box rfl sz_37_D rfl CIs.mk) ?_
  show GRun _ _ _ _ _ _ (H.push (.row (c.cells p) 37 true))
  have hle := GHeap.le_push H (.row (c.cells p) 37 true)
  have hb : Cat.At (H.push (.row (c.cells p) 37 true)) H.next 0 c p := ⟨Mem.new _ _ _ _, hin.mono hle⟩
  generalize H.push (.row (c.cells p) 37 true) = H1 at *
  refine .d rfl rfl rfl (.box rfl sz_37_D rfl CIs.mk) ?_
  show GRun _ _ _ _ _ _ (H1.push (.row (d.cells p') 37 true))
  have hle1 := GHeap.le_push H1 (.row (d.cells p') 37 true)
  have hb' : Cat.At (H1.push (.row (d.cells p') 37 true)) H1.next 0 d p' := ⟨Mem.new _ _ _ _, (hin'.mono hle).mono hle1⟩
  replace hb := hb.mono hle1
  replace hle := hle.trans hle1
  generalize H1.push (.row (d.cells p') 37 true) = H2 at *
  obtain ⟨c0, c1, c2, c3, c4, i1, i2, i3, i4⟩ := hb.get
  obtain ⟨d0, d1, d2, d3, d4, j1, j2, j3, j4⟩ := hb'.get
  refine .m rfl rfl rfl (.assign rfl) ?_
  refine .nil ?_
  refine hK1 _ _ ?_
  refine .seq (fun K2 hK2 => ?_)
  refine .region ?_
  refine .m rfl rfl rfl (.fieldAddr fo_37_0_B rfl) ?_
  refine .m rfl rfl rfl (.load on_2_A rfl (by assumption)) ?_
  refine .m rfl rfl rfl (.fieldAddr fo_37_0_B rfl) ?_
  refine .m rfl rfl rfl (.load on_2_A rfl (by assumption)) ?_
  refine .m rfl rfl rfl (.cmp rfl rfl rfl) ?_
  refine .m rfl rfl rfl (.move rfl) ?_
  refine .split (fun h10 => ?_) (fun h10 => ?_)
  ·
   try simp only [sps] at h10
   refine .mg rfl rfl rfl rfl rfl (.fieldAddr fo_37_1_B rfl) ?_
   refine .mg rfl rfl rfl rfl rfl (.load on_22_B rfl (by assumption)) ?_
   refine .mg rfl rfl rfl rfl rfl (.fieldAddr fo_37_1_B rfl) ?_
   refine .mg rfl rfl rfl rfl rfl (.load on_22_B rfl (by assumption)) ?_
   refine .callQg rfl rfl rfl rfl rfl rfl @Try.call87 rfl (l01Same_c) ?_
   refine .m rfl rfl rfl (.pickT rfl rfl) ?_
   refine .m rfl rfl rfl (.move rfl) ?_
   refine .split (fun h17 => ?_) (fun h17 => ?_)
   ·
    try simp only [sps] at h17
    refine .mg rfl rfl rfl rfl rfl (.fieldAddr fo_37_2_B rfl) ?_
    refine .mg rfl rfl rfl rfl rfl (.load on_22_B rfl (by assumption)) ?_
    refine .mg rfl rfl rfl rfl rfl (.fieldAddr fo_37_2_B rfl) ?_
    refine .mg rfl rfl rfl rfl rfl (.load on_22_B rfl (by assumption)) ?_
    refine .callQg rfl rfl rfl rfl rfl rfl @Try.call87 rfl (l01Same_c) ?_
    refine .m rfl rfl rfl (.pickT rfl rfl) ?_
    refine .m rfl rfl rfl (.move rfl) ?_
    refine .split (fun h24 => ?_) (fun h24 => ?_)
    ·
     try simp only [sps] at h24
     refine .mg rfl rfl rfl rfl rfl (.fieldAddr fo_37_3_B rfl) ?_
     refine .mg rfl rfl rfl rfl rfl (.load on_22_B rfl (by assumption)) ?_
     refine .mg rfl rfl rfl rfl rfl (.fieldAddr fo_37_3_B rfl) ?_
     refine .mg rfl rfl rfl rfl rfl (.load on_22_B rfl (by assumption)) ?_
     refine .callQg rfl rfl rfl rfl rfl rfl @Try.call87 rfl (l01Same_c) ?_
     refine .m rfl rfl rfl (.pickT rfl rfl) ?_
     refine .m rfl rfl rfl (.move rfl) ?_
     refine .split (fun h31 => ?_) (fun h31 => ?_)
     ·
      try simp only [sps] at h31
      refine .mg rfl rfl rfl rfl rfl (.fieldAddr fo_37_4_B rfl) ?_
      refine .mg rfl rfl rfl rfl rfl (.load on_23_B rfl (by assumption)) ?_
      refine .mg rfl rfl rfl rfl rfl (.fieldAddr fo_37_4_B rfl) ?_
      refine .mg rfl rfl rfl rfl rfl (.load on_23_B rfl (by assumption)) ?_
      refine .callQg rfl rfl rfl rfl rfl rfl @Try.call88 rfl (l01Same2_c) ?_
      refine .m rfl rfl rfl (.pickT rfl rfl) ?_
      refine .m rfl rfl rfl (.assign rfl) ?_
      refine .nil ?_
      refine hK2 _ _ ?_
      refine .ret ?_
      -- leaf e1
      refine hret _ _ ?_
      refine ⟨_, rfl, ?_⟩
      first
      | exact ⟨congrArg _ (B_false fun e => by subst e; first | omega | simp_all), hle⟩
      | exact ⟨congrArg _ (by rw [Bool.eq_iff_iff, B_iff, Cat.eq_iff]; simp_all), hle⟩
     ·
      try simp only [sps] at h31
      refine .sg rfl rfl rfl rfl rfl ?_
      refine .sg rfl rfl rfl rfl rfl ?_
      refine .sg rfl rfl rfl rfl rfl ?_
      refine .sg rfl rfl rfl rfl rfl ?_
      refine .sg rfl rfl rfl rfl rfl ?_
      refine .m rfl rfl rfl (.pickF rfl rfl) ?_
      refine .m rfl rfl rfl (.assign rfl) ?_
      refine .nil ?_
      refine hK2 _ _ ?_
      refine .ret ?_
      -- leaf e2
      refine hret _ _ ?_
      refine ⟨_, rfl, ?_⟩
      first
      | exact ⟨congrArg _ (B_false fun e => by subst e; first | omega | simp_all), hle⟩
      | exact ⟨congrArg _ (by rw [Bool.eq_iff_iff, B_iff, Cat.eq_iff]; simp_all), hle⟩
    ·
     try simp only [sps] at h24
     refine .sg rfl rfl rfl rfl rfl ?_
     refine .sg rfl rfl rfl rfl rfl ?_
     refine .sg rfl rfl rfl rfl rfl ?_
     refine .sg rfl rfl rfl rfl rfl ?_
     refine .sg rfl rfl rfl rfl rfl ?_
     refine .m rfl rfl rfl (.pickF rfl rfl) ?_
     refine .m rfl rfl rfl (.move rfl) ?_
     refine .sg rfl rfl rfl rfl rfl ?_
     refine .sg rfl rfl rfl rfl rfl ?_
     refine .sg rfl rfl rfl rfl rfl ?_
     refine .sg rfl rfl rfl rfl rfl ?_
     refine .sg rfl rfl rfl rfl rfl ?_
     refine .m rfl rfl rfl (.pickF rfl rfl) ?_
     refine .m rfl rfl rfl (.assign rfl) ?_
     refine .nil ?_
     refine hK2 _ _ ?_
     refine .ret ?_
     -- leaf e3
     refine hret _ _ ?_
     refine ⟨_, rfl, ?_⟩
     first
     | exact ⟨congrArg _ (B_false fun e => by subst e; first | omega | simp_all), hle⟩
     | exact ⟨congrArg _ (by rw [Bool.eq_iff_iff, B_iff, Cat.eq_iff]; simp_all), hle⟩
   ·
    try simp only [sps] at h17
    refine .sg rfl rfl rfl rfl rfl ?_
    refine .sg rfl rfl rfl rfl rfl ?_
    refine .sg rfl rfl rfl rfl rfl ?_
    refine .sg rfl rfl rfl rfl rfl ?_
    refine .sg rfl rfl rfl rfl rfl ?_
    refine .m rfl rfl rfl (.pickF rfl rfl) ?_
    refine .m rfl rfl rfl (.move rfl) ?_
    refine .sg rfl rfl rfl rfl rfl ?_
    refine .sg rfl rfl rfl rfl rfl ?_
    refine .sg rfl rfl rfl rfl rfl ?_
    refine .sg rfl rfl rfl rfl rfl ?_
    refine .sg rfl rfl rfl rfl rfl ?_
    refine .m rfl rfl rfl (.pickF rfl rfl) ?_
    refine .m rfl rfl rfl (.move rfl) ?_
    refine .sg rfl rfl rfl rfl rfl ?_
    refine .sg rfl rfl rfl rfl rfl ?_
    refine .sg rfl rfl rfl rfl rfl ?_
    refine .sg rfl rfl rfl rfl rfl ?_
    refine .sg rfl rfl rfl rfl rfl ?_
    refine .m rfl rfl rfl (.pickF rfl rfl) ?_
    refine .m rfl rfl rfl (.assign rfl) ?_
    refine .nil ?_
    refine hK2 _ _ ?_
    refine .ret ?_
    -- leaf e4
    refine hret _ _ ?_
    refine ⟨_, rfl, ?_⟩
    first
    | exact ⟨congrArg _ (B_false fun e => by subst e; first | omega | simp_all), hle⟩
    | exact ⟨congrArg _ (by rw [Bool.eq_iff_iff, B_iff, Cat.eq_iff]; simp_all), hle⟩
  ·
   try simp only [sps] at h10
   refine .sg rfl rfl rfl rfl rfl ?_
   refine .sg rfl rfl rfl rfl rfl ?_
   refine .sg rfl rfl rfl rfl rfl ?_
   refine .sg rfl rfl rfl rfl rfl ?_
   refine .sg rfl rfl rfl rfl rfl ?_
   refine .m rfl rfl rfl (.pickF rfl rfl) ?_
   refine .m rfl rfl rfl (.move rfl) ?_
   refine .sg rfl rfl rfl rfl rfl ?_
   refine .sg rfl rfl rfl rfl rfl ?_
   refine .sg rfl rfl rfl rfl rfl ?_
   refine .sg rfl rfl rfl rfl rfl ?_
   refine .sg rfl rfl rfl rfl rfl ?_
   refine .m rfl rfl rfl (.pickF rfl rfl) ?_
   refine .m rfl rfl rfl (.move rfl) ?_
   refine .sg rfl rfl rfl rfl rfl ?_
   refine .sg rfl rfl rfl rfl rfl ?_
   refine .sg rfl rfl rfl rfl rfl ?_
   refine .sg rfl rfl rfl rfl rfl ?_
   refine .sg rfl rfl rfl rfl rfl ?_
   refine .m rfl rfl rfl (.pickF rfl rfl) ?_
   refine .m rfl rfl rfl (.move rfl) ?_
   refine .sg rfl rfl rfl rfl rfl ?_
   refine .sg rfl rfl rfl rfl rfl ?_
   refine .sg rfl rfl rfl rfl rfl ?_
   refine .sg rfl rfl rfl rfl rfl ?_
   refine .sg rfl rfl rfl rfl rfl ?_
   refine .m rfl rfl rfl (.pickF rfl rfl) ?_
   refine .m rfl rfl rfl (.assign rfl) ?_
   refine .nil ?_
   refine hK2 _ _ ?_
   refine .ret ?_
   -- leaf e5
   refine hret _ _ ?_
   refine ⟨_, rfl, ?_⟩
   first
   | exact ⟨congrArg _ (B_false fun e => by subst e; first | omega | simp_all), hle⟩
   | exact ⟨congrArg _ (by rw [Bool.eq_iff_iff, B_iff, Cat.eq_iff]; simp_all), hle⟩
end Go.Proofs.Ytbpehbbdodahaaa
/- Functors, in the program. No condition but those of each statement. -/
namespace Go.Proofs.Ytbpehbbdodahaaa
open Go Go.GL Go.RowKit Go.Proofs
theorem two_sl {H : GHeap} {e : TypeId} {own : Bool} {g1 o1 g2 o2 k : Nat} (h : H.get k = some (.row [.pointer (some ⟨g1, o1, none⟩), .pointer (some ⟨g2, o2, none⟩)] e own)) :
    SlA H (some ⟨k, 0, none⟩) 2 (fun i => .pointer (some ⟨(if i = 0 then g1 else g2), (if i = 0 then o1 else o2), none⟩)) := by
  refine .inr ⟨k, 0, rfl, fun i hi => ?_⟩
  rw [GHeap.cell_of h, Nat.zero_add]
  match i, hi with
  | 0, _ => rfl
  | 1, _ => rfl
end Go.Proofs.Ytbpehbbdodahaaa
/- Set functors, in the program. No condition but those of each statement. -/
namespace Go.Proofs.Ytbpehbbdodahaaa
open Go Go.GL Go.RowKit Go.Proofs
theorem fo_39_0_P : fieldOff Try.prog 39 0 = some 0 := by kernel_rfl
theorem fo_39_1_P : fieldOff Try.prog 39 1 = some 5 := by kernel_rfl
theorem fo_39_2_P : fieldOff Try.prog 39 2 = some 6 := by kernel_rfl
theorem sl_102_P : sliceT Try.prog 102 = some (71, 1) := by kernel_rfl
theorem on_71_P : oneT Try.prog 71 = true := by kernel_rfl
theorem isMapOf_c {a : Option Addr} {xs : List Int} {m n : Int} {H : GHeap} (h : Ints H a xs := by assumption) (hn : -9223372036854775808 < n := by omega) (hn' : n ≤ 9223372036854775807 := by omega) (hl : xs.length ≤ 1048576 := by omega) :
    GCalls Try.prog 90 [.slice a xs.length xs.length, .int .i64 m, .int .i64 n] H (Ret (.bool (B ((xs.length : Int) = m ∧ allIn xs n = true))) H) := by
  refine GCalls.body (N := 16) (rs := [.tmp 6]) Try.func90 rfl rfl rfl rfl (fun Qx hret hend => ?_)
  refine .forget (fr' := [(0, some _), (1, some _), (2, some _)]) ⟨rfl, rfl, rfl, trivial⟩ ?_
  refine .seq (fun K1 hK1 => ?_)
  refine .region ?_
  refine .m rfl rfl rfl (.assign rfl) ?_
  refine .nil ?_
  refine hK1 _ _ ?_
  refine .seq (fun K2 hK2 => ?_)
  refine .region ?_
  refine .m rfl rfl rfl (.move rfl) ?_
  refine .m rfl rfl rfl (.len sl_22_A rfl) ?_
  refine .m rfl rfl rfl (.move rfl) ?_
  refine .m rfl rfl rfl (.cmp rfl rfl rfl) ?_
  refine .m rfl rfl rfl (.move rfl) ?_
  refine .split (fun h11 => ?_) (fun h11 => ?_)
  ·
   simp only [beq_iff_eq, beq_eq_false_iff_ne] at h11
   refine .mg rfl rfl rfl rfl rfl (.move rfl) ?_
   refine .mg rfl rfl rfl rfl rfl (.move rfl) ?_
   refine .callQg rfl rfl rfl rfl rfl rfl @Try.call64 rfl (within_c) ?_
   refine .m rfl rfl rfl (.pickT rfl rfl) ?_
   refine .m rfl rfl rfl (.assign rfl) ?_
   refine .nil ?_
   refine hK2 _ _ ?_
   refine .ret ?_
   -- leaf e1
   refine hret _ _ ?_
   refine ⟨_, rfl, ?_⟩
   first
   | exact .of (congrArg _ (B_false fun hh => h11 hh.1))
   | exact .of (congrArg _ (by rw [Bool.eq_iff_iff, B_iff]; exact ⟨fun hh => hh.2, fun hh => ⟨h11, hh⟩⟩))
  ·
   simp only [beq_iff_eq, beq_eq_false_iff_ne] at h11
   refine .sg rfl rfl rfl rfl rfl ?_
   refine .sg rfl rfl rfl rfl rfl ?_
   refine .sg rfl rfl rfl rfl rfl ?_
   refine .m rfl rfl rfl (.pickF rfl rfl) ?_
   refine .m rfl rfl rfl (.assign rfl) ?_
   refine .nil ?_
   refine hK2 _ _ ?_
   refine .ret ?_
   -- leaf e2
   refine hret _ _ ?_
   refine ⟨_, rfl, ?_⟩
   first
   | exact .of (congrArg _ (B_false fun hh => h11 hh.1))
   | exact .of (congrArg _ (by rw [Bool.eq_iff_iff, B_iff]; exact ⟨fun hh => hh.2, fun hh => ⟨h11, hh⟩⟩))
theorem sfShape_c {g o : Nat} {f : SFun} {p : SFunP} {H : GHeap} (h : SFun.At H g o f p := by assumption) (hs : f.Small := by assumption) : GCalls Try.prog 91 [.pointer (some ⟨g, o, none⟩)] H (Ret (.bool (B f.Shape)) H) := by
  refine GCalls.body (N := 82) (rs := [.tmp 2]) Try.func91 rfl rfl rfl rfl (fun Qx hret hend => ?_)
  refine .forget (fr' := [(0, some _)]) ⟨rfl, trivial⟩ ?_
  have hle := GHeap.Le.refl H
  have base_h := h
  obtain ⟨fsh, c5, c6, i1, i2⟩ := h.get
  have hm : MemN _ _ _ _ _ := ⟨rfl, h.1⟩
  have hi := h.2
  have hmsh : MemN _ _ _ _ _ := ⟨rfl, fsh.1⟩
  have hish := fsh.2
  obtain ⟨c0, c1, c2, c3, c4, d1, d2, d3, d4⟩ := fsh.get
  obtain ⟨s1, s2, s3, s4⟩ := hs
  refine .seq (fun K1 hK1 => ?_)
  refine .region ?_
  refine .m rfl rfl rfl (.assign rfl) ?_
  refine .nil ?_
  refine hK1 _ _ ?_
  refine .seq (fun K2 hK2 => ?_)
  refine .region ?_
  refine .m rfl rfl rfl (.move rfl) ?_
  refine .m rfl rfl rfl (.nilCheck rfl) ?_
  refine .m rfl rfl rfl (.fieldAddr fo_39_0_P rfl) ?_
  refine .m rfl rfl rfl (.assign rfl) ?_
  refine .nil ?_
  refine hK2 _ _ ?_
  refine .seq (fun K3 hK3 => ?_)
  refine .seq (fun K4 hK4 => ?_)
  refine .regionD mixed_orders_B (.q 0 (.c 1 0 (.q 2 (.q 3 (.q 4 (.q 5 (.q 6 (.q 7 (.q 8 (.q 9 (.q 10 (.q 11 (.q 12 (.q 13 (.q 14 (.q 15 (.q 16 (.q 17 (.q 18 (.q 19 (.c 20 0 (.q 21 (.q 22 (.q 23 (.q 24 (.q 25 (.q 26 (.q 27 (.q 28 (.q 29 (.c 30 1 (.q 31 (.q 32 (.done)))))))))))))))))))))))))))))))))) (by kernel_rfl) ?_
  refine .m rfl rfl rfl rfl (.refl _) (.move rfl) ?_
  refine .callQ0 rfl rfl rfl rfl rfl @Try.call96 rfl (isCategory_c) ?_
  refine .m rfl rfl rfl rfl (.refl _) (.not rfl) ?_
  refine .m rfl rfl rfl rfl (.refl _) (.move rfl) ?_
  refine .split (fun h12 => ?_) (fun h12 => ?_)
  ·
   try simp only [sps] at h12
   refine .sg rfl rfl rfl rfl rfl rfl ?_
   refine .sg rfl rfl rfl rfl rfl rfl ?_
   refine .sg rfl rfl rfl rfl rfl rfl ?_
   refine .sg rfl rfl rfl rfl rfl rfl ?_
   refine .sg rfl rfl rfl rfl rfl rfl ?_
   refine .sg rfl rfl rfl rfl rfl rfl ?_
   refine .sg rfl rfl rfl rfl rfl rfl ?_
   refine .sg rfl rfl rfl rfl rfl rfl ?_
   refine .sg rfl rfl rfl rfl rfl rfl ?_
   refine .sg rfl rfl rfl rfl rfl rfl ?_
   refine .m rfl rfl rfl rfl (.refl _) (.pickT rfl rfl) ?_
   refine .m rfl rfl rfl rfl (.refl _) (.move rfl) ?_
   refine .sg rfl rfl rfl rfl rfl rfl ?_
   refine .sg rfl rfl rfl rfl rfl rfl ?_
   refine .sg rfl rfl rfl rfl rfl rfl ?_
   refine .sg rfl rfl rfl rfl rfl rfl ?_
   refine .sgc rfl rfl rfl rfl rfl rfl ?_
   refine .sg rfl rfl rfl rfl rfl rfl ?_
   refine .m rfl rfl rfl rfl (.refl _) (.pickT rfl rfl) ?_
   refine .m rfl rfl rfl rfl (.refl _) (.move rfl) ?_
   refine .sg rfl rfl rfl rfl rfl rfl ?_
   refine .sg rfl rfl rfl rfl rfl rfl ?_
   refine .sg rfl rfl rfl rfl rfl rfl ?_
   refine .sg rfl rfl rfl rfl rfl rfl ?_
   refine .sg rfl rfl rfl rfl rfl rfl ?_
   refine .sg rfl rfl rfl rfl rfl rfl ?_
   refine .sgc rfl rfl rfl rfl rfl rfl ?_
   refine .sg rfl rfl rfl rfl rfl rfl ?_
   refine .m rfl rfl rfl rfl (.refl _) (.pickT rfl rfl) ?_
   refine .done ?_
   refine hK4 _ _ ?_
   refine .condT rfl ?_
   refine .seq (fun K5 hK5 => ?_)
   refine .region ?_
   refine .m rfl rfl rfl (.assign rfl) ?_
   refine .nil ?_
   refine hK5 _ _ ?_
   refine .ret ?_
   -- leaf e1
   refine hret _ _ ?_
   refine ⟨_, rfl, ?_⟩
   exact .of (congrArg _ (B_false fun hh => h12 hh.c))
  ·
   try simp only [sps] at h12
   refine .mg rfl rfl rfl rfl rfl rfl (.refl _) (.move rfl) ?_
   refine .mg rfl rfl rfl rfl rfl rfl (.refl _) (.nilCheck rfl) ?_
   refine .mg rfl rfl rfl rfl rfl rfl (.refl _) (.fieldAddr fo_39_1_P rfl) ?_
   refine .mg rfl rfl rfl rfl rfl rfl (.refl _) (.load on_22_B rfl (by assumption)) ?_
   refine .mg rfl rfl rfl rfl rfl rfl (.refl _) (.len sl_22_A rfl) ?_
   refine .mg rfl rfl rfl rfl rfl rfl (.refl _) (.move rfl) ?_
   refine .mg rfl rfl rfl rfl rfl rfl (.refl _) (.nilCheck rfl) ?_
   refine .mg rfl rfl rfl rfl rfl rfl (.refl _) (.fieldAddr fo_37_0_B rfl) ?_
   refine .mg rfl rfl rfl rfl rfl rfl (.refl _) (.load on_2_A rfl (by assumption)) ?_
   refine .mg rfl rfl rfl rfl rfl rfl (.refl _) (.cmp rfl rfl rfl) ?_
   refine .m rfl rfl rfl rfl (.refl _) (.pickF rfl rfl) ?_
   refine .m rfl rfl rfl rfl (.refl _) (.move rfl) ?_
   refine .split (fun h24 => ?_) (fun h24 => ?_)
   ·
    try simp only [sps] at h24
    refine .sg rfl rfl rfl rfl rfl rfl ?_
    refine .sg rfl rfl rfl rfl rfl rfl ?_
    refine .sg rfl rfl rfl rfl rfl rfl ?_
    refine .sg rfl rfl rfl rfl rfl rfl ?_
    refine .sgc rfl rfl rfl rfl rfl rfl ?_
    refine .sg rfl rfl rfl rfl rfl rfl ?_
    refine .m rfl rfl rfl rfl (.refl _) (.pickT rfl rfl) ?_
    refine .m rfl rfl rfl rfl (.refl _) (.move rfl) ?_
    refine .sg rfl rfl rfl rfl rfl rfl ?_
    refine .sg rfl rfl rfl rfl rfl rfl ?_
    refine .sg rfl rfl rfl rfl rfl rfl ?_
    refine .sg rfl rfl rfl rfl rfl rfl ?_
    refine .sg rfl rfl rfl rfl rfl rfl ?_
    refine .sg rfl rfl rfl rfl rfl rfl ?_
    refine .sgc rfl rfl rfl rfl rfl rfl ?_
    refine .sg rfl rfl rfl rfl rfl rfl ?_
    refine .m rfl rfl rfl rfl (.refl _) (.pickT rfl rfl) ?_
    refine .done ?_
    refine hK4 _ _ ?_
    refine .condT rfl ?_
    refine .seq (fun K6 hK6 => ?_)
    refine .region ?_
    refine .m rfl rfl rfl (.assign rfl) ?_
    refine .nil ?_
    refine hK6 _ _ ?_
    refine .ret ?_
    -- leaf e2
    refine hret _ _ ?_
    refine ⟨_, rfl, ?_⟩
    exact .of (congrArg _ (B_false fun hh => h24 hh.zl))
   ·
    try simp only [sps] at h24
    refine .mg rfl rfl rfl rfl rfl rfl (.refl _) (.move rfl) ?_
    refine .mg rfl rfl rfl rfl rfl rfl (.refl _) (.nilCheck rfl) ?_
    refine .mg rfl rfl rfl rfl rfl rfl (.refl _) (.fieldAddr fo_39_1_P rfl) ?_
    refine .mg rfl rfl rfl rfl rfl rfl (.refl _) (.load on_22_B rfl (by assumption)) ?_
    refine .callQ0g rfl rfl rfl rfl rfl rfl rfl @Try.call64 rfl (within_c) ?_
    refine .mg rfl rfl rfl rfl rfl rfl (.refl _) (.not rfl) ?_
    refine .m rfl rfl rfl rfl (.refl _) (.pickF rfl rfl) ?_
    refine .m rfl rfl rfl rfl (.refl _) (.move rfl) ?_
    refine .split (fun h32 => ?_) (fun h32 => ?_)
    ·
     try simp only [sps] at h32
     refine .sg rfl rfl rfl rfl rfl rfl ?_
     refine .sg rfl rfl rfl rfl rfl rfl ?_
     refine .sg rfl rfl rfl rfl rfl rfl ?_
     refine .sg rfl rfl rfl rfl rfl rfl ?_
     refine .sg rfl rfl rfl rfl rfl rfl ?_
     refine .sg rfl rfl rfl rfl rfl rfl ?_
     refine .sgc rfl rfl rfl rfl rfl rfl ?_
     refine .sg rfl rfl rfl rfl rfl rfl ?_
     refine .m rfl rfl rfl rfl (.refl _) (.pickT rfl rfl) ?_
     refine .done ?_
     refine hK4 _ _ ?_
     refine .condT rfl ?_
     refine .seq (fun K7 hK7 => ?_)
     refine .region ?_
     refine .m rfl rfl rfl (.assign rfl) ?_
     refine .nil ?_
     refine hK7 _ _ ?_
     refine .ret ?_
     -- leaf e3
     refine hret _ _ ?_
     refine ⟨_, rfl, ?_⟩
     exact .of (congrArg _ (B_false fun hh => by rw [allIn_iff.2 fun i hi => by have := hh.sz i hi; omega] at h32; cases h32))
    ·
     try simp only [sps] at h32
     refine .mg rfl rfl rfl rfl rfl rfl (.refl _) (.move rfl) ?_
     refine .mg rfl rfl rfl rfl rfl rfl (.refl _) (.nilCheck rfl) ?_
     refine .mg rfl rfl rfl rfl rfl rfl (.refl _) (.fieldAddr fo_39_2_P rfl) ?_
     refine .mg rfl rfl rfl rfl rfl rfl (.refl _) (.load on_23_B rfl (by assumption)) ?_
     refine .mg rfl rfl rfl rfl rfl rfl (.refl _) (.len sl_23_B rfl) ?_
     refine .mg rfl rfl rfl rfl rfl rfl (.refl _) (.move rfl) ?_
     refine .callQ1g rfl rfl rfl rfl rfl rfl rfl @Try.call97 rfl (arrows_c) (.refl _) ?_
     refine .mg rfl rfl rfl rfl rfl rfl (.refl _) (.cmp rfl rfl rfl) ?_
     refine .m rfl rfl rfl rfl (.refl _) (.pickF rfl rfl) ?_
     refine .done ?_
     refine hK4 _ _ ?_
     refine .cond rfl (fun h41 => ?_) (fun h41 => ?_)
     ·
      try simp only [sps] at h41
      refine .seq (fun K8 hK8 => ?_)
      refine .region ?_
      refine .m rfl rfl rfl (.assign rfl) ?_
      refine .nil ?_
      refine hK8 _ _ ?_
      refine .ret ?_
      -- leaf e4
      refine hret _ _ ?_
      refine ⟨_, rfl, ?_⟩
      exact .of (congrArg _ (B_false fun hh => by have := hh.al; omega))
     ·
      try simp only [sps] at h41
      refine .skip ?_
      refine hK3 _ _ ?_
      refine .seq (fun K9 hK9 => ?_)
      refine .seq (fun K10 hK10 => ?_)
      refine .region ?_
      refine .m rfl rfl rfl (.move rfl) ?_
      refine .m rfl rfl rfl (.nilCheck rfl) ?_
      refine .m rfl rfl rfl (.fieldAddr fo_39_2_P rfl) ?_
      refine .m rfl rfl rfl (.load on_23_B rfl (by assumption)) ?_
      refine .m rfl rfl rfl (.len sl_23_B rfl) ?_
      refine .m rfl rfl rfl (.move rfl) ?_
      refine .nil ?_
      refine hK10 _ _ ?_
      refine .block ?_
      have hC := h12
      have hS := hC.1
      have q1 := hS.tl
      have q2 := hS.obj
      refine .loopR (σ := Nat) [(0, some _), (3, some _), (45, some _), (46, some _)] (fun k => [(47, some (.int .i64 (k : Int)))]) (fun k H' => H = H' ∧ (k : Int) ≤ f.ac.length ∧ ∀ a, a < k → f.AcOk a) (fun k => (f.ac.length - k : Int).toNat) (0) ⟨rfl, rfl, rfl, rfl, trivial⟩ ⟨rfl, trivial⟩ ?_ ?_
      ·
       refine ⟨rfl, ?_⟩
       exact ⟨by omega, fun _ _ => by omega⟩
      ·
       rintro k _ ⟨rfl, hI⟩ KL1 hKL1
       refine .forget (fr' := [(47, some (.int .i64 (k : Int))), (0, some _), (3, some _), (45, some _), (46, some _)]) ⟨rfl, rfl, rfl, rfl, rfl, trivial⟩ ?_
       obtain ⟨hk1, ha1⟩ := hI
       refine .seq (fun K11 hK11 => ?_)
       refine .region ?_
       refine .m rfl rfl rfl (.cmp rfl rfl rfl) ?_
       refine .nil ?_
       refine hK11 _ _ ?_
       refine .seq (fun K12 hK12 => ?_)
       refine .cond rfl (fun h48 => ?_) (fun h48 => ?_)
       ·
        simp only [sps] at h48
        have q3 := hS.src k (by omega)
        have q4 := hS.tgt k (by omega)
        have q5 := h32 (f.sh.tgt.getD k 0).toNat (by omega)
        have q6 := i2.2 k (by omega)
        have q7 := s4 k
        refine .skip ?_
        refine hK12 _ _ ?_
        refine .seq (fun K13 hK13 => ?_)
        refine .block ?_
        refine .seq (fun K14 hK14 => ?_)
        refine .region ?_
        refine .m rfl rfl rfl (.move rfl) ?_
        refine .m rfl rfl rfl (.idxN sl_23_B (Intss.sl (by assumption)) rfl rfl (by omega)) ?_
        refine .m rfl rfl rfl (.loadR on_22_B (by assumption) rfl (by omega)) ?_
        refine .m rfl rfl rfl (.assign rfl) ?_
        refine .m rfl rfl rfl (.assign rfl) ?_
        refine .nil ?_
        refine hK14 _ _ ?_
        refine .seq (fun K15 hK15 => ?_)
        refine .regionD mixed_orders_B (.q 0 (.q 1 (.q 2 (.q 3 (.q 4 (.q 5 (.q 6 (.q 7 (.q 8 (.q 9 (.q 10 (.q 11 (.q 12 (.q 13 (.q 14 (.q 15 (.q 16 (.q 17 (.q 18 (.q 19 (.q 20 (.q 21 (.q 22 (.q 23 (.q 24 (.q 25 (.q 26 (.c 27 0 (.q 28 (.done)))))))))))))))))))))))))))))) (by kernel_rfl) ?_
        refine .m rfl rfl rfl rfl (.refl _) (.move rfl) ?_
        refine .m rfl rfl rfl rfl (.refl _) (.move rfl) ?_
        refine .m rfl rfl rfl rfl (.refl _) (.nilCheck rfl) ?_
        refine .m rfl rfl rfl rfl (.refl _) (.fieldAddr fo_39_1_P rfl) ?_
        refine .m rfl rfl rfl rfl (.refl _) (.load on_22_B rfl (by assumption)) ?_
        refine .m rfl rfl rfl rfl (.refl _) (.move rfl) ?_
        refine .m rfl rfl rfl rfl (.refl _) (.nilCheck rfl) ?_
        refine .m rfl rfl rfl rfl (.refl _) (.fieldAddr fo_37_1_B rfl) ?_
        refine .m rfl rfl rfl rfl (.refl _) (.load on_22_B rfl (by assumption)) ?_
        refine .m rfl rfl rfl rfl (.refl _) (.move rfl) ?_
        refine .m rfl rfl rfl rfl (.refl _) (.idxN sl_22_A (by assumption) rfl rfl (by omega)) ?_
        refine .m rfl rfl rfl rfl (.refl _) (.loadI on_2_A (by assumption) rfl (by omega)) ?_
        refine .m rfl rfl rfl rfl (.refl _) (.idx1 sl_22_A (by assumption) rfl rfl (by omega) (by omega)) ?_
        refine .m rfl rfl rfl rfl (.refl _) (.loadI on_2_A (by assumption) rfl (by omega)) ?_
        refine .m rfl rfl rfl rfl (.refl _) (.move rfl) ?_
        refine .m rfl rfl rfl rfl (.refl _) (.nilCheck rfl) ?_
        refine .m rfl rfl rfl rfl (.refl _) (.fieldAddr fo_39_1_P rfl) ?_
        refine .m rfl rfl rfl rfl (.refl _) (.load on_22_B rfl (by assumption)) ?_
        refine .m rfl rfl rfl rfl (.refl _) (.move rfl) ?_
        refine .m rfl rfl rfl rfl (.refl _) (.nilCheck rfl) ?_
        refine .m rfl rfl rfl rfl (.refl _) (.fieldAddr fo_37_2_B rfl) ?_
        refine .m rfl rfl rfl rfl (.refl _) (.load on_22_B rfl (by assumption)) ?_
        refine .m rfl rfl rfl rfl (.refl _) (.move rfl) ?_
        refine .m rfl rfl rfl rfl (.refl _) (.idxN sl_22_A (by assumption) rfl rfl (by omega)) ?_
        refine .m rfl rfl rfl rfl (.refl _) (.loadI on_2_A (by assumption) rfl (by omega)) ?_
        refine .m rfl rfl rfl rfl (.refl _) (.idx1 sl_22_A (by assumption) rfl rfl (by omega) (by omega)) ?_
        refine .m rfl rfl rfl rfl (.refl _) (.loadI on_2_A (by assumption) rfl (by omega)) ?_
        refine .callQ0 rfl rfl rfl rfl rfl @Try.call90 rfl (isMapOf_c) ?_
        refine .m rfl rfl rfl rfl (.refl _) (.not rfl) ?_
        refine .done ?_
        refine hK15 _ _ ?_
        refine .cond rfl (fun h80 => ?_) (fun h80 => ?_)
        ·
         simp only [B_iff, B_not, Bool.not_eq_true', Bool.not_eq_false'] at h80
         refine .seq (fun K16 hK16 => ?_)
         refine .region ?_
         refine .m rfl rfl rfl (.assign rfl) ?_
         refine .nil ?_
         refine hK16 _ _ ?_
         refine .ret ?_
         -- leaf e5
         refine hret _ _ ?_
         refine ⟨_, rfl, ?_⟩
         exact .of (congrArg _ (B_false fun hh => h80 (hh.ac k (by omega))))
        ·
         simp only [B_iff, B_not, Bool.not_eq_true', Bool.not_eq_false'] at h80
         refine .skip ?_
         refine hK13 _ _ ?_
         refine .region ?_
         refine .m rfl rfl rfl (.add rfl rfl rfl (by omega) (by omega)) ?_
         refine .m rfl rfl rfl (.move rfl) ?_
         refine .nil ?_
         refine hKL1 (k + 1) _ _ ?_ ?_ ⟨rfl, rfl, rfl, rfl, rfl, trivial⟩
         ·
          refine ⟨rfl, ?_⟩
          refine ⟨by omega, fun a hx => ?_⟩
          by_cases hltq : a < k
          · exact ha1 a hltq
          · obtain rfl : a = k := by omega
            exact h80
         ·
          omega
       ·
        try simp only [sps] at h48
        refine .exit ?_
        refine hK9 _ _ ?_
        refine .seq (fun K17 hK17 => ?_)
        refine .region ?_
        refine .m rfl rfl rfl (.assign rfl) ?_
        refine .nil ?_
        refine hK17 _ _ ?_
        refine .ret ?_
        -- leaf e6
        refine hret _ _ ?_
        refine ⟨_, rfl, ?_⟩
        exact .of (congrArg _ (B_true ⟨hC, h24, fun i hi => by have := h32 i hi; omega, by omega, fun a ha => ha1 a (by omega)⟩))
theorem sfFault_c {g o : Nat} {f : SFun} {p : SFunP} {H : GHeap} (h : SFun.At H g o f p := by assumption) (hS : f.Shape := by assumption) :
    GCalls Try.prog 92 [.pointer (some ⟨g, o, none⟩)] H (fun v H' => (∃ k x y z, v = .tuple #[.int .i64 k, .int .i64 x, .int .i64 y, .int .i64 z] ∧ (k = 0 ↔ f.Laws)) ∧ H' = H) := by
  refine GCalls.body (N := 109) (rs := [.tmp 2, .tmp 3, .tmp 4, .tmp 5]) Try.func92 rfl rfl rfl rfl (fun Qx hret hend => ?_)
  refine .forget (fr' := [(0, some _)]) ⟨rfl, trivial⟩ ?_
  have hle := GHeap.Le.refl H
  have base_h := h
  obtain ⟨fsh, c5, c6, i1, i2⟩ := h.get
  have hm : MemN _ _ _ _ _ := ⟨rfl, h.1⟩
  have hi := h.2
  have hmsh : MemN _ _ _ _ _ := ⟨rfl, fsh.1⟩
  have hish := fsh.2
  obtain ⟨c0, c1, c2, c3, c4, d1, d2, d3, d4⟩ := fsh.get
  have hC := hS.c.1
  have q1 := hC.tl
  have q2 := hC.obj
  have q3 := hC.n40
  have q4 := hC.cl
  have q5 := hC.il
  have q6 := hS.al
  have q7 := hS.zl
  refine .seq (fun K1 hK1 => ?_)
  refine .region ?_
  refine .m rfl rfl rfl (.assign rfl) ?_
  refine .m rfl rfl rfl (.assign rfl) ?_
  refine .m rfl rfl rfl (.assign rfl) ?_
  refine .m rfl rfl rfl (.assign rfl) ?_
  refine .nil ?_
  refine hK1 _ _ ?_
  refine .seq (fun K2 hK2 => ?_)
  refine .region ?_
  refine .m rfl rfl rfl (.move rfl) ?_
  refine .m rfl rfl rfl (.nilCheck rfl) ?_
  refine .m rfl rfl rfl (.fieldAddr fo_39_0_P rfl) ?_
  refine .m rfl rfl rfl (.assign rfl) ?_
  refine .nil ?_
  refine hK2 _ _ ?_
  refine .seq (fun K3 hK3 => ?_)
  refine .seq (fun K4 hK4 => ?_)
  refine .region ?_
  refine .m rfl rfl rfl (.move rfl) ?_
  refine .m rfl rfl rfl (.nilCheck rfl) ?_
  refine .m rfl rfl rfl (.fieldAddr fo_37_3_B rfl) ?_
  refine .m rfl rfl rfl (.load on_22_B rfl (by assumption)) ?_
  refine .m rfl rfl rfl (.len sl_22_A rfl) ?_
  refine .m rfl rfl rfl (.move rfl) ?_
  refine .nil ?_
  refine hK4 _ _ ?_
  refine .block ?_
  refine .loopR (σ := Nat) [(0, some _), (6, some _), (23, some _), (24, some _)] (fun k => [(25, some (.int .i64 (k : Int)))]) (fun k H' => H = H' ∧ (k : Int) ≤ f.sh.idn.length ∧ ∀ x, x < k → ∀ e : Nat, e < (f.ac.getD (f.sh.idn.getD x 0).toNat []).length → (f.ac.getD (f.sh.idn.getD x 0).toNat []).getD e 0 = e) (fun k => (f.sh.idn.length - k : Int).toNat) (0) ⟨rfl, rfl, rfl, rfl, trivial⟩ ⟨rfl, trivial⟩ ?_ ?_
  ·
   refine ⟨rfl, ?_⟩
   exact ⟨by omega, fun _ _ => by omega⟩
  ·
   rintro k _ ⟨rfl, hI⟩ KL1 hKL1
   refine .forget (fr' := [(25, some (.int .i64 (k : Int))), (0, some _), (6, some _), (23, some _), (24, some _)]) ⟨rfl, rfl, rfl, rfl, rfl, trivial⟩ ?_
   obtain ⟨hk1, ha1⟩ := hI
   refine .seq (fun K5 hK5 => ?_)
   refine .region ?_
   refine .m rfl rfl rfl (.cmp rfl rfl rfl) ?_
   refine .nil ?_
   refine hK5 _ _ ?_
   refine .seq (fun K6 hK6 => ?_)
   refine .cond rfl (fun h26 => ?_) (fun h26 => ?_)
   ·
    simp only [sps] at h26
    have r1 := hC.idn k (by omega)
    have r2 := i2.2 (f.sh.idn.getD k 0).toNat (by omega)
    have r3 := hS.ends (a := (f.sh.idn.getD k 0).toNat) (by omega)
    have r4 := hS.sz (f.sh.src.getD (f.sh.idn.getD k 0).toNat 0).toNat (by omega)
    refine .skip ?_
    refine hK6 _ _ ?_
    refine .seq (fun K7 hK7 => ?_)
    refine .block ?_
    refine .seq (fun K8 hK8 => ?_)
    refine .region ?_
    refine .m rfl rfl rfl (.move rfl) ?_
    refine .m rfl rfl rfl (.idxN sl_22_A (by assumption) rfl rfl (by omega)) ?_
    refine .m rfl rfl rfl (.loadI on_2_A (by assumption) rfl (by omega)) ?_
    refine .m rfl rfl rfl (.assign rfl) ?_
    refine .m rfl rfl rfl (.assign rfl) ?_
    refine .nil ?_
    refine hK8 _ _ ?_
    refine .seq (fun K9 hK9 => ?_)
    refine .region ?_
    refine .m rfl rfl rfl (.move rfl) ?_
    refine .m rfl rfl rfl (.nilCheck rfl) ?_
    refine .m rfl rfl rfl (.fieldAddr fo_39_2_P rfl) ?_
    refine .m rfl rfl rfl (.load on_23_B rfl (by assumption)) ?_
    refine .m rfl rfl rfl (.move rfl) ?_
    refine .m rfl rfl rfl (.idx1 sl_23_B (Intss.sl (by assumption)) rfl rfl (by omega) (by omega)) ?_
    refine .m rfl rfl rfl (.loadR on_22_B (by assumption) rfl (by omega)) ?_
    refine .m rfl rfl rfl (.len sl_22_A rfl) ?_
    refine .m rfl rfl rfl (.move rfl) ?_
    refine .nil ?_
    refine hK9 _ _ ?_
    refine .block ?_
    refine .loopR (σ := Nat) [(0, some _), (6, some _), (7, some _), (23, some _), (24, some _), (25, some _), (36, some _), (37, some _)] (fun l => [(38, some (.int .i64 (l : Int)))]) (fun l H' => H = H' ∧ (l : Int) ≤ (f.ac.getD (f.sh.idn.getD k 0).toNat []).length ∧ ∀ e, e < l → (f.ac.getD (f.sh.idn.getD k 0).toNat []).getD e 0 = e) (fun l => ((f.ac.getD (f.sh.idn.getD k 0).toNat []).length - l : Int).toNat) (0) ⟨rfl, rfl, rfl, rfl, rfl, rfl, rfl, rfl, trivial⟩ ⟨rfl, trivial⟩ ?_ ?_
    ·
     refine ⟨rfl, ?_⟩
     exact ⟨by omega, fun _ _ => by omega⟩
    ·
     rintro l _ ⟨rfl, hI⟩ KL2 hKL2
     refine .forget (fr' := [(38, some (.int .i64 (l : Int))), (0, some _), (6, some _), (7, some _), (23, some _), (24, some _), (25, some _), (36, some _), (37, some _)]) ⟨rfl, rfl, rfl, rfl, rfl, rfl, rfl, rfl, rfl, trivial⟩ ?_
     obtain ⟨hk2, ha2⟩ := hI
     refine .seq (fun K10 hK10 => ?_)
     refine .region ?_
     refine .m rfl rfl rfl (.cmp rfl rfl rfl) ?_
     refine .nil ?_
     refine hK10 _ _ ?_
     refine .seq (fun K11 hK11 => ?_)
     refine .cond rfl (fun h39 => ?_) (fun h39 => ?_)
     ·
      try simp only [sps] at h39
      refine .skip ?_
      refine hK11 _ _ ?_
      refine .seq (fun K12 hK12 => ?_)
      refine .block ?_
      refine .seq (fun K13 hK13 => ?_)
      refine .region ?_
      refine .m rfl rfl rfl (.move rfl) ?_
      refine .m rfl rfl rfl (.idxN sl_22_A (by assumption) rfl rfl (by omega)) ?_
      refine .m rfl rfl rfl (.loadI on_2_A (by assumption) rfl (by omega)) ?_
      refine .m rfl rfl rfl (.assign rfl) ?_
      refine .m rfl rfl rfl (.assign rfl) ?_
      refine .nil ?_
      refine hK13 _ _ ?_
      refine .seq (fun K14 hK14 => ?_)
      refine .region ?_
      refine .m rfl rfl rfl (.move rfl) ?_
      refine .m rfl rfl rfl (.move rfl) ?_
      refine .m rfl rfl rfl (.cmp rfl rfl rfl) ?_
      refine .nil ?_
      refine hK14 _ _ ?_
      refine .cond rfl (fun h45 => ?_) (fun h45 => ?_)
      ·
       try simp only [sps] at h45
       refine .seq (fun K15 hK15 => ?_)
       refine .region ?_
       refine .m rfl rfl rfl (.move rfl) ?_
       refine .m rfl rfl rfl (.move rfl) ?_
       refine .m rfl rfl rfl (.assign rfl) ?_
       refine .m rfl rfl rfl (.assign rfl) ?_
       refine .m rfl rfl rfl (.assign rfl) ?_
       refine .m rfl rfl rfl (.assign rfl) ?_
       refine .nil ?_
       refine hK15 _ _ ?_
       refine .ret ?_
       -- leaf e1
       refine hret _ _ ?_
       refine ⟨_, _, _, _, rfl, rfl, rfl, rfl, ?_⟩
       exact ⟨⟨_, _, _, _, rfl, ⟨fun hh => absurd hh (by decide), fun hL => absurd (hL.ids k (by omega) l (by omega)) h45⟩⟩, rfl⟩
      ·
       try simp only [sps] at h45
       refine .skip ?_
       refine hK12 _ _ ?_
       refine .region ?_
       refine .m rfl rfl rfl (.add rfl rfl rfl (by omega) (by omega)) ?_
       refine .m rfl rfl rfl (.move rfl) ?_
       refine .nil ?_
       refine hKL2 (l + 1) _ _ ?_ ?_ ⟨rfl, rfl, rfl, rfl, rfl, rfl, rfl, rfl, rfl, trivial⟩
       ·
        refine ⟨rfl, ?_⟩
        refine ⟨by omega, fun e hx => ?_⟩
        by_cases hltq : e < l
        · exact ha2 e hltq
        · obtain rfl : e = l := by omega
          exact h45
       ·
        omega
     ·
      try simp only [sps] at h39
      refine .exit ?_
      refine hK7 _ _ ?_
      refine .region ?_
      refine .m rfl rfl rfl (.add rfl rfl rfl (by omega) (by omega)) ?_
      refine .m rfl rfl rfl (.move rfl) ?_
      refine .nil ?_
      refine hKL1 (k + 1) _ _ ?_ ?_ ⟨rfl, rfl, rfl, rfl, rfl, trivial⟩
      ·
       refine ⟨rfl, ?_⟩
       refine ⟨by omega, fun x hx => ?_⟩
       by_cases hltq : x < k
       · exact ha1 x hltq
       · obtain rfl : x = k := by omega
         exact fun e he => ha2 e (by omega)
      ·
       omega
   ·
    try simp only [sps] at h26
    refine .exit ?_
    refine hK3 _ _ ?_
    refine .seq (fun K16 hK16 => ?_)
    refine .seq (fun K17 hK17 => ?_)
    refine .region ?_
    refine .m rfl rfl rfl (.move rfl) ?_
    refine .m rfl rfl rfl (.nilCheck rfl) ?_
    refine .m rfl rfl rfl (.fieldAddr fo_37_4_B rfl) ?_
    refine .m rfl rfl rfl (.load on_23_B rfl (by assumption)) ?_
    refine .m rfl rfl rfl (.len sl_23_B rfl) ?_
    refine .m rfl rfl rfl (.move rfl) ?_
    refine .nil ?_
    refine hK17 _ _ ?_
    refine .block ?_
    refine .loopR (σ := Nat) [(0, some _), (53, some _), (54, some _)] (fun a => [(55, some (.int .i64 (a : Int)))]) (fun a H' => H = H' ∧ (a : Int) ≤ f.sh.comp.length ∧ ∀ a', a' < a → ∀ b : Nat, b < f.sh.src.length → f.sh.tgt.getD a' 0 = f.sh.src.getD b 0 → ∀ e : Nat, e < (f.ac.getD a' []).length → (f.ac.getD ((f.sh.comp.getD a' []).getD b 0).toNat []).getD e 0 = (f.ac.getD b []).getD ((f.ac.getD a' []).getD e 0).toNat 0) (fun a => (f.sh.comp.length - a : Int).toNat) (0) ⟨rfl, rfl, rfl, trivial⟩ ⟨rfl, trivial⟩ ?_ ?_
    ·
     refine ⟨rfl, ?_⟩
     exact ⟨by omega, fun _ _ => by omega⟩
    ·
     rintro a _ ⟨rfl, hI⟩ KL3 hKL3
     refine .forget (fr' := [(55, some (.int .i64 (a : Int))), (0, some _), (53, some _), (54, some _)]) ⟨rfl, rfl, rfl, rfl, trivial⟩ ?_
     obtain ⟨hk3, ha3⟩ := hI
     refine .seq (fun K18 hK18 => ?_)
     refine .region ?_
     refine .m rfl rfl rfl (.cmp rfl rfl rfl) ?_
     refine .nil ?_
     refine hK18 _ _ ?_
     refine .seq (fun K19 hK19 => ?_)
     refine .cond rfl (fun h56 => ?_) (fun h56 => ?_)
     ·
      simp only [sps] at h56
      have r1 := hC.row a (by omega)
      have r2 := d4.2 a (by omega)
      have r3 := i2.2 a (by omega)
      have r4 := hS.ends (a := a) (by omega)
      have r5 := hS.sz (f.sh.src.getD a 0).toNat (by omega)
      refine .skip ?_
      refine hK19 _ _ ?_
      refine .seq (fun K20 hK20 => ?_)
      refine .block ?_
      refine .seq (fun K21 hK21 => ?_)
      refine .region ?_
      refine .m rfl rfl rfl (.move rfl) ?_
      refine .m rfl rfl rfl (.idxN sl_23_B (Intss.sl (by assumption)) rfl rfl (by omega)) ?_
      refine .m rfl rfl rfl (.loadR on_22_B (by assumption) rfl (by omega)) ?_
      refine .m rfl rfl rfl (.assign rfl) ?_
      refine .m rfl rfl rfl (.assign rfl) ?_
      refine .nil ?_
      refine hK21 _ _ ?_
      refine .seq (fun K22 hK22 => ?_)
      refine .region ?_
      refine .m rfl rfl rfl (.move rfl) ?_
      refine .m rfl rfl rfl (.len sl_22_A rfl) ?_
      refine .m rfl rfl rfl (.move rfl) ?_
      refine .nil ?_
      refine hK22 _ _ ?_
      refine .block ?_
      refine .loopR (σ := Nat) [(0, some _), (11, some _), (53, some _), (54, some _), (55, some _), (60, some _), (61, some _)] (fun b => [(62, some (.int .i64 (b : Int)))]) (fun b H' => H = H' ∧ (b : Int) ≤ (f.sh.comp.getD a []).length ∧ ∀ b', b' < b → f.sh.tgt.getD a 0 = f.sh.src.getD b' 0 → ∀ e : Nat, e < (f.ac.getD a []).length → (f.ac.getD ((f.sh.comp.getD a []).getD b' 0).toNat []).getD e 0 = (f.ac.getD b' []).getD ((f.ac.getD a []).getD e 0).toNat 0) (fun b => ((f.sh.comp.getD a []).length - b : Int).toNat) (0) ⟨rfl, rfl, rfl, rfl, rfl, rfl, rfl, trivial⟩ ⟨rfl, trivial⟩ ?_ ?_
      ·
       refine ⟨rfl, ?_⟩
       exact ⟨by omega, fun _ _ => by omega⟩
      ·
       rintro b _ ⟨rfl, hI⟩ KL4 hKL4
       refine .forget (fr' := [(62, some (.int .i64 (b : Int))), (0, some _), (11, some _), (53, some _), (54, some _), (55, some _), (60, some _), (61, some _)]) ⟨rfl, rfl, rfl, rfl, rfl, rfl, rfl, rfl, trivial⟩ ?_
       obtain ⟨hk4, ha4⟩ := hI
       refine .seq (fun K23 hK23 => ?_)
       refine .region ?_
       refine .m rfl rfl rfl (.cmp rfl rfl rfl) ?_
       refine .nil ?_
       refine hK23 _ _ ?_
       refine .seq (fun K24 hK24 => ?_)
       refine .cond rfl (fun h63 => ?_) (fun h63 => ?_)
       ·
        simp only [sps] at h63
        have t1 := i2.2 b (by omega)
        have t2 := hS.ends (a := b) (by omega)
        refine .skip ?_
        refine hK24 _ _ ?_
        refine .seq (fun K25 hK25 => ?_)
        refine .block ?_
        refine .seq (fun K26 hK26 => ?_)
        refine .region ?_
        refine .m rfl rfl rfl (.move rfl) ?_
        refine .m rfl rfl rfl (.idxN sl_22_A (by assumption) rfl rfl (by omega)) ?_
        refine .m rfl rfl rfl (.loadI on_2_A (by assumption) rfl (by omega)) ?_
        refine .m rfl rfl rfl (.assign rfl) ?_
        refine .m rfl rfl rfl (.assign rfl) ?_
        refine .nil ?_
        refine hK26 _ _ ?_
        refine .seq (fun K27 hK27 => ?_)
        refine .seq (fun K28 hK28 => ?_)
        refine .region ?_
        refine .m rfl rfl rfl (.move rfl) ?_
        refine .m rfl rfl rfl (.cmp rfl rfl rfl) ?_
        refine .nil ?_
        refine hK28 _ _ ?_
        refine .cond rfl (fun h68 => ?_) (fun h68 => ?_)
        ·
         try simp only [sps] at h68
         refine .exit ?_
         refine hK25 _ _ ?_
         refine .region ?_
         refine .m rfl rfl rfl (.add rfl rfl rfl (by omega) (by omega)) ?_
         refine .m rfl rfl rfl (.move rfl) ?_
         refine .nil ?_
         refine hKL4 (b + 1) _ _ ?_ ?_ ⟨rfl, rfl, rfl, rfl, rfl, rfl, rfl, rfl, trivial⟩
         ·
          refine ⟨rfl, ?_⟩
          refine ⟨by omega, fun b' hx => ?_⟩
          by_cases hltq : b' < b
          · exact ha4 b' hltq
          · obtain rfl : b' = b := by omega
            first | exact fun _ e he => ha5 e (by omega) | exact fun hn => absurd ((hC.th_ge (f := a) (g := b') (by omega) (by omega)).2 hn) (by show ¬ (0 ≤ (f.sh.comp.getD a []).getD b' 0); omega)
         ·
          omega
        ·
         simp only [sps] at h68
         have u1 : f.sh.tgt.getD a 0 = f.sh.src.getD b 0 := (hC.th_ge (f := a) (g := b) (by omega) (by omega)).1 h68
         have u2 := (Cat.Cell.pos u1).1 (hC.cell a (by omega) b (by omega))
         have u3 := i2.2 ((f.sh.comp.getD a []).getD b 0).toNat (by omega)
         have u4 := hS.ends (a := ((f.sh.comp.getD a []).getD b 0).toNat) (by omega)
         rw [u2.2.2.1] at u4
         have u5 := t2.2.2.2.2
         rw [← u1] at u5
         refine .skip ?_
         refine hK27 _ _ ?_
         refine .seq (fun K29 hK29 => ?_)
         refine .region ?_
         refine .m rfl rfl rfl (.move rfl) ?_
         refine .m rfl rfl rfl (.nilCheck rfl) ?_
         refine .m rfl rfl rfl (.fieldAddr fo_39_2_P rfl) ?_
         refine .m rfl rfl rfl (.load on_23_B rfl (by assumption)) ?_
         refine .m rfl rfl rfl (.move rfl) ?_
         refine .m rfl rfl rfl (.idxN sl_23_B (Intss.sl (by assumption)) rfl rfl (by omega)) ?_
         refine .m rfl rfl rfl (.loadR on_22_B (by assumption) rfl (by omega)) ?_
         refine .m rfl rfl rfl (.len sl_22_A rfl) ?_
         refine .m rfl rfl rfl (.move rfl) ?_
         refine .nil ?_
         refine hK29 _ _ ?_
         refine .block ?_
         refine .loopR (σ := Nat) [(0, some _), (11, some _), (13, some _), (14, some _), (53, some _), (54, some _), (55, some _), (60, some _), (61, some _), (62, some _), (75, some _), (76, some _)] (fun e => [(77, some (.int .i64 (e : Int)))]) (fun e H' => H = H' ∧ (e : Int) ≤ (f.ac.getD a []).length ∧ ∀ e', e' < e → (f.ac.getD ((f.sh.comp.getD a []).getD b 0).toNat []).getD e' 0 = (f.ac.getD b []).getD ((f.ac.getD a []).getD e' 0).toNat 0) (fun e => ((f.ac.getD a []).length - e : Int).toNat) (0) ⟨rfl, rfl, rfl, rfl, rfl, rfl, rfl, rfl, rfl, rfl, rfl, rfl, trivial⟩ ⟨rfl, trivial⟩ ?_ ?_
         ·
          refine ⟨rfl, ?_⟩
          exact ⟨by omega, fun _ _ => by omega⟩
         ·
          rintro e _ ⟨rfl, hI⟩ KL5 hKL5
          refine .forget (fr' := [(77, some (.int .i64 (e : Int))), (0, some _), (11, some _), (13, some _), (14, some _), (53, some _), (54, some _), (55, some _), (60, some _), (61, some _), (62, some _), (75, some _), (76, some _)]) ⟨rfl, rfl, rfl, rfl, rfl, rfl, rfl, rfl, rfl, rfl, rfl, rfl, rfl, trivial⟩ ?_
          obtain ⟨hk5, ha5⟩ := hI
          refine .seq (fun K30 hK30 => ?_)
          refine .region ?_
          refine .m rfl rfl rfl (.cmp rfl rfl rfl) ?_
          refine .nil ?_
          refine hK30 _ _ ?_
          refine .seq (fun K31 hK31 => ?_)
          refine .cond rfl (fun h78 => ?_) (fun h78 => ?_)
          ·
           simp only [sps] at h78
           have v1 := hS.act (a := a) (by omega) (e := e) (by omega)
           refine .skip ?_
           refine hK31 _ _ ?_
           refine .seq (fun K32 hK32 => ?_)
           refine .block ?_
           refine .seq (fun K33 hK33 => ?_)
           refine .region ?_
           refine .m rfl rfl rfl (.move rfl) ?_
           refine .m rfl rfl rfl (.idxN sl_22_A (by assumption) rfl rfl (by omega)) ?_
           refine .m rfl rfl rfl (.loadI on_2_A (by assumption) rfl (by omega)) ?_
           refine .m rfl rfl rfl (.assign rfl) ?_
           refine .m rfl rfl rfl (.assign rfl) ?_
           refine .nil ?_
           refine hK33 _ _ ?_
           refine .seq (fun K34 hK34 => ?_)
           refine .regionD mixed_orders_B (.q 0 (.q 1 (.q 2 (.q 3 (.q 4 (.q 5 (.q 6 (.q 7 (.q 8 (.q 9 (.q 10 (.q 11 (.q 12 (.q 13 (.q 14 (.q 15 (.q 16 (.q 17 (.q 18 (.q 19 (.q 20 (.done)))))))))))))))))))))) (by kernel_rfl) ?_
           refine .m rfl rfl rfl rfl (.refl _) (.move rfl) ?_
           refine .m rfl rfl rfl rfl (.refl _) (.nilCheck rfl) ?_
           refine .m rfl rfl rfl rfl (.refl _) (.fieldAddr fo_39_2_P rfl) ?_
           refine .m rfl rfl rfl rfl (.refl _) (.load on_23_B rfl (by assumption)) ?_
           refine .m rfl rfl rfl rfl (.refl _) (.move rfl) ?_
           refine .m rfl rfl rfl rfl (.refl _) (.idx1 sl_23_B (Intss.sl (by assumption)) rfl rfl (by omega) (by omega)) ?_
           refine .m rfl rfl rfl rfl (.refl _) (.loadR on_22_B (by assumption) rfl (by omega)) ?_
           refine .m rfl rfl rfl rfl (.refl _) (.move rfl) ?_
           refine .m rfl rfl rfl rfl (.refl _) (.idxN sl_22_A (by assumption) rfl rfl (by omega)) ?_
           refine .m rfl rfl rfl rfl (.refl _) (.loadI on_2_A (by assumption) rfl (by omega)) ?_
           refine .m rfl rfl rfl rfl (.refl _) (.move rfl) ?_
           refine .m rfl rfl rfl rfl (.refl _) (.nilCheck rfl) ?_
           refine .m rfl rfl rfl rfl (.refl _) (.fieldAddr fo_39_2_P rfl) ?_
           refine .m rfl rfl rfl rfl (.refl _) (.load on_23_B rfl (by assumption)) ?_
           refine .m rfl rfl rfl rfl (.refl _) (.move rfl) ?_
           refine .m rfl rfl rfl rfl (.refl _) (.idxN sl_23_B (Intss.sl (by assumption)) rfl rfl (by omega)) ?_
           refine .m rfl rfl rfl rfl (.refl _) (.loadR on_22_B (by assumption) rfl (by omega)) ?_
           refine .m rfl rfl rfl rfl (.refl _) (.move rfl) ?_
           refine .m rfl rfl rfl rfl (.refl _) (.idx1 sl_22_A (by assumption) rfl rfl (by omega) (by omega)) ?_
           refine .m rfl rfl rfl rfl (.refl _) (.loadI on_2_A (by assumption) rfl (by omega)) ?_
           refine .m rfl rfl rfl rfl (.refl _) (.cmp rfl rfl rfl) ?_
           refine .done ?_
           refine hK34 _ _ ?_
           refine .cond rfl (fun h102 => ?_) (fun h102 => ?_)
           ·
            try simp only [sps] at h102
            refine .seq (fun K35 hK35 => ?_)
            refine .region ?_
            refine .m rfl rfl rfl (.move rfl) ?_
            refine .m rfl rfl rfl (.move rfl) ?_
            refine .m rfl rfl rfl (.move rfl) ?_
            refine .m rfl rfl rfl (.assign rfl) ?_
            refine .m rfl rfl rfl (.assign rfl) ?_
            refine .m rfl rfl rfl (.assign rfl) ?_
            refine .m rfl rfl rfl (.assign rfl) ?_
            refine .nil ?_
            refine hK35 _ _ ?_
            refine .ret ?_
            -- leaf e2
            refine hret _ _ ?_
            refine ⟨_, _, _, _, rfl, rfl, rfl, rfl, ?_⟩
            exact ⟨⟨_, _, _, _, rfl, ⟨fun hh => absurd hh (by decide), fun hL => absurd (hL.th a (by omega) b (by omega) u1 e (by omega)) h102⟩⟩, rfl⟩
           ·
            try simp only [sps] at h102
            refine .skip ?_
            refine hK32 _ _ ?_
            refine .region ?_
            refine .m rfl rfl rfl (.add rfl rfl rfl (by omega) (by omega)) ?_
            refine .m rfl rfl rfl (.move rfl) ?_
            refine .nil ?_
            refine hKL5 (e + 1) _ _ ?_ ?_ ⟨rfl, rfl, rfl, rfl, rfl, rfl, rfl, rfl, rfl, rfl, rfl, rfl, rfl, trivial⟩
            ·
             refine ⟨rfl, ?_⟩
             refine ⟨by omega, fun e' hx => ?_⟩
             by_cases hltq : e' < e
             · exact ha5 e' hltq
             · obtain rfl : e' = e := by omega
               exact h102
            ·
             omega
          ·
           try simp only [sps] at h78
           refine .exit ?_
           refine hK25 _ _ ?_
           refine .region ?_
           refine .m rfl rfl rfl (.add rfl rfl rfl (by omega) (by omega)) ?_
           refine .m rfl rfl rfl (.move rfl) ?_
           refine .nil ?_
           refine hKL4 (b + 1) _ _ ?_ ?_ ⟨rfl, rfl, rfl, rfl, rfl, rfl, rfl, rfl, trivial⟩
           ·
            refine ⟨rfl, ?_⟩
            refine ⟨by omega, fun b' hx => ?_⟩
            by_cases hltq : b' < b
            · exact ha4 b' hltq
            · obtain rfl : b' = b := by omega
              first | exact fun _ e he => ha5 e (by omega) | exact fun hn => absurd ((hC.th_ge (f := a) (g := b') (by omega) (by omega)).2 hn) (by show ¬ (0 ≤ (f.sh.comp.getD a []).getD b' 0); omega)
           ·
            omega
       ·
        try simp only [sps] at h63
        refine .exit ?_
        refine hK20 _ _ ?_
        refine .region ?_
        refine .m rfl rfl rfl (.add rfl rfl rfl (by omega) (by omega)) ?_
        refine .m rfl rfl rfl (.move rfl) ?_
        refine .nil ?_
        refine hKL3 (a + 1) _ _ ?_ ?_ ⟨rfl, rfl, rfl, rfl, trivial⟩
        ·
         refine ⟨rfl, ?_⟩
         refine ⟨by omega, fun a' hx => ?_⟩
         by_cases hltq : a' < a
         · exact ha3 a' hltq
         · obtain rfl : a' = a := by omega
           exact fun b hb => ha4 b (by omega)
        ·
         omega
     ·
      try simp only [sps] at h56
      refine .exit ?_
      refine hK16 _ _ ?_
      refine .seq (fun K36 hK36 => ?_)
      refine .region ?_
      refine .m rfl rfl rfl (.assign rfl) ?_
      refine .m rfl rfl rfl (.assign rfl) ?_
      refine .m rfl rfl rfl (.assign rfl) ?_
      refine .m rfl rfl rfl (.assign rfl) ?_
      refine .nil ?_
      refine hK36 _ _ ?_
      refine .ret ?_
      -- leaf e3
      refine hret _ _ ?_
      refine ⟨_, _, _, _, rfl, rfl, rfl, rfl, ?_⟩
      exact ⟨⟨_, _, _, _, rfl, ⟨fun _ => ⟨fun x hx => ha1 x (by omega), fun a ha => ha3 a (by omega)⟩, fun _ => rfl⟩⟩, rfl⟩
theorem isSetFunctor_c {g o : Nat} {f : SFun} {p : SFunP} {H : GHeap} (h : SFun.At H g o f p := by assumption) (hs : f.Small := by assumption) : GCalls Try.prog 84 [.pointer (some ⟨g, o, none⟩)] H (Ret (.bool (B f.Is)) H) := by
  refine GCalls.body (N := 19) (rs := [.tmp 2]) Try.func84 rfl rfl rfl rfl (fun Qx hret hend => ?_)
  refine .forget (fr' := [(0, some _)]) ⟨rfl, trivial⟩ ?_
  have hle := GHeap.Le.refl H
  have base_h := h
  refine .seq (fun K1 hK1 => ?_)
  refine .region ?_
  refine .m rfl rfl rfl (.assign rfl) ?_
  refine .nil ?_
  refine hK1 _ _ ?_
  refine .seq (fun K2 hK2 => ?_)
  refine .seq (fun K3 hK3 => ?_)
  refine .region ?_
  refine .m rfl rfl rfl (.move rfl) ?_
  refine .callQ rfl rfl rfl rfl @Try.call91 rfl (sfShape_c) ?_
  refine .m rfl rfl rfl (.not rfl) ?_
  refine .nil ?_
  refine hK3 _ _ ?_
  refine .cond rfl (fun h9 => ?_) (fun h9 => ?_)
  ·
   try simp only [sps] at h9
   refine .seq (fun K4 hK4 => ?_)
   refine .region ?_
   refine .m rfl rfl rfl (.assign rfl) ?_
   refine .nil ?_
   refine hK4 _ _ ?_
   refine .ret ?_
   -- leaf e1
   refine hret _ _ ?_
   refine ⟨_, rfl, ?_⟩
   exact .of (congrArg _ (B_false fun hh => h9 hh.1))
  ·
   try simp only [sps] at h9
   refine .skip ?_
   refine hK2 _ _ ?_
   refine .seq (fun K5 hK5 => ?_)
   refine .region ?_
   refine .m rfl rfl rfl (.move rfl) ?_
   refine .call rfl rfl rfl rfl @Try.call92 rfl (sfFault_c) ?_
   rintro _ _ ⟨⟨k12, x12, y12, z12, rfl, hk12⟩, heq⟩
   obtain rfl := heq.symm
   refine .m rfl rfl rfl (.move rfl) ?_
   refine .m rfl rfl rfl (.extract rfl rfl) ?_
   refine .m rfl rfl rfl (.extract rfl rfl) ?_
   refine .m rfl rfl rfl (.extract rfl rfl) ?_
   refine .m rfl rfl rfl (.extract rfl rfl) ?_
   refine .m rfl rfl rfl (.assign rfl) ?_
   refine .m rfl rfl rfl (.assign rfl) ?_
   refine .m rfl rfl rfl (.assign rfl) ?_
   refine .m rfl rfl rfl (.assign rfl) ?_
   refine .nil ?_
   refine hK5 _ _ ?_
   refine .seq (fun K6 hK6 => ?_)
   refine .region ?_
   refine .m rfl rfl rfl (.move rfl) ?_
   refine .m rfl rfl rfl (.cmp rfl rfl rfl) ?_
   refine .m rfl rfl rfl (.assign rfl) ?_
   refine .nil ?_
   refine hK6 _ _ ?_
   refine .ret ?_
   -- leaf e2
   refine hret _ _ ?_
   refine ⟨_, rfl, ?_⟩
   exact .of (congrArg _ (by rw [Bool.eq_iff_iff, B_iff]; simp only [sps]; rw [hk12]; exact ⟨fun hh => hh.2, fun hh => ⟨h9, hh⟩⟩))
theorem areSetFunctors_c {k n : Nat} {G : Nat → Nat} {O : Nat → Nat} {C : Nat → SFun} {P : Nat → SFunP} {H : GHeap} (h : SlA H (some ⟨k, 0, none⟩) n (fun i => .pointer (some ⟨G i, O i, none⟩))) (hn : n ≤ 1048576)
    (hc : ∀ i, i < n → SFun.At H (G i) (O i) (C i) (P i)) (hs : ∀ i, i < n → (C i).Small) : GCalls Try.prog 80 [.slice (some ⟨k, 0, none⟩) n n] H (Ret (.bool (B (∀ i, i < n → (C i).Is))) H) := by
  refine GCalls.body (N := 15) (rs := [.tmp 2]) Try.func80 rfl rfl rfl rfl (fun Qx hret hend => ?_)
  refine .forget (fr' := [(0, some _)]) ⟨rfl, trivial⟩ ?_
  refine .seq (fun K1 hK1 => ?_)
  refine .region ?_
  refine .m rfl rfl rfl (.assign rfl) ?_
  refine .nil ?_
  refine hK1 _ _ ?_
  refine .seq (fun K2 hK2 => ?_)
  refine .seq (fun K3 hK3 => ?_)
  refine .region ?_
  refine .m rfl rfl rfl (.move rfl) ?_
  refine .m rfl rfl rfl (.len sl_102_P rfl) ?_
  refine .m rfl rfl rfl (.move rfl) ?_
  refine .nil ?_
  refine hK3 _ _ ?_
  refine .block ?_
  refine .loopR (σ := Nat) [(5, some _), (6, some _)] (fun l => [(7, some (.int .i64 (l : Int)))]) (fun l H' => H = H' ∧ (l : Int) ≤ n ∧ ∀ i, i < l → (C i).Is) (fun l => (n - l : Int).toNat) (0) ⟨rfl, rfl, trivial⟩ ⟨rfl, trivial⟩ ?_ ?_
  ·
   refine ⟨rfl, ?_⟩
   exact ⟨by omega, fun _ _ => by omega⟩
  ·
   rintro l _ ⟨rfl, hI⟩ KL1 hKL1
   refine .forget (fr' := [(7, some (.int .i64 (l : Int))), (5, some _), (6, some _)]) ⟨rfl, rfl, rfl, trivial⟩ ?_
   obtain ⟨hk1, ha1⟩ := hI
   refine .seq (fun K4 hK4 => ?_)
   refine .region ?_
   refine .m rfl rfl rfl (.cmp rfl rfl rfl) ?_
   refine .nil ?_
   refine hK4 _ _ ?_
   refine .seq (fun K5 hK5 => ?_)
   refine .cond rfl (fun h8 => ?_) (fun h8 => ?_)
   ·
    try simp only [sps] at h8
    refine .skip ?_
    refine hK5 _ _ ?_
    refine .seq (fun K6 hK6 => ?_)
    refine .block ?_
    refine .seq (fun K7 hK7 => ?_)
    refine .region ?_
    refine .m rfl rfl rfl (.idxN sl_102_P (by assumption) rfl rfl (by omega)) ?_
    refine .m rfl rfl rfl (.loadE on_71_P (by assumption) rfl (by omega)) ?_
    refine .m rfl rfl rfl (.assign rfl) ?_
    refine .nil ?_
    refine hK7 _ _ ?_
    refine .seq (fun K8 hK8 => ?_)
    refine .region ?_
    refine .m rfl rfl rfl (.move rfl) ?_
    refine .callQ rfl rfl rfl rfl @Try.call84 rfl (isSetFunctor_c (hc l (by omega)) (hs l (by omega))) ?_
    refine .m rfl rfl rfl (.not rfl) ?_
    refine .nil ?_
    refine hK8 _ _ ?_
    refine .cond rfl (fun h13 => ?_) (fun h13 => ?_)
    ·
     try simp only [sps] at h13
     refine .seq (fun K9 hK9 => ?_)
     refine .region ?_
     refine .m rfl rfl rfl (.assign rfl) ?_
     refine .nil ?_
     refine hK9 _ _ ?_
     refine .ret ?_
     -- leaf e1
     refine hret _ _ ?_
     refine ⟨_, rfl, ?_⟩
     exact .of (congrArg _ (B_false fun hh => h13 (hh l (by omega))))
    ·
     try simp only [sps] at h13
     refine .skip ?_
     refine hK6 _ _ ?_
     refine .region ?_
     refine .m rfl rfl rfl (.add rfl rfl rfl (by omega) (by omega)) ?_
     refine .m rfl rfl rfl (.move rfl) ?_
     refine .nil ?_
     refine hKL1 (l + 1) _ _ ?_ ?_ ⟨rfl, rfl, rfl, trivial⟩
     ·
      refine ⟨rfl, ?_⟩
      refine ⟨by omega, fun i hx => ?_⟩
      by_cases hltq : i < l
      · exact ha1 i hltq
      · obtain rfl : i = l := by omega
        exact h13
     ·
      omega
   ·
    try simp only [sps] at h8
    refine .exit ?_
    refine hK2 _ _ ?_
    refine .seq (fun K10 hK10 => ?_)
    refine .region ?_
    refine .m rfl rfl rfl (.assign rfl) ?_
    refine .nil ?_
    refine hK10 _ _ ?_
    refine .ret ?_
    -- leaf e2
    refine hret _ _ ?_
    refine ⟨_, rfl, ?_⟩
    exact .of (congrArg _ (B_true fun i hi => ha1 i (by omega)))
theorem areSetFunctors2_c {k g1 o1 g2 o2 : Nat} {e : TypeId} {c1 c2 : SFun} {p1 p2 : SFunP} {H : GHeap} (h : H.get k = some (.row [.pointer (some ⟨g1, o1, none⟩), .pointer (some ⟨g2, o2, none⟩)] e true) := by assumption)
    (h1 : SFun.At H g1 o1 c1 p1 := by assumption) (h2 : SFun.At H g2 o2 c2 p2 := by assumption) (hs1 : c1.Small := by assumption) (hs2 : c2.Small := by assumption) :
    GCalls Try.prog 80 [.slice (some ⟨k, 0, none⟩) 2 2] H (Ret (.bool (B (c1.Is ∧ c2.Is))) H) := by
  have := areSetFunctors_c (two_sl h) (by omega) (C := fun i => if i = 0 then c1 else c2) (P := fun i => if i = 0 then p1 else p2)
    (fun i hi => by match i, hi with | 0, _ => exact h1 | 1, _ => exact h2) (fun i hi => by match i, hi with | 0, _ => exact hs1 | 1, _ => exact hs2)
  rw [B_congr (q := c1.Is ∧ c2.Is)] at this
  · exact this
  · exact ⟨fun h => ⟨h 0 (by omega), h 1 (by omega)⟩, fun h i hi => by match i, hi with | 0, _ => exact h.1 | 1, _ => exact h.2⟩
end Go.Proofs.Ytbpehbbdodahaaa
/- The smallest of the laws' helpers, told for the larger ones. No condition but those of each statement. -/
namespace Go.Proofs.Ytbpehbbdodahaaa
open Go Go.GL Go.RowKit Go.Proofs
theorem szInt64S_s {a : Option Addr} {xs : List Int} {left : Int} {H : GHeap} (hx : xs.length ≤ 9223372036854775807 := by omega) (h0 : 0 ≤ left := by omega) (h1 : left ≤ 1048576 := by omega) :
    GCalls Try.prog 40 [.slice a xs.length xs.length, .int .i64 left] H (SzR left (xs.length ≤ 1048576) H) :=
  (szInt64S_c hx h0 h1).mono fun _ _ ⟨e, l, h2, h3, h4, h5⟩ => ⟨e, l, h2, h3, h4, fun h => by have := h5 h; omega⟩
theorem szInt64SS_s {a : Option Addr} {xss : List (List Int)} {r : Nat → Option Addr} {left : Int} {H : GHeap} (h : Intss H a xss r := by assumption) (hx : xss.length ≤ 9223372036854775807 := by omega) (hy : ∀ i, I64s (xss.getD i []) := by assumption) (h0 : 0 ≤ left := by omega) (h1 : left ≤ 1048576 := by omega) :
    GCalls Try.prog 28 [.slice a xss.length xss.length, .int .i64 left] H (SzR left (xss.length ≤ 1048576 ∧ ∀ i, (xss.getD i []).length ≤ 1048576) H) :=
  (szInt64SS_c h hx hy h0 h1).mono fun _ _ ⟨e, l, h2, h3, h4, h5⟩ => ⟨e, l, h2, h3, h4, fun h => ⟨by have := (h5 h).1; omega, fun i => by have := (h5 h).2 i; omega⟩⟩
end Go.Proofs.Ytbpehbbdodahaaa
/- The laws' helpers for SetFunctor. No condition but those of each statement. -/
namespace Go.Proofs.Ytbpehbbdodahaaa
open Go Go.GL Go.RowKit Go.Proofs
theorem sz_27_VSFun : (Try.prog.info? 27).map (·.size) = some 7 := by kernel_rfl
theorem fo_27_0_VSFun : fieldOff Try.prog 27 0 = some 0 := by kernel_rfl
theorem ag_25_VSFun : aggT Try.prog 25 = some 5 := by kernel_rfl
theorem fo_27_1_VSFun : fieldOff Try.prog 27 1 = some 5 := by kernel_rfl
theorem fo_27_2_VSFun : fieldOff Try.prog 27 2 = some 6 := by kernel_rfl
theorem ze_39_VSFun : zeroT Try.prog 39 = some ([.int .i64 0, .slice none 0 0, .slice none 0 0, .slice none 0 0, .slice none 0 0, .slice none 0 0, .slice none 0 0], 7) := by kernel_rfl
theorem fo_39_0_VSFun : fieldOff Try.prog 39 0 = some 0 := by kernel_rfl
theorem fo_39_1_VSFun : fieldOff Try.prog 39 1 = some 5 := by kernel_rfl
theorem fo_39_2_VSFun : fieldOff Try.prog 39 2 = some 6 := by kernel_rfl
theorem ag_39_VSFun : aggT Try.prog 39 = some 7 := by kernel_rfl
theorem sz_39_VSFun : (Try.prog.info? 39).map (·.size) = some 7 := by kernel_rfl
theorem szSetFunctor_c {c : SFun} {p : SFunP} {left : Int} {H : GHeap} (hin : c.In H p := by assumption) (hw : c.Wide := by assumption) (h0 : 0 ≤ left := by omega) (h1 : left ≤ 1048576 := by omega) :
    GCalls Try.prog 18 [.agg (c.cells p).toArray, .int .i64 left] H (SzR left c.Small H) := by
  refine SzR.of ?_
  obtain ⟨w0, ⟨wa1, _⟩, ⟨wa2, wb2⟩⟩ := hw
  refine GCalls.body (N := 24) (rs := [.tmp 4]) Try.func18 rfl rfl rfl rfl (fun Qx hret hend => ?_)
  refine .forget (fr' := [(0, some _), (1, some _)]) ⟨rfl, rfl, trivial⟩ ?_
  have hle := GHeap.Le.refl H
  have base_hin := hin
  refine .seq (fun K1 hK1 => ?_)
  refine .region ?_
  refine .r rfl rfl rfl (.boxR rfl sz_27_VSFun rfl) ?_
  rintro _ H2 ⟨g2, rfl, le2, ge2, at2⟩
  have nx_H2 := le2.1
  replace hle := hle.trans le2
  have lt_at2 := GHeap.lt_of_get at2
  replace hin := base_hin.mono hle
  have hb2 : SFun.At _ g2 0 c p := ⟨Mem.of_get at2, hin⟩
  obtain ⟨fsh2, c52, c62, i12, i22⟩ := hb2.get
  have hm2 : MemN _ _ _ _ _ := ⟨rfl, hb2.1⟩
  have hi2 := hb2.2
  have hmsh2 : MemN _ _ _ _ _ := ⟨rfl, fsh2.1⟩
  have hish2 := fsh2.2
  refine .m rfl rfl rfl (.assign rfl) ?_
  refine .nil ?_
  refine hK1 _ _ ?_
  refine .seq (fun K2 hK2 => ?_)
  refine .region ?_
  refine .m rfl rfl rfl (.fieldAddr fo_27_0_VSFun rfl) ?_
  refine .m rfl rfl rfl (.loadM ag_25_VSFun rfl (by assumption)) ?_
  refine .m rfl rfl rfl (.move rfl) ?_
  refine .call rfl rfl rfl rfl @Try.call39 rfl (szCategory_c) ?_
  rintro _ _ ⟨heq, lf8, rfl, z18, z28, z38⟩
  obtain rfl := heq.symm
  refine .m rfl rfl rfl (.assign rfl) ?_
  refine .nil ?_
  refine hK2 _ _ ?_
  refine .seq (fun K3 hK3 => ?_)
  refine .seq (fun K4 hK4 => ?_)
  refine .region ?_
  refine .m rfl rfl rfl (.move rfl) ?_
  refine .m rfl rfl rfl (.cmp rfl rfl rfl) ?_
  refine .nil ?_
  refine hK4 _ _ ?_
  refine .cond rfl (fun h10 => ?_) (fun h10 => ?_)
  ·
   try simp only [sps] at h10
   refine .seq (fun K5 hK5 => ?_)
   refine .region ?_
   refine .m rfl rfl rfl (.assign rfl) ?_
   refine .nil ?_
   refine hK5 _ _ ?_
   refine .ret ?_
   -- leaf e1
   refine hret _ _ ?_
   refine ⟨_, rfl, ?_⟩
   first
   | exact ⟨hle, _, rfl, by omega, by omega, fun h => by omega⟩
   | exact ⟨hle, _, rfl, by omega, by omega, fun h => ⟨by assumption, by assumption, by assumption⟩⟩
  ·
   try simp only [sps] at h10
   have hsm8 := z38 (by omega)
   refine .skip ?_
   refine hK3 _ _ ?_
   refine .seq (fun K6 hK6 => ?_)
   refine .region ?_
   refine .m rfl rfl rfl (.fieldAddr fo_27_1_VSFun rfl) ?_
   refine .m rfl rfl rfl (.load on_22_B rfl (by assumption)) ?_
   refine .m rfl rfl rfl (.move rfl) ?_
   refine .call rfl rfl rfl rfl @Try.call40 rfl (szInt64S_s) ?_
   rintro _ _ ⟨heq, lf14, rfl, z114, z214, z314⟩
   obtain rfl := heq.symm
   refine .m rfl rfl rfl (.assign rfl) ?_
   refine .nil ?_
   refine hK6 _ _ ?_
   refine .seq (fun K7 hK7 => ?_)
   refine .seq (fun K8 hK8 => ?_)
   refine .region ?_
   refine .m rfl rfl rfl (.move rfl) ?_
   refine .m rfl rfl rfl (.cmp rfl rfl rfl) ?_
   refine .nil ?_
   refine hK8 _ _ ?_
   refine .cond rfl (fun h16 => ?_) (fun h16 => ?_)
   ·
    try simp only [sps] at h16
    refine .seq (fun K9 hK9 => ?_)
    refine .region ?_
    refine .m rfl rfl rfl (.assign rfl) ?_
    refine .nil ?_
    refine hK9 _ _ ?_
    refine .ret ?_
    -- leaf e2
    refine hret _ _ ?_
    refine ⟨_, rfl, ?_⟩
    first
    | exact ⟨hle, _, rfl, by omega, by omega, fun h => by omega⟩
    | exact ⟨hle, _, rfl, by omega, by omega, fun h => ⟨by assumption, by assumption, by assumption⟩⟩
   ·
    try simp only [sps] at h16
    have hsm14 := z314 (by omega)
    refine .skip ?_
    refine hK7 _ _ ?_
    refine .seq (fun K10 hK10 => ?_)
    refine .region ?_
    refine .m rfl rfl rfl (.fieldAddr fo_27_2_VSFun rfl) ?_
    refine .m rfl rfl rfl (.load on_23_B rfl (by assumption)) ?_
    refine .m rfl rfl rfl (.move rfl) ?_
    refine .call rfl rfl rfl rfl @Try.call28 rfl (szInt64SS_s) ?_
    rintro _ _ ⟨heq, lf20, rfl, z120, z220, z320⟩
    obtain rfl := heq.symm
    refine .m rfl rfl rfl (.assign rfl) ?_
    refine .nil ?_
    refine hK10 _ _ ?_
    refine .seq (fun K11 hK11 => ?_)
    refine .seq (fun K12 hK12 => ?_)
    refine .region ?_
    refine .m rfl rfl rfl (.move rfl) ?_
    refine .m rfl rfl rfl (.cmp rfl rfl rfl) ?_
    refine .nil ?_
    refine hK12 _ _ ?_
    refine .cond rfl (fun h22 => ?_) (fun h22 => ?_)
    ·
     try simp only [sps] at h22
     refine .seq (fun K13 hK13 => ?_)
     refine .region ?_
     refine .m rfl rfl rfl (.assign rfl) ?_
     refine .nil ?_
     refine hK13 _ _ ?_
     refine .ret ?_
     -- leaf e3
     refine hret _ _ ?_
     refine ⟨_, rfl, ?_⟩
     first
     | exact ⟨hle, _, rfl, by omega, by omega, fun h => by omega⟩
     | exact ⟨hle, _, rfl, by omega, by omega, fun h => ⟨by assumption, by assumption, by assumption⟩⟩
    ·
     try simp only [sps] at h22
     have hsm20 := z320 (by omega)
     refine .skip ?_
     refine hK11 _ _ ?_
     refine .seq (fun K14 hK14 => ?_)
     refine .region ?_
     refine .m rfl rfl rfl (.move rfl) ?_
     refine .m rfl rfl rfl (.assign rfl) ?_
     refine .nil ?_
     refine hK14 _ _ ?_
     refine .ret ?_
     -- leaf e4
     refine hret _ _ ?_
     refine ⟨_, rfl, ?_⟩
     first
     | exact ⟨hle, _, rfl, by omega, by omega, fun h => by omega⟩
     | exact ⟨hle, _, rfl, by omega, by omega, fun h => ⟨by assumption, by assumption, by assumption⟩⟩
set_option maxHeartbeats 4000000 in
theorem toSetFunctor_c {c : SFun} {p : SFunP} {H : GHeap} (hin : c.In H p := by assumption) (hs : c.Small := by assumption) : GCalls Try.prog 20 [.agg (c.cells p).toArray] H (NewSFun H c) := by
  obtain ⟨w0, w1, ⟨wa2, wb2⟩⟩ := hs
  refine GCalls.body (N := 17) (rs := [.cell 2 39]) Try.func20 rfl rfl rfl rfl (fun Qx hret hend => ?_)
  refine .forget (fr' := [(0, some _)]) ⟨rfl, trivial⟩ ?_
  have hle := GHeap.Le.refl H
  have base_hin := hin
  refine .seq (fun K1 hK1 => ?_)
  refine .region ?_
  refine .r rfl rfl rfl (.boxR rfl sz_27_VSFun rfl) ?_
  rintro _ H1 ⟨g1, rfl, le1, ge1, at1⟩
  have nx_H1 := le1.1
  replace hle := hle.trans le1
  have lt_at1 := GHeap.lt_of_get at1
  replace hin := base_hin.mono hle
  have hb1 : SFun.At _ g1 0 c p := ⟨Mem.of_get at1, hin⟩
  obtain ⟨fsh1, c51, c61, i11, i21⟩ := hb1.get
  have hm1 : MemN _ _ _ _ _ := ⟨rfl, hb1.1⟩
  have hi1 := hb1.2
  have hmsh1 : MemN _ _ _ _ _ := ⟨rfl, fsh1.1⟩
  have hish1 := fsh1.2
  refine .r rfl rfl rfl (.allocR rfl ze_39_VSFun rfl) ?_
  rintro _ H2 ⟨g2, rfl, le2, ge2, at2⟩
  have nx_H2 := le2.1
  replace hle := hle.trans le2
  replace at1 := le2.2 _ _ at1
  have lt_at2 := GHeap.lt_of_get at2
  replace hin := base_hin.mono hle
  clear hb1 fsh1 c51 c61 i11 i21 hm1 hi1 hmsh1 hish1
  have hb1 : SFun.At _ g1 0 c p := ⟨Mem.of_get at1, hin⟩
  obtain ⟨fsh1, c51, c61, i11, i21⟩ := hb1.get
  have hm1 : MemN _ _ _ _ _ := ⟨rfl, hb1.1⟩
  have hi1 := hb1.2
  have hmsh1 : MemN _ _ _ _ _ := ⟨rfl, fsh1.1⟩
  have hish1 := fsh1.2
  refine .nil ?_
  refine hK1 _ _ ?_
  refine .seq (fun K2 hK2 => ?_)
  refine .region ?_
  refine .r rfl rfl rfl (.allocR rfl ze_39_VSFun rfl) ?_
  rintro _ H3 ⟨g3, rfl, le3, ge3, at3⟩
  have nx_H3 := le3.1
  replace hle := hle.trans le3
  replace at1 := le3.2 _ _ at1
  replace at2 := le3.2 _ _ at2
  have lt_at3 := GHeap.lt_of_get at3
  replace hin := base_hin.mono hle
  clear hb1 fsh1 c51 c61 i11 i21 hm1 hi1 hmsh1 hish1
  have hb1 : SFun.At _ g1 0 c p := ⟨Mem.of_get at1, hin⟩
  obtain ⟨fsh1, c51, c61, i11, i21⟩ := hb1.get
  have hm1 : MemN _ _ _ _ _ := ⟨rfl, hb1.1⟩
  have hi1 := hb1.2
  have hmsh1 : MemN _ _ _ _ _ := ⟨rfl, fsh1.1⟩
  have hish1 := fsh1.2
  refine .nil ?_
  refine hK2 _ _ ?_
  refine .seq (fun K3 hK3 => ?_)
  refine .region ?_
  refine .m rfl rfl rfl (.fieldAddr fo_27_0_VSFun rfl) ?_
  refine .m rfl rfl rfl (.loadM ag_25_VSFun rfl (by assumption)) ?_
  refine .call rfl rfl rfl rfl @Try.call43 rfl (toCategory_c) ?_
  rintro _ H6 ⟨le6, p6, rfl, v6⟩
  have nx_H6 := le6.1
  replace hle := hle.trans le6
  replace at1 := le6.2 _ _ at1
  replace at2 := le6.2 _ _ at2
  replace at3 := le6.2 _ _ at3
  have bs_v6 := v6
  have lv_v6 : Keep H3.next H6 H6 := fun _ _ _ h => h
  replace hin := base_hin.mono hle
  clear hb1 fsh1 c51 c61 i11 i21 hm1 hi1 hmsh1 hish1
  have hb1 : SFun.At _ g1 0 c p := ⟨Mem.of_get at1, hin⟩
  obtain ⟨fsh1, c51, c61, i11, i21⟩ := hb1.get
  have hm1 : MemN _ _ _ _ _ := ⟨rfl, hb1.1⟩
  have hi1 := hb1.2
  have hmsh1 : MemN _ _ _ _ _ := ⟨rfl, fsh1.1⟩
  have hish1 := fsh1.2
  have i6 := v6.inn
  refine .m rfl rfl rfl (.fieldAddr fo_39_0_VSFun rfl) ?_
  refine .r0 rfl rfl (.storeNR rfl sz_37_D rfl rfl rfl rfl (by assumption) (by first | rfl | exact Nat.le_of_ble_eq_true rfl | simp)) ?_
  rintro _ H2004 ⟨rfl, st2004, at2004⟩
  have nx_H2004 := st2004.nx
  replace hle := hle.st st2004 (fun k hk => ⟨by omega, trivial⟩)
  replace at1 := st2004.same _ _ ⟨by omega, trivial⟩ at1
  replace at2 := st2004.same _ _ ⟨by omega, trivial⟩ at2
  replace lv_v6 := Keep.st lv_v6 st2004 (fun k hb hk => ⟨by omega, trivial⟩)
  replace v6 := bs_v6.keep lv_v6 (Nat.le_refl _)
  have lt_at2004 := GHeap.lt_of_get at2004
  replace hin := base_hin.mono hle
  clear hb1 fsh1 c51 c61 i11 i21 hm1 hi1 hmsh1 hish1
  have hb1 : SFun.At _ g1 0 c p := ⟨Mem.of_get at1, hin⟩
  obtain ⟨fsh1, c51, c61, i11, i21⟩ := hb1.get
  have hm1 : MemN _ _ _ _ _ := ⟨rfl, hb1.1⟩
  have hi1 := hb1.2
  have hmsh1 : MemN _ _ _ _ _ := ⟨rfl, fsh1.1⟩
  have hish1 := fsh1.2
  clear i6
  have i6 := v6.inn
  refine .nil ?_
  refine hK3 _ _ ?_
  refine .seq (fun K4 hK4 => ?_)
  refine .region ?_
  refine .m rfl rfl rfl (.fieldAddr fo_27_1_VSFun rfl) ?_
  refine .m rfl rfl rfl (.load on_22_B rfl (by assumption)) ?_
  refine .call rfl rfl rfl rfl @Try.call44 rfl (toInt64S_c) ?_
  rintro _ H10 ⟨le10, g10, rfl, at10, ge10⟩
  have nx_H10 := le10.1
  replace hle := hle.trans le10
  replace at1 := le10.2 _ _ at1
  replace at2 := le10.2 _ _ at2
  replace at2004 := le10.2 _ _ at2004
  replace lv_v6 := Keep.le lv_v6 le10
  replace v6 := bs_v6.keep lv_v6 (Nat.le_refl _)
  have lt_at10 := GHeap.lt_of_get at10
  replace hin := base_hin.mono hle
  clear hb1 fsh1 c51 c61 i11 i21 hm1 hi1 hmsh1 hish1
  have hb1 : SFun.At _ g1 0 c p := ⟨Mem.of_get at1, hin⟩
  obtain ⟨fsh1, c51, c61, i11, i21⟩ := hb1.get
  have hm1 : MemN _ _ _ _ _ := ⟨rfl, hb1.1⟩
  have hi1 := hb1.2
  have hmsh1 : MemN _ _ _ _ _ := ⟨rfl, fsh1.1⟩
  have hish1 := fsh1.2
  clear i6
  have i6 := v6.inn
  have i10 := Ints.of_get at10
  refine .m rfl rfl rfl (.fieldAddr fo_39_1_VSFun rfl) ?_
  refine .r0 rfl rfl (.storeR rfl sz_22_E rfl rfl rfl (by assumption) (by first | exact Nat.le_of_ble_eq_true rfl | simp)) ?_
  rintro _ H3004 ⟨rfl, st3004, at3004⟩
  have nx_H3004 := st3004.nx
  replace hle := hle.st st3004 (fun k hk => ⟨by omega, trivial⟩)
  replace at1 := st3004.same _ _ ⟨by omega, trivial⟩ at1
  replace at2 := st3004.same _ _ ⟨by omega, trivial⟩ at2
  replace at10 := st3004.same _ _ ⟨by omega, trivial⟩ at10
  replace lv_v6 := Keep.st lv_v6 st3004 (fun k hb hk => ⟨by omega, trivial⟩)
  replace v6 := bs_v6.keep lv_v6 (Nat.le_refl _)
  have lt_at3004 := GHeap.lt_of_get at3004
  replace hin := base_hin.mono hle
  clear hb1 fsh1 c51 c61 i11 i21 hm1 hi1 hmsh1 hish1
  have hb1 : SFun.At _ g1 0 c p := ⟨Mem.of_get at1, hin⟩
  obtain ⟨fsh1, c51, c61, i11, i21⟩ := hb1.get
  have hm1 : MemN _ _ _ _ _ := ⟨rfl, hb1.1⟩
  have hi1 := hb1.2
  have hmsh1 : MemN _ _ _ _ _ := ⟨rfl, fsh1.1⟩
  have hish1 := fsh1.2
  clear i6
  have i6 := v6.inn
  clear i10
  have i10 := Ints.of_get at10
  refine .nil ?_
  refine hK4 _ _ ?_
  refine .seq (fun K5 hK5 => ?_)
  refine .region ?_
  refine .m rfl rfl rfl (.fieldAddr fo_27_2_VSFun rfl) ?_
  refine .m rfl rfl rfl (.load on_23_B rfl (by assumption)) ?_
  refine .call rfl rfl rfl rfl @Try.call32 rfl (toInt64SS_c) ?_
  rintro _ H14 ⟨le14, a14, r14, rfl, v14⟩
  have nx_H14 := le14.1
  replace hle := hle.trans le14
  replace at1 := le14.2 _ _ at1
  replace at2 := le14.2 _ _ at2
  replace at10 := le14.2 _ _ at10
  replace at3004 := le14.2 _ _ at3004
  replace lv_v6 := Keep.le lv_v6 le14
  replace v6 := bs_v6.keep lv_v6 (Nat.le_refl _)
  have bs_v14 := v14
  have lv_v14 : Keep H3004.next H14 H14 := fun _ _ _ h => h
  replace hin := base_hin.mono hle
  clear hb1 fsh1 c51 c61 i11 i21 hm1 hi1 hmsh1 hish1
  have hb1 : SFun.At _ g1 0 c p := ⟨Mem.of_get at1, hin⟩
  obtain ⟨fsh1, c51, c61, i11, i21⟩ := hb1.get
  have hm1 : MemN _ _ _ _ _ := ⟨rfl, hb1.1⟩
  have hi1 := hb1.2
  have hmsh1 : MemN _ _ _ _ _ := ⟨rfl, fsh1.1⟩
  have hish1 := fsh1.2
  clear i6
  have i6 := v6.inn
  clear i10
  have i10 := Ints.of_get at10
  have i14 := v14.intss
  refine .m rfl rfl rfl (.fieldAddr fo_39_2_VSFun rfl) ?_
  refine .r0 rfl rfl (.storeR rfl sz_23_E rfl rfl rfl (by assumption) (by first | exact Nat.le_of_ble_eq_true rfl | simp)) ?_
  rintro _ H4004 ⟨rfl, st4004, at4004⟩
  have nx_H4004 := st4004.nx
  replace hle := hle.st st4004 (fun k hk => ⟨by omega, trivial⟩)
  replace at1 := st4004.same _ _ ⟨by omega, trivial⟩ at1
  replace at2 := st4004.same _ _ ⟨by omega, trivial⟩ at2
  replace at10 := st4004.same _ _ ⟨by omega, trivial⟩ at10
  replace lv_v6 := Keep.st lv_v6 st4004 (fun k hb hk => ⟨by omega, trivial⟩)
  replace v6 := bs_v6.keep lv_v6 (Nat.le_refl _)
  replace lv_v14 := Keep.st lv_v14 st4004 (fun k hb hk => ⟨by omega, trivial⟩)
  replace v14 := bs_v14.keep lv_v14 (Nat.le_refl _)
  have lt_at4004 := GHeap.lt_of_get at4004
  replace hin := base_hin.mono hle
  clear hb1 fsh1 c51 c61 i11 i21 hm1 hi1 hmsh1 hish1
  have hb1 : SFun.At _ g1 0 c p := ⟨Mem.of_get at1, hin⟩
  obtain ⟨fsh1, c51, c61, i11, i21⟩ := hb1.get
  have hm1 : MemN _ _ _ _ _ := ⟨rfl, hb1.1⟩
  have hi1 := hb1.2
  have hmsh1 : MemN _ _ _ _ _ := ⟨rfl, fsh1.1⟩
  have hish1 := fsh1.2
  clear i6
  have i6 := v6.inn
  clear i10
  have i10 := Ints.of_get at10
  clear i14
  have i14 := v14.intss
  refine .nil ?_
  refine hK5 _ _ ?_
  refine .seq (fun K6 hK6 => ?_)
  refine .region ?_
  refine .m rfl rfl rfl (.loadM ag_39_VSFun rfl ⟨rfl, Mem.of_get at4004⟩) ?_
  refine .r0 rfl rfl (.fillR rfl sz_39_VSFun rfl rfl rfl rfl (by assumption) (by first | rfl | exact Nat.le_of_ble_eq_true rfl | simp)) ?_
  rintro _ H5001 ⟨rfl, st5001, at5001⟩
  have nx_H5001 := st5001.nx
  replace hle := hle.st st5001 (fun k hk => ⟨by omega, trivial⟩)
  replace at1 := st5001.same _ _ ⟨by omega, trivial⟩ at1
  replace at10 := st5001.same _ _ ⟨by omega, trivial⟩ at10
  replace at4004 := st5001.same _ _ ⟨by omega, trivial⟩ at4004
  replace lv_v6 := Keep.st lv_v6 st5001 (fun k hb hk => ⟨by omega, trivial⟩)
  replace v6 := bs_v6.keep lv_v6 (Nat.le_refl _)
  replace lv_v14 := Keep.st lv_v14 st5001 (fun k hb hk => ⟨by omega, trivial⟩)
  replace v14 := bs_v14.keep lv_v14 (Nat.le_refl _)
  have lt_at5001 := GHeap.lt_of_get at5001
  replace hin := base_hin.mono hle
  clear hb1 fsh1 c51 c61 i11 i21 hm1 hi1 hmsh1 hish1
  have hb1 : SFun.At _ g1 0 c p := ⟨Mem.of_get at1, hin⟩
  obtain ⟨fsh1, c51, c61, i11, i21⟩ := hb1.get
  have hm1 : MemN _ _ _ _ _ := ⟨rfl, hb1.1⟩
  have hi1 := hb1.2
  have hmsh1 : MemN _ _ _ _ _ := ⟨rfl, fsh1.1⟩
  have hish1 := fsh1.2
  clear i6
  have i6 := v6.inn
  clear i10
  have i10 := Ints.of_get at10
  clear i14
  have i14 := v14.intss
  have mm5001 : MemN _ _ _ _ _ := ⟨rfl, Mem.of_get at5001⟩
  refine .nil ?_
  refine hK6 _ _ ?_
  refine .ret ?_
  -- leaf e1
  refine hret _ _ ?_
  refine ⟨_, _, _, _, rfl, ag_39_VSFun, (by rfl), (Mem.of_get at5001), ?_⟩
  exact ⟨hle, ⟨p6, some ⟨g10, 0, none⟩, a14, r14⟩, rfl, ⟨v6.keep (.of_le (.refl _)) (by omega), ⟨g10, _, rfl, by omega, at10⟩, v14.keep (.of_le (.refl _)) (by omega)⟩⟩
set_option maxHeartbeats 4000000 in
theorem eqSetFunctor_c {c : SFun} {p p' : SFunP} {H : GHeap} (hin : c.In H p := by assumption) (hin' : c.In H p' := by assumption) (hs : c.Small := by assumption) : GCalls Try.prog 22 [.agg (c.cells p).toArray, .agg (c.cells p').toArray] H (Ret (.bool true) H) := by
  refine GCalls.ret rfl ?_
  obtain ⟨w0, w1, ⟨wa2, wb2⟩⟩ := hs
  refine GCalls.body (N := 23) (rs := [.tmp 4]) Try.func22 rfl rfl rfl rfl (fun Qx hret hend => ?_)
  refine .forget (fr' := [(0, some _), (1, some _)]) ⟨rfl, rfl, trivial⟩ ?_
  have hle := GHeap.Le.refl H
  have base_hin := hin
  have base_hin' := hin'
  refine .seq (fun K1 hK1 => ?_)
  refine .region ?_
  refine .r rfl rfl rfl (.boxR rfl sz_39_VSFun rfl) ?_
  rintro _ H2 ⟨g2, rfl, le2, ge2, at2⟩
  have nx_H2 := le2.1
  replace hle := hle.trans le2
  have lt_at2 := GHeap.lt_of_get at2
  replace hin := base_hin.mono hle
  replace hin' := base_hin'.mono hle
  have hb2 : SFun.At _ g2 0 c p := ⟨Mem.of_get at2, hin⟩
  obtain ⟨fsh2, c52, c62, i12, i22⟩ := hb2.get
  have hm2 : MemN _ _ _ _ _ := ⟨rfl, hb2.1⟩
  have hi2 := hb2.2
  have hmsh2 : MemN _ _ _ _ _ := ⟨rfl, fsh2.1⟩
  have hish2 := fsh2.2
  refine .r rfl rfl rfl (.boxR rfl sz_39_VSFun rfl) ?_
  rintro _ H3 ⟨g3, rfl, le3, ge3, at3⟩
  have nx_H3 := le3.1
  replace hle := hle.trans le3
  replace at2 := le3.2 _ _ at2
  have lt_at3 := GHeap.lt_of_get at3
  replace hin := base_hin.mono hle
  replace hin' := base_hin'.mono hle
  clear hb2 fsh2 c52 c62 i12 i22 hm2 hi2 hmsh2 hish2
  have hb2 : SFun.At _ g2 0 c p := ⟨Mem.of_get at2, hin⟩
  obtain ⟨fsh2, c52, c62, i12, i22⟩ := hb2.get
  have hm2 : MemN _ _ _ _ _ := ⟨rfl, hb2.1⟩
  have hi2 := hb2.2
  have hmsh2 : MemN _ _ _ _ _ := ⟨rfl, fsh2.1⟩
  have hish2 := fsh2.2
  have hb3 : SFun.At _ g3 0 c p' := ⟨Mem.of_get at3, hin'⟩
  obtain ⟨fsh3, c53, c63, i13, i23⟩ := hb3.get
  have hm3 : MemN _ _ _ _ _ := ⟨rfl, hb3.1⟩
  have hi3 := hb3.2
  have hmsh3 : MemN _ _ _ _ _ := ⟨rfl, fsh3.1⟩
  have hish3 := fsh3.2
  refine .m rfl rfl rfl (.assign rfl) ?_
  refine .nil ?_
  refine hK1 _ _ ?_
  refine .seq (fun K2 hK2 => ?_)
  refine .seq (fun K3 hK3 => ?_)
  refine .region ?_
  refine .m rfl rfl rfl (.fieldAddr fo_39_0_VSFun rfl) ?_
  refine .m rfl rfl rfl (.loadM ag_37_D rfl (by assumption)) ?_
  refine .m rfl rfl rfl (.fieldAddr fo_39_0_VSFun rfl) ?_
  refine .m rfl rfl rfl (.loadM ag_37_D rfl (by assumption)) ?_
  refine .callQ rfl rfl rfl rfl @Try.call47 rfl (eqCategory_c) ?_
  refine .m rfl rfl rfl (.not rfl) ?_
  refine .nil ?_
  refine hK3 _ _ ?_
  refine .cond rfl (fun h10 => ?_) (fun h10 => ?_)
  ·
   try simp only [sps] at h10
   refine .seq (fun K4 hK4 => ?_)
   refine .region ?_
   refine .m rfl rfl rfl (.assign rfl) ?_
   refine .nil ?_
   refine hK4 _ _ ?_
   refine .ret ?_
   -- leaf e1
   refine hret _ _ ?_
   refine ⟨_, rfl, ?_⟩
   first
   | exact ⟨rfl, hle⟩
   | exact absurd trivial (by assumption)
   | contradiction
   | (exfalso; omega)
   | (exfalso; simp_all)
  ·
   try simp only [sps] at h10
   refine .skip ?_
   refine hK2 _ _ ?_
   refine .seq (fun K5 hK5 => ?_)
   refine .seq (fun K6 hK6 => ?_)
   refine .region ?_
   refine .m rfl rfl rfl (.fieldAddr fo_39_1_VSFun rfl) ?_
   refine .m rfl rfl rfl (.load on_22_B rfl (by assumption)) ?_
   refine .m rfl rfl rfl (.fieldAddr fo_39_1_VSFun rfl) ?_
   refine .m rfl rfl rfl (.load on_22_B rfl (by assumption)) ?_
   refine .callQ rfl rfl rfl rfl @Try.call48 rfl (eqInt64S_c) ?_
   refine .m rfl rfl rfl (.not rfl) ?_
   refine .nil ?_
   refine hK6 _ _ ?_
   refine .cond rfl (fun h16 => ?_) (fun h16 => ?_)
   ·
    try simp only [sps] at h16
    refine .seq (fun K7 hK7 => ?_)
    refine .region ?_
    refine .m rfl rfl rfl (.assign rfl) ?_
    refine .nil ?_
    refine hK7 _ _ ?_
    refine .ret ?_
    -- leaf e2
    refine hret _ _ ?_
    refine ⟨_, rfl, ?_⟩
    first
    | exact ⟨rfl, hle⟩
    | exact absurd trivial (by assumption)
    | contradiction
    | (exfalso; omega)
    | (exfalso; simp_all)
   ·
    try simp only [sps] at h16
    refine .skip ?_
    refine hK5 _ _ ?_
    refine .seq (fun K8 hK8 => ?_)
    refine .seq (fun K9 hK9 => ?_)
    refine .region ?_
    refine .m rfl rfl rfl (.fieldAddr fo_39_2_VSFun rfl) ?_
    refine .m rfl rfl rfl (.load on_23_B rfl (by assumption)) ?_
    refine .m rfl rfl rfl (.fieldAddr fo_39_2_VSFun rfl) ?_
    refine .m rfl rfl rfl (.load on_23_B rfl (by assumption)) ?_
    refine .callQ rfl rfl rfl rfl @Try.call36 rfl (eqInt64SS_c) ?_
    refine .m rfl rfl rfl (.not rfl) ?_
    refine .nil ?_
    refine hK9 _ _ ?_
    refine .cond rfl (fun h22 => ?_) (fun h22 => ?_)
    ·
     try simp only [sps] at h22
     refine .seq (fun K10 hK10 => ?_)
     refine .region ?_
     refine .m rfl rfl rfl (.assign rfl) ?_
     refine .nil ?_
     refine hK10 _ _ ?_
     refine .ret ?_
     -- leaf e3
     refine hret _ _ ?_
     refine ⟨_, rfl, ?_⟩
     first
     | exact ⟨rfl, hle⟩
     | exact absurd trivial (by assumption)
     | contradiction
     | (exfalso; omega)
     | (exfalso; simp_all)
    ·
     try simp only [sps] at h22
     refine .skip ?_
     refine hK8 _ _ ?_
     refine .seq (fun K11 hK11 => ?_)
     refine .region ?_
     refine .m rfl rfl rfl (.assign rfl) ?_
     refine .nil ?_
     refine hK11 _ _ ?_
     refine .ret ?_
     -- leaf e4
     refine hret _ _ ?_
     refine ⟨_, rfl, ?_⟩
     first
     | exact ⟨rfl, hle⟩
     | exact absurd trivial (by assumption)
     | contradiction
     | (exfalso; omega)
     | (exfalso; simp_all)
end Go.Proofs.Ytbpehbbdodahaaa
/- The laws' helpers for SetMap. No condition but those of each statement. -/
namespace Go.Proofs.Ytbpehbbdodahaaa
open Go Go.GL Go.RowKit Go.Proofs
theorem sz_29_VSMap : (Try.prog.info? 29).map (·.size) = some 15 := by kernel_rfl
theorem fo_29_0_VSMap : fieldOff Try.prog 29 0 = some 0 := by kernel_rfl
theorem ag_27_VSMap : aggT Try.prog 27 = some 7 := by kernel_rfl
theorem fo_29_1_VSMap : fieldOff Try.prog 29 1 = some 7 := by kernel_rfl
theorem fo_29_2_VSMap : fieldOff Try.prog 29 2 = some 14 := by kernel_rfl
theorem ze_41_VSMap : zeroT Try.prog 41 = some ([.int .i64 0, .slice none 0 0, .slice none 0 0, .slice none 0 0, .slice none 0 0, .slice none 0 0, .slice none 0 0, .int .i64 0, .slice none 0 0, .slice none 0 0, .slice none 0 0, .slice none 0 0, .slice none 0 0, .slice none 0 0, .slice none 0 0], 15) := by kernel_rfl
theorem fo_41_0_VSMap : fieldOff Try.prog 41 0 = some 0 := by kernel_rfl
theorem fo_41_1_VSMap : fieldOff Try.prog 41 1 = some 7 := by kernel_rfl
theorem fo_41_2_VSMap : fieldOff Try.prog 41 2 = some 14 := by kernel_rfl
theorem ag_41_VSMap : aggT Try.prog 41 = some 15 := by kernel_rfl
theorem sz_41_VSMap : (Try.prog.info? 41).map (·.size) = some 15 := by kernel_rfl
theorem szSetMap_c {c : SMap} {p : SMapP} {left : Int} {H : GHeap} (hin : c.In H p := by assumption) (hw : c.Wide := by assumption) (h0 : 0 ≤ left := by omega) (h1 : left ≤ 1048576 := by omega) :
    GCalls Try.prog 7 [.agg (c.cells p).toArray, .int .i64 left] H (SzR left c.Small H) := by
  refine SzR.of ?_
  obtain ⟨w0, w1, ⟨wa2, wb2⟩⟩ := hw
  refine GCalls.body (N := 24) (rs := [.tmp 4]) Try.func7 rfl rfl rfl rfl (fun Qx hret hend => ?_)
  refine .forget (fr' := [(0, some _), (1, some _)]) ⟨rfl, rfl, trivial⟩ ?_
  have hle := GHeap.Le.refl H
  have base_hin := hin
  refine .seq (fun K1 hK1 => ?_)
  refine .region ?_
  refine .r rfl rfl rfl (.boxR rfl sz_29_VSMap rfl) ?_
  rintro _ H2 ⟨g2, rfl, le2, ge2, at2⟩
  have nx_H2 := le2.1
  replace hle := hle.trans le2
  have lt_at2 := GHeap.lt_of_get at2
  replace hin := base_hin.mono hle
  have hb2 : SMap.At _ g2 0 c p := ⟨Mem.of_get at2, hin⟩
  obtain ⟨fs2, ft2, c142, i22⟩ := hb2.get
  have hm2 : MemN _ _ _ _ _ := ⟨rfl, hb2.1⟩
  have hi2 := hb2.2
  have hms2 : MemN _ _ _ _ _ := ⟨rfl, fs2.1⟩
  have his2 := fs2.2
  have hmt2 : MemN _ _ _ _ _ := ⟨rfl, ft2.1⟩
  have hit2 := ft2.2
  refine .m rfl rfl rfl (.assign rfl) ?_
  refine .nil ?_
  refine hK1 _ _ ?_
  refine .seq (fun K2 hK2 => ?_)
  refine .region ?_
  refine .m rfl rfl rfl (.fieldAddr fo_29_0_VSMap rfl) ?_
  refine .m rfl rfl rfl (.loadM ag_27_VSMap rfl (by assumption)) ?_
  refine .m rfl rfl rfl (.move rfl) ?_
  refine .call rfl rfl rfl rfl @Try.call18 rfl (szSetFunctor_c) ?_
  rintro _ _ ⟨heq, lf8, rfl, z18, z28, z38⟩
  obtain rfl := heq.symm
  refine .m rfl rfl rfl (.assign rfl) ?_
  refine .nil ?_
  refine hK2 _ _ ?_
  refine .seq (fun K3 hK3 => ?_)
  refine .seq (fun K4 hK4 => ?_)
  refine .region ?_
  refine .m rfl rfl rfl (.move rfl) ?_
  refine .m rfl rfl rfl (.cmp rfl rfl rfl) ?_
  refine .nil ?_
  refine hK4 _ _ ?_
  refine .cond rfl (fun h10 => ?_) (fun h10 => ?_)
  ·
   try simp only [sps] at h10
   refine .seq (fun K5 hK5 => ?_)
   refine .region ?_
   refine .m rfl rfl rfl (.assign rfl) ?_
   refine .nil ?_
   refine hK5 _ _ ?_
   refine .ret ?_
   -- leaf e1
   refine hret _ _ ?_
   refine ⟨_, rfl, ?_⟩
   first
   | exact ⟨hle, _, rfl, by omega, by omega, fun h => by omega⟩
   | exact ⟨hle, _, rfl, by omega, by omega, fun h => ⟨by assumption, by assumption, by assumption⟩⟩
  ·
   try simp only [sps] at h10
   have hsm8 := z38 (by omega)
   refine .skip ?_
   refine hK3 _ _ ?_
   refine .seq (fun K6 hK6 => ?_)
   refine .region ?_
   refine .m rfl rfl rfl (.fieldAddr fo_29_1_VSMap rfl) ?_
   refine .m rfl rfl rfl (.loadM ag_27_VSMap rfl (by assumption)) ?_
   refine .m rfl rfl rfl (.move rfl) ?_
   refine .call rfl rfl rfl rfl @Try.call18 rfl (szSetFunctor_c) ?_
   rintro _ _ ⟨heq, lf14, rfl, z114, z214, z314⟩
   obtain rfl := heq.symm
   refine .m rfl rfl rfl (.assign rfl) ?_
   refine .nil ?_
   refine hK6 _ _ ?_
   refine .seq (fun K7 hK7 => ?_)
   refine .seq (fun K8 hK8 => ?_)
   refine .region ?_
   refine .m rfl rfl rfl (.move rfl) ?_
   refine .m rfl rfl rfl (.cmp rfl rfl rfl) ?_
   refine .nil ?_
   refine hK8 _ _ ?_
   refine .cond rfl (fun h16 => ?_) (fun h16 => ?_)
   ·
    try simp only [sps] at h16
    refine .seq (fun K9 hK9 => ?_)
    refine .region ?_
    refine .m rfl rfl rfl (.assign rfl) ?_
    refine .nil ?_
    refine hK9 _ _ ?_
    refine .ret ?_
    -- leaf e2
    refine hret _ _ ?_
    refine ⟨_, rfl, ?_⟩
    first
    | exact ⟨hle, _, rfl, by omega, by omega, fun h => by omega⟩
    | exact ⟨hle, _, rfl, by omega, by omega, fun h => ⟨by assumption, by assumption, by assumption⟩⟩
   ·
    try simp only [sps] at h16
    have hsm14 := z314 (by omega)
    refine .skip ?_
    refine hK7 _ _ ?_
    refine .seq (fun K10 hK10 => ?_)
    refine .region ?_
    refine .m rfl rfl rfl (.fieldAddr fo_29_2_VSMap rfl) ?_
    refine .m rfl rfl rfl (.load on_23_B rfl (by assumption)) ?_
    refine .m rfl rfl rfl (.move rfl) ?_
    refine .call rfl rfl rfl rfl @Try.call28 rfl (szInt64SS_s) ?_
    rintro _ _ ⟨heq, lf20, rfl, z120, z220, z320⟩
    obtain rfl := heq.symm
    refine .m rfl rfl rfl (.assign rfl) ?_
    refine .nil ?_
    refine hK10 _ _ ?_
    refine .seq (fun K11 hK11 => ?_)
    refine .seq (fun K12 hK12 => ?_)
    refine .region ?_
    refine .m rfl rfl rfl (.move rfl) ?_
    refine .m rfl rfl rfl (.cmp rfl rfl rfl) ?_
    refine .nil ?_
    refine hK12 _ _ ?_
    refine .cond rfl (fun h22 => ?_) (fun h22 => ?_)
    ·
     try simp only [sps] at h22
     refine .seq (fun K13 hK13 => ?_)
     refine .region ?_
     refine .m rfl rfl rfl (.assign rfl) ?_
     refine .nil ?_
     refine hK13 _ _ ?_
     refine .ret ?_
     -- leaf e3
     refine hret _ _ ?_
     refine ⟨_, rfl, ?_⟩
     first
     | exact ⟨hle, _, rfl, by omega, by omega, fun h => by omega⟩
     | exact ⟨hle, _, rfl, by omega, by omega, fun h => ⟨by assumption, by assumption, by assumption⟩⟩
    ·
     try simp only [sps] at h22
     have hsm20 := z320 (by omega)
     refine .skip ?_
     refine hK11 _ _ ?_
     refine .seq (fun K14 hK14 => ?_)
     refine .region ?_
     refine .m rfl rfl rfl (.move rfl) ?_
     refine .m rfl rfl rfl (.assign rfl) ?_
     refine .nil ?_
     refine hK14 _ _ ?_
     refine .ret ?_
     -- leaf e4
     refine hret _ _ ?_
     refine ⟨_, rfl, ?_⟩
     first
     | exact ⟨hle, _, rfl, by omega, by omega, fun h => by omega⟩
     | exact ⟨hle, _, rfl, by omega, by omega, fun h => ⟨by assumption, by assumption, by assumption⟩⟩
set_option maxHeartbeats 4000000 in
theorem toSetMap_c {c : SMap} {p : SMapP} {H : GHeap} (hin : c.In H p := by assumption) (hs : c.Small := by assumption) : GCalls Try.prog 10 [.agg (c.cells p).toArray] H (NewSMap H c) := by
  obtain ⟨w0, w1, ⟨wa2, wb2⟩⟩ := hs
  refine GCalls.body (N := 17) (rs := [.cell 2 41]) Try.func10 rfl rfl rfl rfl (fun Qx hret hend => ?_)
  refine .forget (fr' := [(0, some _)]) ⟨rfl, trivial⟩ ?_
  have hle := GHeap.Le.refl H
  have base_hin := hin
  refine .seq (fun K1 hK1 => ?_)
  refine .region ?_
  refine .r rfl rfl rfl (.boxR rfl sz_29_VSMap rfl) ?_
  rintro _ H1 ⟨g1, rfl, le1, ge1, at1⟩
  have nx_H1 := le1.1
  replace hle := hle.trans le1
  have lt_at1 := GHeap.lt_of_get at1
  replace hin := base_hin.mono hle
  have hb1 : SMap.At _ g1 0 c p := ⟨Mem.of_get at1, hin⟩
  obtain ⟨fs1, ft1, c141, i21⟩ := hb1.get
  have hm1 : MemN _ _ _ _ _ := ⟨rfl, hb1.1⟩
  have hi1 := hb1.2
  have hms1 : MemN _ _ _ _ _ := ⟨rfl, fs1.1⟩
  have his1 := fs1.2
  have hmt1 : MemN _ _ _ _ _ := ⟨rfl, ft1.1⟩
  have hit1 := ft1.2
  refine .r rfl rfl rfl (.allocR rfl ze_41_VSMap rfl) ?_
  rintro _ H2 ⟨g2, rfl, le2, ge2, at2⟩
  have nx_H2 := le2.1
  replace hle := hle.trans le2
  replace at1 := le2.2 _ _ at1
  have lt_at2 := GHeap.lt_of_get at2
  replace hin := base_hin.mono hle
  clear hb1 fs1 ft1 c141 i21 hm1 hi1 hms1 his1 hmt1 hit1
  have hb1 : SMap.At _ g1 0 c p := ⟨Mem.of_get at1, hin⟩
  obtain ⟨fs1, ft1, c141, i21⟩ := hb1.get
  have hm1 : MemN _ _ _ _ _ := ⟨rfl, hb1.1⟩
  have hi1 := hb1.2
  have hms1 : MemN _ _ _ _ _ := ⟨rfl, fs1.1⟩
  have his1 := fs1.2
  have hmt1 : MemN _ _ _ _ _ := ⟨rfl, ft1.1⟩
  have hit1 := ft1.2
  refine .nil ?_
  refine hK1 _ _ ?_
  refine .seq (fun K2 hK2 => ?_)
  refine .region ?_
  refine .r rfl rfl rfl (.allocR rfl ze_41_VSMap rfl) ?_
  rintro _ H3 ⟨g3, rfl, le3, ge3, at3⟩
  have nx_H3 := le3.1
  replace hle := hle.trans le3
  replace at1 := le3.2 _ _ at1
  replace at2 := le3.2 _ _ at2
  have lt_at3 := GHeap.lt_of_get at3
  replace hin := base_hin.mono hle
  clear hb1 fs1 ft1 c141 i21 hm1 hi1 hms1 his1 hmt1 hit1
  have hb1 : SMap.At _ g1 0 c p := ⟨Mem.of_get at1, hin⟩
  obtain ⟨fs1, ft1, c141, i21⟩ := hb1.get
  have hm1 : MemN _ _ _ _ _ := ⟨rfl, hb1.1⟩
  have hi1 := hb1.2
  have hms1 : MemN _ _ _ _ _ := ⟨rfl, fs1.1⟩
  have his1 := fs1.2
  have hmt1 : MemN _ _ _ _ _ := ⟨rfl, ft1.1⟩
  have hit1 := ft1.2
  refine .nil ?_
  refine hK2 _ _ ?_
  refine .seq (fun K3 hK3 => ?_)
  refine .region ?_
  refine .m rfl rfl rfl (.fieldAddr fo_29_0_VSMap rfl) ?_
  refine .m rfl rfl rfl (.loadM ag_27_VSMap rfl (by assumption)) ?_
  refine .call rfl rfl rfl rfl @Try.call20 rfl (toSetFunctor_c) ?_
  rintro _ H6 ⟨le6, p6, rfl, v6⟩
  have nx_H6 := le6.1
  replace hle := hle.trans le6
  replace at1 := le6.2 _ _ at1
  replace at2 := le6.2 _ _ at2
  replace at3 := le6.2 _ _ at3
  have bs_v6 := v6
  have lv_v6 : Keep H3.next H6 H6 := fun _ _ _ h => h
  replace hin := base_hin.mono hle
  clear hb1 fs1 ft1 c141 i21 hm1 hi1 hms1 his1 hmt1 hit1
  have hb1 : SMap.At _ g1 0 c p := ⟨Mem.of_get at1, hin⟩
  obtain ⟨fs1, ft1, c141, i21⟩ := hb1.get
  have hm1 : MemN _ _ _ _ _ := ⟨rfl, hb1.1⟩
  have hi1 := hb1.2
  have hms1 : MemN _ _ _ _ _ := ⟨rfl, fs1.1⟩
  have his1 := fs1.2
  have hmt1 : MemN _ _ _ _ _ := ⟨rfl, ft1.1⟩
  have hit1 := ft1.2
  have i6 := v6.inn
  refine .m rfl rfl rfl (.fieldAddr fo_41_0_VSMap rfl) ?_
  refine .r0 rfl rfl (.storeNR rfl sz_39_VSFun rfl rfl rfl rfl (by assumption) (by first | rfl | exact Nat.le_of_ble_eq_true rfl | simp)) ?_
  rintro _ H2004 ⟨rfl, st2004, at2004⟩
  have nx_H2004 := st2004.nx
  replace hle := hle.st st2004 (fun k hk => ⟨by omega, trivial⟩)
  replace at1 := st2004.same _ _ ⟨by omega, trivial⟩ at1
  replace at2 := st2004.same _ _ ⟨by omega, trivial⟩ at2
  replace lv_v6 := Keep.st lv_v6 st2004 (fun k hb hk => ⟨by omega, trivial⟩)
  replace v6 := bs_v6.keep lv_v6 (Nat.le_refl _)
  have lt_at2004 := GHeap.lt_of_get at2004
  replace hin := base_hin.mono hle
  clear hb1 fs1 ft1 c141 i21 hm1 hi1 hms1 his1 hmt1 hit1
  have hb1 : SMap.At _ g1 0 c p := ⟨Mem.of_get at1, hin⟩
  obtain ⟨fs1, ft1, c141, i21⟩ := hb1.get
  have hm1 : MemN _ _ _ _ _ := ⟨rfl, hb1.1⟩
  have hi1 := hb1.2
  have hms1 : MemN _ _ _ _ _ := ⟨rfl, fs1.1⟩
  have his1 := fs1.2
  have hmt1 : MemN _ _ _ _ _ := ⟨rfl, ft1.1⟩
  have hit1 := ft1.2
  clear i6
  have i6 := v6.inn
  refine .nil ?_
  refine hK3 _ _ ?_
  refine .seq (fun K4 hK4 => ?_)
  refine .region ?_
  refine .m rfl rfl rfl (.fieldAddr fo_29_1_VSMap rfl) ?_
  refine .m rfl rfl rfl (.loadM ag_27_VSMap rfl (by assumption)) ?_
  refine .call rfl rfl rfl rfl @Try.call20 rfl (toSetFunctor_c) ?_
  rintro _ H10 ⟨le10, p10, rfl, v10⟩
  have nx_H10 := le10.1
  replace hle := hle.trans le10
  replace at1 := le10.2 _ _ at1
  replace at2 := le10.2 _ _ at2
  replace at2004 := le10.2 _ _ at2004
  replace lv_v6 := Keep.le lv_v6 le10
  replace v6 := bs_v6.keep lv_v6 (Nat.le_refl _)
  have bs_v10 := v10
  have lv_v10 : Keep H2004.next H10 H10 := fun _ _ _ h => h
  replace hin := base_hin.mono hle
  clear hb1 fs1 ft1 c141 i21 hm1 hi1 hms1 his1 hmt1 hit1
  have hb1 : SMap.At _ g1 0 c p := ⟨Mem.of_get at1, hin⟩
  obtain ⟨fs1, ft1, c141, i21⟩ := hb1.get
  have hm1 : MemN _ _ _ _ _ := ⟨rfl, hb1.1⟩
  have hi1 := hb1.2
  have hms1 : MemN _ _ _ _ _ := ⟨rfl, fs1.1⟩
  have his1 := fs1.2
  have hmt1 : MemN _ _ _ _ _ := ⟨rfl, ft1.1⟩
  have hit1 := ft1.2
  clear i6
  have i6 := v6.inn
  have i10 := v10.inn
  refine .m rfl rfl rfl (.fieldAddr fo_41_1_VSMap rfl) ?_
  refine .r0 rfl rfl (.storeNR rfl sz_39_VSFun rfl rfl rfl rfl (by assumption) (by first | rfl | exact Nat.le_of_ble_eq_true rfl | simp)) ?_
  rintro _ H3004 ⟨rfl, st3004, at3004⟩
  have nx_H3004 := st3004.nx
  replace hle := hle.st st3004 (fun k hk => ⟨by omega, trivial⟩)
  replace at1 := st3004.same _ _ ⟨by omega, trivial⟩ at1
  replace at2 := st3004.same _ _ ⟨by omega, trivial⟩ at2
  replace lv_v6 := Keep.st lv_v6 st3004 (fun k hb hk => ⟨by omega, trivial⟩)
  replace v6 := bs_v6.keep lv_v6 (Nat.le_refl _)
  replace lv_v10 := Keep.st lv_v10 st3004 (fun k hb hk => ⟨by omega, trivial⟩)
  replace v10 := bs_v10.keep lv_v10 (Nat.le_refl _)
  have lt_at3004 := GHeap.lt_of_get at3004
  replace hin := base_hin.mono hle
  clear hb1 fs1 ft1 c141 i21 hm1 hi1 hms1 his1 hmt1 hit1
  have hb1 : SMap.At _ g1 0 c p := ⟨Mem.of_get at1, hin⟩
  obtain ⟨fs1, ft1, c141, i21⟩ := hb1.get
  have hm1 : MemN _ _ _ _ _ := ⟨rfl, hb1.1⟩
  have hi1 := hb1.2
  have hms1 : MemN _ _ _ _ _ := ⟨rfl, fs1.1⟩
  have his1 := fs1.2
  have hmt1 : MemN _ _ _ _ _ := ⟨rfl, ft1.1⟩
  have hit1 := ft1.2
  clear i6
  have i6 := v6.inn
  clear i10
  have i10 := v10.inn
  refine .nil ?_
  refine hK4 _ _ ?_
  refine .seq (fun K5 hK5 => ?_)
  refine .region ?_
  refine .m rfl rfl rfl (.fieldAddr fo_29_2_VSMap rfl) ?_
  refine .m rfl rfl rfl (.load on_23_B rfl (by assumption)) ?_
  refine .call rfl rfl rfl rfl @Try.call32 rfl (toInt64SS_c) ?_
  rintro _ H14 ⟨le14, a14, r14, rfl, v14⟩
  have nx_H14 := le14.1
  replace hle := hle.trans le14
  replace at1 := le14.2 _ _ at1
  replace at2 := le14.2 _ _ at2
  replace at3004 := le14.2 _ _ at3004
  replace lv_v6 := Keep.le lv_v6 le14
  replace v6 := bs_v6.keep lv_v6 (Nat.le_refl _)
  replace lv_v10 := Keep.le lv_v10 le14
  replace v10 := bs_v10.keep lv_v10 (Nat.le_refl _)
  have bs_v14 := v14
  have lv_v14 : Keep H3004.next H14 H14 := fun _ _ _ h => h
  replace hin := base_hin.mono hle
  clear hb1 fs1 ft1 c141 i21 hm1 hi1 hms1 his1 hmt1 hit1
  have hb1 : SMap.At _ g1 0 c p := ⟨Mem.of_get at1, hin⟩
  obtain ⟨fs1, ft1, c141, i21⟩ := hb1.get
  have hm1 : MemN _ _ _ _ _ := ⟨rfl, hb1.1⟩
  have hi1 := hb1.2
  have hms1 : MemN _ _ _ _ _ := ⟨rfl, fs1.1⟩
  have his1 := fs1.2
  have hmt1 : MemN _ _ _ _ _ := ⟨rfl, ft1.1⟩
  have hit1 := ft1.2
  clear i6
  have i6 := v6.inn
  clear i10
  have i10 := v10.inn
  have i14 := v14.intss
  refine .m rfl rfl rfl (.fieldAddr fo_41_2_VSMap rfl) ?_
  refine .r0 rfl rfl (.storeR rfl sz_23_E rfl rfl rfl (by assumption) (by first | exact Nat.le_of_ble_eq_true rfl | simp)) ?_
  rintro _ H4004 ⟨rfl, st4004, at4004⟩
  have nx_H4004 := st4004.nx
  replace hle := hle.st st4004 (fun k hk => ⟨by omega, trivial⟩)
  replace at1 := st4004.same _ _ ⟨by omega, trivial⟩ at1
  replace at2 := st4004.same _ _ ⟨by omega, trivial⟩ at2
  replace lv_v6 := Keep.st lv_v6 st4004 (fun k hb hk => ⟨by omega, trivial⟩)
  replace v6 := bs_v6.keep lv_v6 (Nat.le_refl _)
  replace lv_v10 := Keep.st lv_v10 st4004 (fun k hb hk => ⟨by omega, trivial⟩)
  replace v10 := bs_v10.keep lv_v10 (Nat.le_refl _)
  replace lv_v14 := Keep.st lv_v14 st4004 (fun k hb hk => ⟨by omega, trivial⟩)
  replace v14 := bs_v14.keep lv_v14 (Nat.le_refl _)
  have lt_at4004 := GHeap.lt_of_get at4004
  replace hin := base_hin.mono hle
  clear hb1 fs1 ft1 c141 i21 hm1 hi1 hms1 his1 hmt1 hit1
  have hb1 : SMap.At _ g1 0 c p := ⟨Mem.of_get at1, hin⟩
  obtain ⟨fs1, ft1, c141, i21⟩ := hb1.get
  have hm1 : MemN _ _ _ _ _ := ⟨rfl, hb1.1⟩
  have hi1 := hb1.2
  have hms1 : MemN _ _ _ _ _ := ⟨rfl, fs1.1⟩
  have his1 := fs1.2
  have hmt1 : MemN _ _ _ _ _ := ⟨rfl, ft1.1⟩
  have hit1 := ft1.2
  clear i6
  have i6 := v6.inn
  clear i10
  have i10 := v10.inn
  clear i14
  have i14 := v14.intss
  refine .nil ?_
  refine hK5 _ _ ?_
  refine .seq (fun K6 hK6 => ?_)
  refine .region ?_
  refine .m rfl rfl rfl (.loadM ag_41_VSMap rfl ⟨rfl, Mem.of_get at4004⟩) ?_
  refine .r0 rfl rfl (.fillR rfl sz_41_VSMap rfl rfl rfl rfl (by assumption) (by first | rfl | exact Nat.le_of_ble_eq_true rfl | simp)) ?_
  rintro _ H5001 ⟨rfl, st5001, at5001⟩
  have nx_H5001 := st5001.nx
  replace hle := hle.st st5001 (fun k hk => ⟨by omega, trivial⟩)
  replace at1 := st5001.same _ _ ⟨by omega, trivial⟩ at1
  replace at4004 := st5001.same _ _ ⟨by omega, trivial⟩ at4004
  replace lv_v6 := Keep.st lv_v6 st5001 (fun k hb hk => ⟨by omega, trivial⟩)
  replace v6 := bs_v6.keep lv_v6 (Nat.le_refl _)
  replace lv_v10 := Keep.st lv_v10 st5001 (fun k hb hk => ⟨by omega, trivial⟩)
  replace v10 := bs_v10.keep lv_v10 (Nat.le_refl _)
  replace lv_v14 := Keep.st lv_v14 st5001 (fun k hb hk => ⟨by omega, trivial⟩)
  replace v14 := bs_v14.keep lv_v14 (Nat.le_refl _)
  have lt_at5001 := GHeap.lt_of_get at5001
  replace hin := base_hin.mono hle
  clear hb1 fs1 ft1 c141 i21 hm1 hi1 hms1 his1 hmt1 hit1
  have hb1 : SMap.At _ g1 0 c p := ⟨Mem.of_get at1, hin⟩
  obtain ⟨fs1, ft1, c141, i21⟩ := hb1.get
  have hm1 : MemN _ _ _ _ _ := ⟨rfl, hb1.1⟩
  have hi1 := hb1.2
  have hms1 : MemN _ _ _ _ _ := ⟨rfl, fs1.1⟩
  have his1 := fs1.2
  have hmt1 : MemN _ _ _ _ _ := ⟨rfl, ft1.1⟩
  have hit1 := ft1.2
  clear i6
  have i6 := v6.inn
  clear i10
  have i10 := v10.inn
  clear i14
  have i14 := v14.intss
  have mm5001 : MemN _ _ _ _ _ := ⟨rfl, Mem.of_get at5001⟩
  refine .nil ?_
  refine hK6 _ _ ?_
  refine .ret ?_
  -- leaf e1
  refine hret _ _ ?_
  refine ⟨_, _, _, _, rfl, ag_41_VSMap, (by rfl), (Mem.of_get at5001), ?_⟩
  exact ⟨hle, ⟨p6, p10, a14, r14⟩, rfl, ⟨v6.keep (.of_le (.refl _)) (by omega), v10.keep (.of_le (.refl _)) (by omega), v14.keep (.of_le (.refl _)) (by omega)⟩⟩
set_option maxHeartbeats 4000000 in
theorem eqSetMap_c {c : SMap} {p p' : SMapP} {H : GHeap} (hin : c.In H p := by assumption) (hin' : c.In H p' := by assumption) (hs : c.Small := by assumption) : GCalls Try.prog 14 [.agg (c.cells p).toArray, .agg (c.cells p').toArray] H (Ret (.bool true) H) := by
  refine GCalls.ret rfl ?_
  obtain ⟨w0, w1, ⟨wa2, wb2⟩⟩ := hs
  refine GCalls.body (N := 23) (rs := [.tmp 4]) Try.func14 rfl rfl rfl rfl (fun Qx hret hend => ?_)
  refine .forget (fr' := [(0, some _), (1, some _)]) ⟨rfl, rfl, trivial⟩ ?_
  have hle := GHeap.Le.refl H
  have base_hin := hin
  have base_hin' := hin'
  refine .seq (fun K1 hK1 => ?_)
  refine .region ?_
  refine .r rfl rfl rfl (.boxR rfl sz_41_VSMap rfl) ?_
  rintro _ H2 ⟨g2, rfl, le2, ge2, at2⟩
  have nx_H2 := le2.1
  replace hle := hle.trans le2
  have lt_at2 := GHeap.lt_of_get at2
  replace hin := base_hin.mono hle
  replace hin' := base_hin'.mono hle
  have hb2 : SMap.At _ g2 0 c p := ⟨Mem.of_get at2, hin⟩
  obtain ⟨fs2, ft2, c142, i22⟩ := hb2.get
  have hm2 : MemN _ _ _ _ _ := ⟨rfl, hb2.1⟩
  have hi2 := hb2.2
  have hms2 : MemN _ _ _ _ _ := ⟨rfl, fs2.1⟩
  have his2 := fs2.2
  have hmt2 : MemN _ _ _ _ _ := ⟨rfl, ft2.1⟩
  have hit2 := ft2.2
  refine .r rfl rfl rfl (.boxR rfl sz_41_VSMap rfl) ?_
  rintro _ H3 ⟨g3, rfl, le3, ge3, at3⟩
  have nx_H3 := le3.1
  replace hle := hle.trans le3
  replace at2 := le3.2 _ _ at2
  have lt_at3 := GHeap.lt_of_get at3
  replace hin := base_hin.mono hle
  replace hin' := base_hin'.mono hle
  clear hb2 fs2 ft2 c142 i22 hm2 hi2 hms2 his2 hmt2 hit2
  have hb2 : SMap.At _ g2 0 c p := ⟨Mem.of_get at2, hin⟩
  obtain ⟨fs2, ft2, c142, i22⟩ := hb2.get
  have hm2 : MemN _ _ _ _ _ := ⟨rfl, hb2.1⟩
  have hi2 := hb2.2
  have hms2 : MemN _ _ _ _ _ := ⟨rfl, fs2.1⟩
  have his2 := fs2.2
  have hmt2 : MemN _ _ _ _ _ := ⟨rfl, ft2.1⟩
  have hit2 := ft2.2
  have hb3 : SMap.At _ g3 0 c p' := ⟨Mem.of_get at3, hin'⟩
  obtain ⟨fs3, ft3, c143, i23⟩ := hb3.get
  have hm3 : MemN _ _ _ _ _ := ⟨rfl, hb3.1⟩
  have hi3 := hb3.2
  have hms3 : MemN _ _ _ _ _ := ⟨rfl, fs3.1⟩
  have his3 := fs3.2
  have hmt3 : MemN _ _ _ _ _ := ⟨rfl, ft3.1⟩
  have hit3 := ft3.2
  refine .m rfl rfl rfl (.assign rfl) ?_
  refine .nil ?_
  refine hK1 _ _ ?_
  refine .seq (fun K2 hK2 => ?_)
  refine .seq (fun K3 hK3 => ?_)
  refine .region ?_
  refine .m rfl rfl rfl (.fieldAddr fo_41_0_VSMap rfl) ?_
  refine .m rfl rfl rfl (.loadM ag_39_VSFun rfl (by assumption)) ?_
  refine .m rfl rfl rfl (.fieldAddr fo_41_0_VSMap rfl) ?_
  refine .m rfl rfl rfl (.loadM ag_39_VSFun rfl (by assumption)) ?_
  refine .callQ rfl rfl rfl rfl @Try.call22 rfl (eqSetFunctor_c) ?_
  refine .m rfl rfl rfl (.not rfl) ?_
  refine .nil ?_
  refine hK3 _ _ ?_
  refine .cond rfl (fun h10 => ?_) (fun h10 => ?_)
  ·
   try simp only [sps] at h10
   refine .seq (fun K4 hK4 => ?_)
   refine .region ?_
   refine .m rfl rfl rfl (.assign rfl) ?_
   refine .nil ?_
   refine hK4 _ _ ?_
   refine .ret ?_
   -- leaf e1
   refine hret _ _ ?_
   refine ⟨_, rfl, ?_⟩
   first
   | exact ⟨rfl, hle⟩
   | exact absurd trivial (by assumption)
   | contradiction
   | (exfalso; omega)
   | (exfalso; simp_all)
  ·
   try simp only [sps] at h10
   refine .skip ?_
   refine hK2 _ _ ?_
   refine .seq (fun K5 hK5 => ?_)
   refine .seq (fun K6 hK6 => ?_)
   refine .region ?_
   refine .m rfl rfl rfl (.fieldAddr fo_41_1_VSMap rfl) ?_
   refine .m rfl rfl rfl (.loadM ag_39_VSFun rfl (by assumption)) ?_
   refine .m rfl rfl rfl (.fieldAddr fo_41_1_VSMap rfl) ?_
   refine .m rfl rfl rfl (.loadM ag_39_VSFun rfl (by assumption)) ?_
   refine .callQ rfl rfl rfl rfl @Try.call22 rfl (eqSetFunctor_c) ?_
   refine .m rfl rfl rfl (.not rfl) ?_
   refine .nil ?_
   refine hK6 _ _ ?_
   refine .cond rfl (fun h16 => ?_) (fun h16 => ?_)
   ·
    try simp only [sps] at h16
    refine .seq (fun K7 hK7 => ?_)
    refine .region ?_
    refine .m rfl rfl rfl (.assign rfl) ?_
    refine .nil ?_
    refine hK7 _ _ ?_
    refine .ret ?_
    -- leaf e2
    refine hret _ _ ?_
    refine ⟨_, rfl, ?_⟩
    first
    | exact ⟨rfl, hle⟩
    | exact absurd trivial (by assumption)
    | contradiction
    | (exfalso; omega)
    | (exfalso; simp_all)
   ·
    try simp only [sps] at h16
    refine .skip ?_
    refine hK5 _ _ ?_
    refine .seq (fun K8 hK8 => ?_)
    refine .seq (fun K9 hK9 => ?_)
    refine .region ?_
    refine .m rfl rfl rfl (.fieldAddr fo_41_2_VSMap rfl) ?_
    refine .m rfl rfl rfl (.load on_23_B rfl (by assumption)) ?_
    refine .m rfl rfl rfl (.fieldAddr fo_41_2_VSMap rfl) ?_
    refine .m rfl rfl rfl (.load on_23_B rfl (by assumption)) ?_
    refine .callQ rfl rfl rfl rfl @Try.call36 rfl (eqInt64SS_c) ?_
    refine .m rfl rfl rfl (.not rfl) ?_
    refine .nil ?_
    refine hK9 _ _ ?_
    refine .cond rfl (fun h22 => ?_) (fun h22 => ?_)
    ·
     try simp only [sps] at h22
     refine .seq (fun K10 hK10 => ?_)
     refine .region ?_
     refine .m rfl rfl rfl (.assign rfl) ?_
     refine .nil ?_
     refine hK10 _ _ ?_
     refine .ret ?_
     -- leaf e3
     refine hret _ _ ?_
     refine ⟨_, rfl, ?_⟩
     first
     | exact ⟨rfl, hle⟩
     | exact absurd trivial (by assumption)
     | contradiction
     | (exfalso; omega)
     | (exfalso; simp_all)
    ·
     try simp only [sps] at h22
     refine .skip ?_
     refine hK8 _ _ ?_
     refine .seq (fun K11 hK11 => ?_)
     refine .region ?_
     refine .m rfl rfl rfl (.assign rfl) ?_
     refine .nil ?_
     refine hK11 _ _ ?_
     refine .ret ?_
     -- leaf e4
     refine hret _ _ ?_
     refine ⟨_, rfl, ?_⟩
     first
     | exact ⟨rfl, hle⟩
     | exact absurd trivial (by assumption)
     | contradiction
     | (exfalso; omega)
     | (exfalso; simp_all)
end Go.Proofs.Ytbpehbbdodahaaa
