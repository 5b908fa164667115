/- The smallest functions of the program, of the reference and of the laws' file: what each hands back. No condition but those of each statement. -/
import Derived.Test.YtlfnclhkhmkklaaDoorZ5
import Derived.Test.YtlfnclhkhmkklaaDoorProg
namespace Go.Proofs.YtlfnclhkhmkklaaDoor
open Go Go.GL Go.RowKit Go.Proofs
theorem sl_22_A : sliceT Tryd.prog 22 = some (2, 1) := by kernel_rfl
theorem on_2_A : oneT Tryd.prog 2 = true := by kernel_rfl
theorem aggEq_118 (a0 a1 b0 b1 : Int) : ∀ w, (Op.equal 118 (.agg #[.int .i64 a0, .int .i64 a1]) (.agg #[.int .i64 b0, .int .i64 b1])).run Tryd.prog w = .ok (a0 == b0 && a1 == b1) w := by
  intro w
  unfold Op.equal Op.maxDepth
  simp [go_sem, run_equalIn_agg]
  (repeat' split) <;> simp_all
theorem inRange_c {n lo hi : Int} {H : GHeap} : GCalls Tryd.prog 73 [.int .i64 n, .int .i64 lo, .int .i64 hi] H (Ret (.bool (inR n lo hi)) H) := by
  refine GCalls.body (N := 15) (rs := [.tmp 6]) Tryd.func73 rfl rfl rfl rfl (fun Qx a hend => ?_)
  refine .fg [0, 1, 2] rfl ?_
  refine .seq (fun K1 d => .region (.mv rfl (.nil (d _ _ (.seq (fun K2 c => .region (.mv rfl (.mv rfl (.q rfl (.cmp rfl rfl rfl) (.mv rfl ?_))))))))))
  refine .split (fun b => ?_) (fun b => ?_)
  ·
   try simp only [sps] at b
   refine .qg rfl (.move rfl) (.qg rfl (.move rfl) (.qg rfl (.cmp rfl rfl rfl) (.q rfl (.pickT rfl rfl) (.mv rfl (.nil (c _ _ ?_))))))
   refine .ret ?_
   refine a _ _ ?_
   refine ⟨_, rfl, ?_⟩
   exact .of (by simp [inR]; omega)
  try simp only [sps] at b
  refine .z rfl (.z rfl (.z rfl (.q rfl (.pickF rfl rfl) (.mv rfl (.nil (c _ _ ?_))))))
  refine .ret ?_
  refine a _ _ ?_
  refine ⟨_, rfl, ?_⟩
  exact .of (by simp [inR]; omega)
theorem l01In_c {n lo hi : Int} {H : GHeap} : GCalls Tryd.prog 64 [.int .i64 n, .int .i64 lo, .int .i64 hi] H (Ret (.bool (inR n lo hi)) H) := by
  refine GCalls.body (N := 15) (rs := [.tmp 6]) Tryd.func64 rfl rfl rfl rfl (fun Qx a hend => ?_)
  refine .fg [0, 1, 2] rfl ?_
  refine .seq (fun K1 d => .region (.mv rfl (.nil (d _ _ (.seq (fun K2 c => .region (.mv rfl (.mv rfl (.q rfl (.cmp rfl rfl rfl) (.mv rfl ?_))))))))))
  refine .split (fun b => ?_) (fun b => ?_)
  ·
   try simp only [sps] at b
   refine .qg rfl (.move rfl) (.qg rfl (.move rfl) (.qg rfl (.cmp rfl rfl rfl) (.q rfl (.pickT rfl rfl) (.mv rfl (.nil (c _ _ ?_))))))
   refine .ret ?_
   refine a _ _ ?_
   refine ⟨_, rfl, ?_⟩
   exact .of (by simp [inR]; omega)
  try simp only [sps] at b
  refine .z rfl (.z rfl (.z rfl (.q rfl (.pickF rfl rfl) (.mv rfl (.nil (c _ _ ?_))))))
  refine .ret ?_
  refine a _ _ ?_
  refine ⟨_, rfl, ?_⟩
  exact .of (by simp [inR]; omega)
theorem within_c {a : Option Addr} {xs : List Int} {n : Int} {H : GHeap} (h : Ints H a xs := by assumption) (hn : -9223372036854775808 < n := by omega) (hn' : n ≤ 9223372036854775807 := by omega) (hl : xs.length ≤ 1048576 := by omega) :
    GCalls Tryd.prog 49 [.slice a xs.length xs.length, .int .i64 n] H (Ret (.bool (allIn xs n)) H) := by
  refine GCalls.body (N := 19) (rs := [.tmp 4]) Tryd.func49 rfl rfl rfl rfl (fun Qx d hend => ?_)
  refine .fg [0, 1] rfl ?_
  refine .seq (fun K1 u => .region (.mv rfl (.nil (u _ _ (.seq (fun K2 l => .seq (fun K3 t => .region (.mv rfl (.q rfl (.len sl_22_A rfl) (.mv rfl (.nil (t _ _ ?_))))))))))))
  refine .block ?_
  refine .loopR (σ := Nat) [(1, some _), (7, some _), (8, some _)] (fun k => [(9, some (.int .i64 (k : Int)))]) (fun k H' => H = H' ∧ k ≤ xs.length ∧ ∀ i, i < k → inR (xs.getD i 0) 0 (n - 1) = true) (fun k => xs.length - k) (0) ⟨rfl, rfl, rfl, trivial⟩ ⟨rfl, trivial⟩ ?_ ?_
  ·
   refine ⟨rfl, ?_⟩
   exact ⟨by omega, fun i hi => by omega⟩
  rintro k _ ⟨rfl, hI⟩ KL1 f
  refine .forget (fr' := [(9, some (.int .i64 (k : Int))), (1, some _), (7, some _), (8, some _)]) ⟨rfl, rfl, rfl, rfl, trivial⟩ ?_
  obtain ⟨hk, c⟩ := hI
  refine .seq (fun K4 r => .region (.q rfl (.cmp rfl rfl rfl) (.nil (r _ _ (.seq (fun K5 v => ?_))))))
  refine .cond rfl (fun j => ?_) (fun j => ?_)
  ·
   try simp only [sps] at j
   refine .skip ?_
   refine v _ _ (.seq (fun K6 o => ?_))
   refine .block ?_
   refine .seq (fun K7 s => .region ?_)
   refine .q rfl (.idxN sl_22_A (by assumption) rfl rfl (by omega)) ?_
   refine .q rfl (.loadI on_2_A (by assumption) rfl (by omega)) ?_
   refine .mv rfl (.nil (s _ _ (.seq (fun K8 p => .region (.mv rfl (.mv rfl ?_))))))
   refine .q rfl (.sub rfl rfl rfl (by omega) (by omega)) ?_
   refine .callQ rfl rfl rfl rfl @Tryd.call73 rfl (inRange_c) ?_
   refine .q rfl (.not rfl) (.nil (p _ _ ?_))
   refine .cond rfl (fun b => ?_) (fun b => ?_)
   ·
    try simp only [sps] at b
    refine .seq (fun K9 m => .region (.mv rfl (.nil (m _ _ ?_))))
    refine .ret ?_
    refine d _ _ ?_
    refine ⟨_, rfl, ?_⟩
    exact .of (congrArg _ (allN_not (i := k) (by omega) (inR_not.2 b)))
   try simp only [sps] at b
   refine .skip ?_
   refine o _ _ (.region ?_)
   refine .q rfl (.add rfl rfl rfl (by omega) (by omega)) ?_
   refine .mv rfl (.nil ?_)
   refine f (k + 1) _ _ ?_ ?_ ⟨rfl, rfl, rfl, rfl, trivial⟩
   ·
    refine ⟨rfl, ?_⟩
    refine ⟨by omega, fun i hi => ?_⟩
    by_cases e : i < k
    · exact c i e
    · obtain rfl : i = k := by omega
      exact inR_iff.2 b
   omega
  try simp only [sps] at j
  refine .exit ?_
  refine l _ _ (.seq (fun K10 g => .region (.mv rfl (.nil (g _ _ ?_)))))
  refine .ret ?_
  refine d _ _ ?_
  refine ⟨_, rfl, ?_⟩
  exact .of (congrArg _ (allN_of fun i hi => c i (by omega)))
theorem l01Map_c {a : Option Addr} {xs : List Int} {n : Int} {H : GHeap} (h : Ints H a xs := by assumption) (hl : xs.length ≤ 1048576 := by omega) :
    GCalls Tryd.prog 53 [.int .i64 n, .slice a xs.length xs.length] H (Ret (.bool (allIn xs n)) H) := by
  refine GCalls.body (N := 25) (rs := [.tmp 4]) Tryd.func53 rfl rfl rfl rfl (fun Qx b hend => ?_)
  refine .fg [0, 1] rfl ?_
  refine .seq (fun K1 u => .region (.mv rfl (.nil (u _ _ (.seq (fun K2 m => .seq (fun K3 t => .region (.mv rfl (.nil (t _ _ ?_))))))))))
  refine .block ?_
  refine .loopR (σ := Nat) [(0, some _), (1, some _)] (fun k => [(5, some (.int .i64 (k : Int)))]) (fun k H' => H = H' ∧ k ≤ xs.length ∧ ∀ i, i < k → inR (xs.getD i 0) 0 (n - 1) = true) (fun k => xs.length - k) (0) ⟨rfl, rfl, trivial⟩ ⟨rfl, trivial⟩ ?_ ?_
  ·
   refine ⟨rfl, ?_⟩
   exact ⟨by omega, fun i hi => by omega⟩
  rintro k _ ⟨rfl, hI⟩ KL1 g
  refine .forget (fr' := [(5, some (.int .i64 (k : Int))), (0, some _), (1, some _)]) ⟨rfl, rfl, rfl, trivial⟩ ?_
  obtain ⟨hk, d⟩ := hI
  refine .seq (fun K4 s => .seq (fun K5 v => .region (.mv rfl (.mv rfl (.q rfl (.len sl_22_A rfl) (.q rfl (.cmp rfl rfl rfl) (.nil (v _ _ ?_))))))))
  refine .cond rfl (fun h9 => ?_) (fun h9 => ?_)
  ·
   try simp only [sps] at h9
   refine .skip ?_
   refine s _ _ (.seq (fun K6 p => ?_))
   refine .block ?_
   refine .seq (fun K7 l => .region (.mv rfl (.mv rfl ?_)))
   refine .q rfl (.idxN sl_22_A (by assumption) rfl rfl (by omega)) ?_
   refine .q rfl (.loadI on_2_A (by assumption) rfl (by omega)) ?_
   refine .q rfl (.cmp rfl rfl rfl) (.mv rfl ?_)
   refine .split (fun c => ?_) (fun c => ?_)
   ·
    try simp only [sps] at c
    refine .z rfl (.z rfl (.z rfl (.z rfl (.z rfl (.z rfl (.q rfl (.pickT rfl rfl) (.nil (l _ _ ?_))))))))
    refine .condT rfl ?_
    refine .seq (fun K8 r => .region (.mv rfl (.nil (r _ _ ?_))))
    refine .ret ?_
    refine b _ _ ?_
    refine ⟨_, rfl, ?_⟩
    exact .of (congrArg _ (allN_not (i := k) (by omega) (inR_not.2 (.inl c))))
   try simp only [sps] at c
   refine .qg rfl (.move rfl) (.qg rfl (.move rfl) ?_)
   refine .qg rfl (.idxN sl_22_A (by assumption) rfl rfl (by omega)) ?_
   refine .qg rfl (.loadI on_2_A (by assumption) rfl (by omega)) ?_
   refine .qg rfl (.move rfl) (.qg rfl (.cmp rfl rfl rfl) (.q rfl (.pickF rfl rfl) (.nil (l _ _ ?_))))
   refine .cond rfl (fun f => ?_) (fun f => ?_)
   ·
    try simp only [sps] at f
    refine .seq (fun K9 o => .region (.mv rfl (.nil (o _ _ ?_))))
    refine .ret ?_
    refine b _ _ ?_
    refine ⟨_, rfl, ?_⟩
    exact .of (congrArg _ (allN_not (i := k) (by omega) (inR_not.2 (.inr (by simp at f ⊢; omega)))))
   try simp only [sps] at f
   refine .skip ?_
   refine p _ _ (.region (.mv rfl ?_))
   refine .q rfl (.add rfl rfl rfl (by omega) (by omega)) ?_
   refine .mv rfl (.nil ?_)
   refine g (k + 1) _ _ ?_ ?_ ⟨rfl, rfl, rfl, trivial⟩
   ·
    refine ⟨rfl, ?_⟩
    refine ⟨by omega, fun i hi => ?_⟩
    by_cases e : i < k
    · exact d i e
    · obtain rfl : i = k := by omega
      exact inR_iff.2 ⟨c, by omega⟩
   omega
  try simp only [sps] at h9
  refine .exit ?_
  refine m _ _ (.seq (fun K10 j => .region (.mv rfl (.nil (j _ _ ?_)))))
  refine .ret ?_
  refine b _ _ ?_
  refine ⟨_, rfl, ?_⟩
  exact .of (congrArg _ (allN_of fun i hi => d i (by omega)))
end Go.Proofs.YtlfnclhkhmkklaaDoor
namespace Go.Proofs.YtlfnclhkhmkklaaDoor
open Go Go.GL Go.RowKit Go.Proofs
theorem fo_29_1_B : fieldOff Tryd.prog 29 1 = some 1 := by kernel_rfl
theorem on_22_B : oneT Tryd.prog 22 = true := by kernel_rfl
theorem ze_118_B : zeroT Tryd.prog 118 = some ([.int .i64 0, .int .i64 0], 2) := by kernel_rfl
theorem mo_B : Tryd.prog.follows .mixedOrders = true := by kernel_rfl
theorem fo_29_2_B : fieldOff Tryd.prog 29 2 = some 2 := by kernel_rfl
theorem bt_118_B : buildT Tryd.prog 118 = some ([.int .i64 0, .int .i64 0], [(0, 1), (1, 1)]) := by kernel_rfl
theorem sz_118_B : (Tryd.prog.info? 118).map (·.size) = some 2 := by kernel_rfl
theorem ag_118_B : aggT Tryd.prog 118 = some 2 := by kernel_rfl
theorem fo_29_4_B : fieldOff Tryd.prog 29 4 = some 4 := by kernel_rfl
theorem on_23_B : oneT Tryd.prog 23 = true := by kernel_rfl
theorem sl_23_B : sliceT Tryd.prog 23 = some (22, 1) := by kernel_rfl
theorem fo_29_0_B : fieldOff Tryd.prog 29 0 = some 0 := by kernel_rfl
theorem fo_29_3_B : fieldOff Tryd.prog 29 3 = some 3 := by kernel_rfl
theorem eg_118_B : Tryd.prog.eqGuardType Tryd.prog.depth 118 = false := by kernel_rfl
theorem arrows_c {g o : Nat} {c : Cat} {p : CatP} {H : GHeap} (h : Cat.At H g o c p := by assumption) : GCalls Tryd.prog 50 [.pointer (some ⟨g, o, none⟩)] H (Ret (.int .i64 c.src.length) H) := by
  refine GCalls.body (N := 8) (rs := [.tmp 2]) Tryd.func50 rfl rfl rfl rfl (fun Qx a hend => ?_)
  refine .fg [0] rfl ?_
  obtain ⟨c0, c1, c2, c3, c4, i1, i2, i3, i4⟩ := h.get
  refine .seq (fun K1 d => .region (.mv rfl (.nil (d _ _ (.seq (fun K2 b => .region (.mv rfl (.q rfl (.nilCheck rfl) (.q rfl (.fieldAddr fo_29_1_B rfl) ?_)))))))))
  refine .q rfl (.load on_22_B rfl (by assumption)) ?_
  refine .q rfl (.len sl_22_A rfl) (.mv rfl (.nil (b _ _ ?_)))
  refine .ret ?_
  refine a _ _ ?_
  refine ⟨_, rfl, ?_⟩
  exact .mk
theorem ends_c {g o : Nat} {c : Cat} {p : CatP} {f : Int} {H : GHeap} (h : Cat.At H g o c p := by assumption) (h0 : 0 ≤ f := by omega) (h1 : f < c.src.length := by omega) (h2 : f < c.tgt.length := by omega) :
    GCalls Tryd.prog 90 [.pointer (some ⟨g, o, none⟩), .int .i64 f] H (Ret (.agg #[.int .i64 (c.src.getD f.toNat 0), .int .i64 (c.tgt.getD f.toNat 0)]) H) := by
  refine GCalls.ret rfl ?_
  refine GCalls.body (N := 20) (rs := [.cell 4 118]) Tryd.func90 rfl rfl rfl rfl (fun Qx a hend => ?_)
  refine .fg [0, 1] rfl ?_
  refine .seq (fun K1 e => .region (.d rfl rfl rfl (.alloc rfl ze_118_B rfl CIs.mk) ?_))
  replace h := h.mono (GHeap.le_push H (.row [.int .i64 0, .int .i64 0] 118 true))
  have i := GHeap.le_push H (.row [.int .i64 0, .int .i64 0] 118 true)
  have hn := GHeap.get_push_new H (.row [.int .i64 0, .int .i64 0] 118 true)
  generalize H.push (.row [.int .i64 0, .int .i64 0] 118 true) = H1 at *
  obtain ⟨-, c1, c2, -, -, i1, i2, -, -⟩ := h.get
  refine .nil (e _ _ (.seq (fun K2 b => ?_)))
  refine .regionD mo_B (.q 0 (.q 1 (.q 2 (.q 3 (.q 4 (.q 5 (.q 6 (.q 7 (.q 8 (.q 9 (.q 10 (.q 11 (.q 12 (.q 13 (.q 14 (.c 15 0 (.done))))))))))))))))) (by kernel_rfl) ?_
  refine .mv rfl rfl (.q rfl (.nilCheck rfl) (.q rfl (.fieldAddr fo_29_1_B rfl) ?_))
  refine .q rfl (.load on_22_B rfl (by assumption)) ?_
  refine .mv rfl rfl ?_
  refine .q rfl (.idx1 sl_22_A (by assumption) rfl rfl (by omega) (by omega)) ?_
  refine .q rfl (.loadI on_2_A (by assumption) rfl (by omega)) ?_
  refine .mv rfl rfl (.q rfl (.nilCheck rfl) (.q rfl (.fieldAddr fo_29_2_B rfl) ?_))
  refine .q rfl (.load on_22_B rfl (by assumption)) ?_
  refine .mv rfl rfl ?_
  refine .q rfl (.idx1 sl_22_A (by assumption) rfl rfl (by omega) (by omega)) ?_
  refine .q rfl (.loadI on_2_A (by assumption) rfl (by omega)) ?_
  refine .q rfl (.build bt_118_B rfl rfl rfl) ?_
  refine .s0 rfl rfl rfl (.storeN rfl sz_118_B rfl rfl rfl rfl (by assumption) (by simp) CIs.mk) ?_
  refine .done ?_
  refine b _ _ ?_
  refine .ret ?_
  refine a _ _ ?_
  refine ⟨_, _, _, _, rfl, ag_118_B, (by rfl), (Mem.of_get (GHeap.get_set_eq (GHeap.ltg hn))), ?_⟩
  exact ⟨rfl, i.set_new (Nat.le_refl _)⟩
theorem then_c {g o : Nat} {c : Cat} {p : CatP} {f k : Int} {H : GHeap} (h : Cat.At H g o c p := by assumption) (h0 : 0 ≤ f := by omega) (h1 : f < c.comp.length := by omega) (h2 : 0 ≤ k := by omega) (h3 : k < (c.comp.getD f.toNat []).length := by omega) :
    GCalls Tryd.prog 78 [.pointer (some ⟨g, o, none⟩), .int .i64 f, .int .i64 k] H (Ret (.int .i64 ((c.comp.getD f.toNat []).getD k.toNat 0)) H) := by
  refine GCalls.body (N := 17) (rs := [.tmp 6]) Tryd.func78 rfl rfl rfl rfl (fun Qx a hend => ?_)
  refine .fg [0, 1, 2] rfl ?_
  obtain ⟨c0, c1, c2, c3, c4, i1, i2, i3, i4⟩ := h.get
  have hrow := i4.2 f.toNat (by omega)
  have hi4 := i4
  refine .seq (fun K1 d => .region (.mv rfl (.nil (d _ _ (.seq (fun K2 b => .region (.mv rfl (.q rfl (.nilCheck rfl) (.q rfl (.fieldAddr fo_29_4_B rfl) ?_)))))))))
  refine .q rfl (.load on_23_B rfl (by assumption)) ?_
  refine .mv rfl ?_
  refine .q rfl (.idx1 sl_23_B (Intss.sl (by assumption)) rfl rfl (by omega) (by omega)) ?_
  refine .q rfl (.loadR on_22_B (by assumption) rfl (by omega)) ?_
  refine .mv rfl ?_
  refine .q rfl (.idx1 sl_22_A (by assumption) rfl rfl (by omega) (by omega)) ?_
  refine .q rfl (.loadI on_2_A (by assumption) rfl (by omega)) ?_
  refine .mv rfl (.nil (b _ _ ?_))
  refine .ret ?_
  refine a _ _ ?_
  refine ⟨_, rfl, ?_⟩
  exact .mk
theorem isShape_c {g o : Nat} {c : Cat} {p : CatP} {H : GHeap} (h : Cat.At H g o c p := by assumption) (hs : c.Small := by assumption) : GCalls Tryd.prog 71 [.pointer (some ⟨g, o, none⟩)] H (Ret (.bool (B c.Shape)) H) := by
  refine GCalls.body (N := 167) (rs := [.tmp 2]) Tryd.func71 rfl rfl rfl rfl (fun Qx a hend => ?_)
  refine .fg [0] rfl ?_
  obtain ⟨c0, c1, c2, c3, c4, i1, i2, i3, i4⟩ := h.get
  obtain ⟨s1, s2, s3, -, -, s6⟩ := hs
  refine .seq (fun K1 f7 => .region (.mv rfl (.nil (f7 _ _ (.seq (fun K2 f2 => .region (.mv rfl ?_)))))))
  refine .callQ rfl rfl rfl rfl @Tryd.call50 rfl (arrows_c) ?_
  refine .mv rfl (.nil (f2 _ _ (.seq (fun K3 f6 => .seq (fun K4 w => ?_)))))
  refine .regionD mo_B (.q 0 (.q 1 (.q 2 (.q 3 (.c 4 0 (.q 5 (.q 6 (.q 7 (.q 8 (.q 9 (.q 10 (.q 11 (.q 12 (.q 13 (.q 14 (.q 15 (.q 16 (.q 17 (.q 18 (.q 19 (.q 20 (.q 21 (.q 22 (.q 23 (.q 24 (.q 25 (.q 26 (.q 27 (.c 28 0 (.q 29 (.q 30 (.q 31 (.q 32 (.q 33 (.q 34 (.q 35 (.q 36 (.q 37 (.q 38 (.q 39 (.c 40 0 (.q 41 (.q 42 (.done)))))))))))))))))))))))))))))))))))))))))))) (by kernel_rfl) ?_
  refine .mv rfl rfl (.q rfl (.nilCheck rfl) (.q rfl (.fieldAddr fo_29_0_B rfl) ?_))
  refine .q rfl (.load on_2_A rfl (by assumption)) ?_
  refine .callQ0 rfl rfl rfl rfl rfl @Tryd.call73 rfl (inRange_c) ?_
  refine .q rfl (.not rfl) (.mv rfl rfl ?_)
  refine .split (fun a2 => ?_) (fun a2 => ?_)
  ·
   try simp only [sps] at a2
   refine .z rfl (.z rfl (.q rfl (.pickT rfl rfl) (.mv rfl rfl (.z rfl (.z rfl (.z rfl (.z rfl (.z rfl (.z rfl (.z rfl (.q rfl (.pickT rfl rfl) (.mv rfl rfl (.z rfl (.z rfl (.z rfl ?_)))))))))))))))
   refine .z rfl (.z rfl (.z rfl (.z rfl (.z rfl (.sgc rfl rfl rfl rfl rfl rfl (.z rfl (.q rfl (.pickT rfl rfl) (.mv rfl rfl (.z rfl (.z rfl (.z rfl (.z rfl (.z rfl (.z rfl (.z rfl ?_)))))))))))))))
   refine .z rfl (.sgc rfl rfl rfl rfl rfl rfl (.z rfl (.q rfl (.pickT rfl rfl) ?_)))
   refine .done ?_
   refine w _ _ ?_
   refine .condT rfl ?_
   refine .seq (fun K5 f8 => .region (.mv rfl (.nil (f8 _ _ ?_))))
   refine .ret ?_
   refine a _ _ ?_
   refine ⟨_, rfl, ?_⟩
   exact .of (congrArg _ (B_false fun hS => by have q1 := hS.obj; have q2 := hS.n40; have q3 := hS.tl; have q4 := hS.il; have q5 := hS.cl; omega))
  try simp only [sps] at a2
  refine .qg rfl (.move rfl) (.qg rfl (.cmp rfl rfl rfl) (.q rfl (.pickF rfl rfl) (.mv rfl rfl ?_)))
  refine .split (fun d7 => ?_) (fun d7 => ?_)
  ·
   try simp only [sps] at d7
   refine .z rfl (.z rfl (.z rfl (.z rfl (.z rfl (.z rfl (.z rfl (.q rfl (.pickT rfl rfl) (.mv rfl rfl (.z rfl (.z rfl (.z rfl (.z rfl (.z rfl (.z rfl (.z rfl ?_)))))))))))))))
   refine .z rfl (.sgc rfl rfl rfl rfl rfl rfl (.z rfl (.q rfl (.pickT rfl rfl) (.mv rfl rfl (.z rfl (.z rfl (.z rfl (.z rfl (.z rfl (.z rfl (.z rfl (.z rfl (.sgc rfl rfl rfl rfl rfl rfl (.z rfl (.q rfl (.pickT rfl rfl) ?_)))))))))))))))
   refine .done ?_
   refine w _ _ ?_
   refine .condT rfl ?_
   refine .seq (fun K6 f3 => .region (.mv rfl (.nil (f3 _ _ ?_))))
   refine .ret ?_
   refine a _ _ ?_
   refine ⟨_, rfl, ?_⟩
   exact .of (congrArg _ (B_false fun hS => by have q1 := hS.obj; have q2 := hS.n40; have q3 := hS.tl; have q4 := hS.il; have q5 := hS.cl; omega))
  try simp only [sps] at d7
  refine .qg rfl (.move rfl) (.qg rfl (.nilCheck rfl) (.qg rfl (.fieldAddr fo_29_2_B rfl) ?_))
  refine .qg rfl (.load on_22_B rfl (by assumption)) ?_
  refine .qg rfl (.len sl_22_A rfl) (.qg rfl (.move rfl) (.qg rfl (.cmp rfl rfl rfl) (.q rfl (.pickF rfl rfl) (.mv rfl rfl ?_))))
  refine .split (fun d8 => ?_) (fun d8 => ?_)
  ·
   try simp only [sps] at d8
   refine .z rfl (.z rfl (.z rfl (.z rfl (.z rfl (.z rfl (.z rfl (.z rfl (.sgc rfl rfl rfl rfl rfl rfl (.z rfl (.q rfl (.pickT rfl rfl) (.mv rfl rfl (.z rfl (.z rfl (.z rfl (.z rfl ?_)))))))))))))))
   refine .z rfl (.z rfl (.z rfl (.z rfl (.sgc rfl rfl rfl rfl rfl rfl (.z rfl (.q rfl (.pickT rfl rfl) ?_))))))
   refine .done ?_
   refine w _ _ ?_
   refine .condT rfl ?_
   refine .seq (fun K7 f5 => .region (.mv rfl (.nil (f5 _ _ ?_))))
   refine .ret ?_
   refine a _ _ ?_
   refine ⟨_, rfl, ?_⟩
   exact .of (congrArg _ (B_false fun hS => by have q1 := hS.obj; have q2 := hS.n40; have q3 := hS.tl; have q4 := hS.il; have q5 := hS.cl; omega))
  try simp only [sps] at d8
  refine .qg rfl (.move rfl) (.qg rfl (.nilCheck rfl) (.qg rfl (.fieldAddr fo_29_1_B rfl) ?_))
  refine .qg rfl (.load on_22_B rfl (by assumption)) ?_
  refine .qg rfl (.move rfl) (.qg rfl (.nilCheck rfl) (.qg rfl (.fieldAddr fo_29_0_B rfl) ?_))
  refine .qg rfl (.load on_2_A rfl (by assumption)) ?_
  refine .callQ0g rfl rfl rfl rfl rfl rfl rfl @Tryd.call49 rfl (within_c) ?_
  refine .qg rfl (.not rfl) (.q rfl (.pickF rfl rfl) (.mv rfl rfl ?_))
  refine .split (fun v => ?_) (fun v => ?_)
  ·
   try simp only [sps] at v
   refine .z rfl (.z rfl (.z rfl (.z rfl (.z rfl (.z rfl (.z rfl (.z rfl (.sgc rfl rfl rfl rfl rfl rfl (.z rfl (.q rfl (.pickT rfl rfl) ?_))))))))))
   refine .done ?_
   refine w _ _ ?_
   refine .condT rfl ?_
   refine .seq (fun K8 f4 => .region (.mv rfl (.nil (f4 _ _ ?_))))
   refine .ret ?_
   refine a _ _ ?_
   refine ⟨_, rfl, ?_⟩
   exact .of (congrArg _ (B_false fun hS => by rw [allIn_iff.2 hS.src] at v; cases v))
  try simp only [sps] at v
  refine .qg rfl (.move rfl) (.qg rfl (.nilCheck rfl) (.qg rfl (.fieldAddr fo_29_2_B rfl) ?_))
  refine .qg rfl (.load on_22_B rfl (by assumption)) ?_
  refine .qg rfl (.move rfl) (.qg rfl (.nilCheck rfl) (.qg rfl (.fieldAddr fo_29_0_B rfl) ?_))
  refine .qg rfl (.load on_2_A rfl (by assumption)) ?_
  refine .callQ0g rfl rfl rfl rfl rfl rfl rfl @Tryd.call49 rfl (within_c) ?_
  refine .qg rfl (.not rfl) (.q rfl (.pickF rfl rfl) ?_)
  refine .done ?_
  refine w _ _ ?_
  refine .cond rfl (fun u => ?_) (fun u => ?_)
  ·
   try simp only [sps] at u
   refine .seq (fun K9 f9 => .region (.mv rfl (.nil (f9 _ _ ?_))))
   refine .ret ?_
   refine a _ _ ?_
   refine ⟨_, rfl, ?_⟩
   exact .of (congrArg _ (B_false fun hS => by rw [allIn_iff.2 hS.tgt] at u; cases u))
  try simp only [sps] at u
  refine .skip ?_
  refine f6 _ _ (.seq (fun K10 e5 => .seq (fun K11 t => ?_)))
  refine .regionD mo_B (.q 0 (.q 1 (.q 2 (.q 3 (.q 4 (.q 5 (.q 6 (.q 7 (.q 8 (.q 9 (.q 10 (.q 11 (.q 12 (.q 13 (.q 14 (.q 15 (.c 16 0 (.q 17 (.q 18 (.q 19 (.q 20 (.q 21 (.q 22 (.q 23 (.q 24 (.q 25 (.q 26 (.q 27 (.done))))))))))))))))))))))))))))) (by kernel_rfl) ?_
  refine .mv rfl rfl (.q rfl (.nilCheck rfl) (.q rfl (.fieldAddr fo_29_3_B rfl) ?_))
  refine .q rfl (.load on_22_B rfl (by assumption)) ?_
  refine .q rfl (.len sl_22_A rfl) (.mv rfl rfl (.q rfl (.nilCheck rfl) (.q rfl (.fieldAddr fo_29_0_B rfl) ?_)))
  refine .q rfl (.load on_2_A rfl (by assumption)) ?_
  refine .q rfl (.cmp rfl rfl rfl) (.mv rfl rfl ?_)
  refine .split (fun e1 => ?_) (fun e1 => ?_)
  ·
   try simp only [sps] at e1
   refine .z rfl (.z rfl (.z rfl (.z rfl (.z rfl (.sgc rfl rfl rfl rfl rfl rfl (.z rfl (.q rfl (.pickT rfl rfl) (.mv rfl rfl (.z rfl (.z rfl (.z rfl (.z rfl (.z rfl (.z rfl (.z rfl ?_)))))))))))))))
   refine .q rfl (.pickT rfl rfl) ?_
   refine .done ?_
   refine t _ _ ?_
   refine .condT rfl ?_
   refine .seq (fun K12 b6 => .region (.mv rfl (.nil (b6 _ _ ?_))))
   refine .ret ?_
   refine a _ _ ?_
   refine ⟨_, rfl, ?_⟩
   exact .of (congrArg _ (B_false fun hS => by have q1 := hS.obj; have q2 := hS.n40; have q3 := hS.tl; have q4 := hS.il; have q5 := hS.cl; omega))
  try simp only [sps] at e1
  refine .qg rfl (.move rfl) (.qg rfl (.nilCheck rfl) (.qg rfl (.fieldAddr fo_29_3_B rfl) ?_))
  refine .qg rfl (.load on_22_B rfl (by assumption)) ?_
  refine .qg rfl (.move rfl) ?_
  refine .callQ0g rfl rfl rfl rfl rfl rfl rfl @Tryd.call49 rfl (within_c) ?_
  refine .qg rfl (.not rfl) (.q rfl (.pickF rfl rfl) (.mv rfl rfl ?_))
  refine .split (fun m => ?_) (fun m => ?_)
  ·
   try simp only [sps] at m
   refine .z rfl (.z rfl (.z rfl (.z rfl (.z rfl (.z rfl (.z rfl (.q rfl (.pickT rfl rfl) ?_)))))))
   refine .done ?_
   refine t _ _ ?_
   refine .condT rfl ?_
   refine .seq (fun K13 e2 => .region (.mv rfl (.nil (e2 _ _ ?_))))
   refine .ret ?_
   refine a _ _ ?_
   refine ⟨_, rfl, ?_⟩
   exact .of (congrArg _ (B_false fun hS => by rw [allIn_iff.2 hS.idn] at m; cases m))
  try simp only [sps] at m
  refine .qg rfl (.move rfl) (.qg rfl (.nilCheck rfl) (.qg rfl (.fieldAddr fo_29_4_B rfl) ?_))
  refine .qg rfl (.load on_23_B rfl (by assumption)) ?_
  refine .qg rfl (.len sl_23_B rfl) (.qg rfl (.move rfl) (.qg rfl (.cmp rfl rfl rfl) (.q rfl (.pickF rfl rfl) ?_)))
  refine .done ?_
  refine t _ _ ?_
  refine .cond rfl (fun e3 => ?_) (fun e3 => ?_)
  ·
   try simp only [sps] at e3
   refine .seq (fun K14 a6 => .region (.mv rfl (.nil (a6 _ _ ?_))))
   refine .ret ?_
   refine a _ _ ?_
   refine ⟨_, rfl, ?_⟩
   exact .of (congrArg _ (B_false fun hS => by have q1 := hS.obj; have q2 := hS.n40; have q3 := hS.tl; have q4 := hS.il; have q5 := hS.cl; omega))
  try simp only [sps] at e3
  refine .skip ?_
  refine e5 _ _ (.seq (fun K15 b9 => .seq (fun K16 d9 => .region (.mv rfl (.q rfl (.nilCheck rfl) (.q rfl (.fieldAddr fo_29_3_B rfl) ?_))))))
  refine .q rfl (.load on_22_B rfl (by assumption)) ?_
  refine .q rfl (.len sl_22_A rfl) (.mv rfl (.nil (d9 _ _ ?_)))
  refine .block ?_
  refine .loopR (σ := Nat) [(0, some _), (3, some _), (86, some _), (87, some _)] (fun k => [(88, some (.int .i64 (k : Int)))]) (fun k H' => H = H' ∧ k ≤ c.idn.length ∧ ∀ x, x < k → c.src.getD (c.idn.getD x 0).toNat 0 = x ∧ c.tgt.getD (c.idn.getD x 0).toNat 0 = x) (fun k => c.idn.length - k) (0) ⟨rfl, rfl, rfl, rfl, trivial⟩ ⟨rfl, trivial⟩ ?_ ?_
  ·
   refine ⟨rfl, ?_⟩
   exact ⟨by omega, fun x hx => by omega⟩
  rintro k _ ⟨rfl, hI⟩ KL1 d0
  refine .forget (fr' := [(88, some (.int .i64 (k : Int))), (0, some _), (3, some _), (86, some _), (87, some _)]) ⟨rfl, rfl, rfl, rfl, rfl, trivial⟩ ?_
  obtain ⟨hk1, f1⟩ := hI
  refine .seq (fun K17 d3 => .region (.q rfl (.cmp rfl rfl rfl) (.nil (d3 _ _ (.seq (fun K18 f0 => ?_))))))
  refine .cond rfl (fun e7 => ?_) (fun e7 => ?_)
  ·
   simp only [decide_eq_true_eq] at e7
   have q1 := m k (by omega)
   refine .skip ?_
   refine f0 _ _ (.seq (fun K19 c9 => ?_))
   refine .block ?_
   refine .seq (fun K20 a8 => .region (.mv rfl ?_))
   refine .q rfl (.idxN sl_22_A (by assumption) rfl rfl (by omega)) ?_
   refine .q rfl (.loadI on_2_A (by assumption) rfl (by omega)) ?_
   refine .mv rfl (.mv rfl (.nil (a8 _ _ (.seq (fun K21 c6 => .region (.mv rfl (.mv rfl ?_)))))))
   refine .callQ rfl rfl rfl rfl @Tryd.call90 rfl (ends_c) ?_
   refine .mv rfl (.mv rfl (.q rfl (.build bt_118_B rfl rfl rfl) (.q rfl (.aggNe eg_118_B rfl rfl rfl rfl (aggEq_118 _ _ _ _)) (.nil (c6 _ _ ?_)))))
   refine .cond rfl (fun a3 => ?_) (fun a3 => ?_)
   ·
    try simp only [sps] at a3
    refine .seq (fun K22 b7 => .region (.mv rfl (.nil (b7 _ _ ?_))))
    refine .ret ?_
    refine a _ _ ?_
    refine ⟨_, rfl, ?_⟩
    exact .of (congrArg _ (B_false fun hS => by have := hS.ids k (by omega); omega))
   try simp only [sps] at a3
   refine .skip ?_
   refine c9 _ _ (.region ?_)
   refine .q rfl (.add rfl rfl rfl (by omega) (by omega)) ?_
   refine .mv rfl (.nil ?_)
   refine d0 (k + 1) _ _ ?_ ?_ ⟨rfl, rfl, rfl, rfl, rfl, trivial⟩
   ·
    refine ⟨rfl, ?_⟩
    refine ⟨by omega, fun x hx => ?_⟩
    by_cases e : x < k
    · exact f1 x e
    · obtain rfl : x = k := by omega
      exact a3
   omega
  try simp only [sps] at e7
  refine .exit ?_
  refine b9 _ _ (.seq (fun K23 c7 => .seq (fun K24 a7 => .region (.mv rfl (.q rfl (.nilCheck rfl) (.q rfl (.fieldAddr fo_29_4_B rfl) ?_))))))
  refine .q rfl (.load on_23_B rfl (by assumption)) ?_
  refine .q rfl (.len sl_23_B rfl) (.mv rfl (.nil (a7 _ _ ?_)))
  refine .block ?_
  refine .loopR (σ := Nat) [(0, some _), (3, some _), (104, some _), (105, some _)] (fun k => [(106, some (.int .i64 (k : Int)))]) (fun k H' => H = H' ∧ k ≤ c.comp.length ∧ ∀ f, f < k → (c.comp.getD f []).length = c.src.length ∧ ∀ g, g < c.src.length → c.Cell f g) (fun k => c.comp.length - k) (0) ⟨rfl, rfl, rfl, rfl, trivial⟩ ⟨rfl, trivial⟩ ?_ ?_
  ·
   refine ⟨rfl, ?_⟩
   exact ⟨by omega, fun x hx => by omega⟩
  rintro k _ ⟨rfl, hI⟩ KL2 e6
  refine .forget (fr' := [(106, some (.int .i64 (k : Int))), (0, some _), (3, some _), (104, some _), (105, some _)]) ⟨rfl, rfl, rfl, rfl, rfl, trivial⟩ ?_
  obtain ⟨hk2, b8⟩ := hI
  refine .seq (fun K25 e9 => .region (.q rfl (.cmp rfl rfl rfl) (.nil (e9 _ _ (.seq (fun K26 d5 => ?_))))))
  refine .cond rfl (fun s => ?_) (fun s => ?_)
  ·
   simp only [decide_eq_true_eq] at s
   have i5 := i4.2 k (by omega)
   refine .skip ?_
   refine d5 _ _ (.seq (fun K27 b5 => ?_))
   refine .block ?_
   refine .seq (fun K28 d4 => .region (.mv rfl ?_))
   refine .q rfl (.idxN sl_23_B (Intss.sl (by assumption)) rfl rfl (by omega)) ?_
   refine .q rfl (.loadR on_22_B (by assumption) rfl (by omega)) ?_
   refine .mv rfl (.mv rfl (.nil (d4 _ _ (.seq (fun K29 e0 => .seq (fun K30 b0 => .region (.mv rfl (.q rfl (.len sl_22_A rfl) (.mv rfl (.q rfl (.cmp rfl rfl rfl) (.nil (b0 _ _ ?_))))))))))))
   refine .cond rfl (fun r => ?_) (fun r => ?_)
   ·
    try simp only [sps] at r
    refine .seq (fun K31 b1 => .region (.mv rfl (.nil (b1 _ _ ?_))))
    refine .ret ?_
    refine a _ _ ?_
    refine ⟨_, rfl, ?_⟩
    exact .of (congrArg _ (B_false fun hS => by have := hS.row k (by omega); omega))
   try simp only [sps] at r
   refine .skip ?_
   refine e0 _ _ (.seq (fun K32 d2 => .region (.mv rfl (.q rfl (.len sl_22_A rfl) (.mv rfl (.nil (d2 _ _ ?_)))))))
   refine .block ?_
   refine .loopR (σ := Nat) [(0, some _), (3, some _), (6, some _), (104, some _), (105, some _), (106, some _), (115, some _), (116, some _)] (fun j => [(117, some (.int .i64 (j : Int)))]) (fun j H' => H = H' ∧ j ≤ (c.comp.getD k []).length ∧ ∀ g, g < j → c.Cell k g) (fun j => (c.comp.getD k []).length - j) (0) ⟨rfl, rfl, rfl, rfl, rfl, rfl, rfl, rfl, trivial⟩ ⟨rfl, trivial⟩ ?_ ?_
   ·
    refine ⟨rfl, ?_⟩
    exact ⟨by omega, fun x hx => by omega⟩
   rintro j _ ⟨rfl, hI⟩ KL3 a0
   refine .forget (fr' := [(117, some (.int .i64 (j : Int))), (0, some _), (3, some _), (6, some _), (104, some _), (105, some _), (106, some _), (115, some _), (116, some _)]) ⟨rfl, rfl, rfl, rfl, rfl, rfl, rfl, rfl, rfl, trivial⟩ ?_
   obtain ⟨hk3, e4⟩ := hI
   refine .seq (fun K33 c5 => .region (.q rfl (.cmp rfl rfl rfl) (.nil (c5 _ _ (.seq (fun K34 b4 => ?_))))))
   refine .cond rfl (fun n => ?_) (fun n => ?_)
   ·
    try simp only [sps] at n
    refine .skip ?_
    refine b4 _ _ (.seq (fun K35 a1 => ?_))
    refine .block ?_
    refine .seq (fun K36 b2 => .region (.mv rfl ?_))
    refine .q rfl (.idxN sl_22_A (by assumption) rfl rfl (by omega)) ?_
    refine .q rfl (.loadI on_2_A (by assumption) rfl (by omega)) ?_
    refine .mv rfl (.mv rfl (.nil (b2 _ _ (.seq (fun K37 b3 => .seq (fun K38 c8 => ?_))))))
    refine .regionD mo_B (.q 0 (.q 1 (.q 2 (.q 3 (.q 4 (.q 5 (.q 6 (.q 7 (.q 8 (.q 9 (.q 10 (.q 11 (.q 12 (.q 13 (.q 14 (.done)))))))))))))))) (by kernel_rfl) ?_
    refine .mv rfl rfl (.q rfl (.nilCheck rfl) (.q rfl (.fieldAddr fo_29_2_B rfl) ?_))
    refine .q rfl (.load on_22_B rfl (by assumption)) ?_
    refine .mv rfl rfl ?_
    refine .q rfl (.idxN sl_22_A (by assumption) rfl rfl (by omega)) ?_
    refine .q rfl (.loadI on_2_A (by assumption) rfl (by omega)) ?_
    refine .mv rfl rfl (.q rfl (.nilCheck rfl) (.q rfl (.fieldAddr fo_29_1_B rfl) ?_))
    refine .q rfl (.load on_22_B rfl (by assumption)) ?_
    refine .mv rfl rfl ?_
    refine .q rfl (.idxN sl_22_A (by assumption) rfl rfl (by omega)) ?_
    refine .q rfl (.loadI on_2_A (by assumption) rfl (by omega)) ?_
    refine .q rfl (.cmp rfl rfl rfl) ?_
    refine .done ?_
    refine c8 _ _ ?_
    refine .cond rfl (fun b => ?_) (fun b => ?_)
    ·
     try simp only [sps] at b
     refine .seq (fun K39 a9 => .seq (fun K40 d6 => .region (.mv rfl (.q rfl (.cmp rfl rfl rfl) (.nil (d6 _ _ ?_))))))
     refine .cond rfl (fun d => ?_) (fun d => ?_)
     ·
      try simp only [sps] at d
      refine .seq (fun K41 a5 => .region (.mv rfl (.nil (a5 _ _ ?_))))
      refine .ret ?_
      refine a _ _ ?_
      refine ⟨_, rfl, ?_⟩
      exact .of (congrArg _ (B_false fun hS => d ((Cat.Cell.neg b).1 (hS.cell k (by omega) j (by omega)))))
     try simp only [sps] at d
     refine .skip ?_
     refine a9 _ _ ?_
     refine .exit ?_
     refine a1 _ _ (.region ?_)
     refine .q rfl (.add rfl rfl rfl (by omega) (by omega)) ?_
     refine .mv rfl (.nil ?_)
     refine a0 (j + 1) _ _ ?_ ?_ ⟨rfl, rfl, rfl, rfl, rfl, rfl, rfl, rfl, rfl, trivial⟩
     ·
      refine ⟨rfl, ?_⟩
      refine ⟨by omega, fun x hx => ?_⟩
      by_cases e : x < j
      · exact e4 x e
      · obtain rfl : x = j := by omega
        first
          | exact (Cat.Cell.neg b).2 d
          | exact (Cat.Cell.pos b).2 ⟨i.1, by omega, l⟩
     omega
    try simp only [sps] at b
    refine .skip ?_
    refine b3 _ _ (.seq (fun K42 y => ?_))
    refine .regionD mo_B (.q 0 (.q 1 (.q 2 (.c 3 0 (.q 4 (.q 5 (.q 6 (.q 7 (.q 9 (.q 10 (.q 11 (.q 12 (.q 13 (.q 14 (.q 15 (.q 16 (.q 17 (.q 18 (.q 19 (.q 20 (.q 21 (.q 22 (.q 23 (.c 8 1 (.q 24 (.q 25 (.done))))))))))))))))))))))))))) (by kernel_rfl) ?_
    refine .mv rfl rfl (.mv rfl rfl ?_)
    refine .q rfl (.sub rfl rfl rfl (by omega) (by omega)) ?_
    refine .callQ0 rfl rfl rfl rfl rfl @Tryd.call73 rfl (inRange_c) ?_
    refine .q rfl (.not rfl) (.mv rfl rfl ?_)
    refine .split (fun i => ?_) (fun i => ?_)
    ·
     try simp only [sps] at i
     refine .z rfl (.z rfl (.z rfl (.z rfl (.z rfl (.z rfl (.z rfl (.z rfl (.z rfl (.z rfl (.z rfl (.z rfl (.z rfl (.z rfl (.z rfl (.z rfl ?_)))))))))))))))
     refine .z rfl (.sgc rfl rfl rfl rfl rfl rfl (.z rfl (.q rfl (.pickT rfl rfl) ?_)))
     refine .done ?_
     refine y _ _ ?_
     refine .condT rfl ?_
     refine .seq (fun K43 d1 => .region (.mv rfl (.nil (d1 _ _ ?_))))
     refine .ret ?_
     refine a _ _ ?_
     refine ⟨_, rfl, ?_⟩
     exact .of (congrArg _ (B_false fun hS => by have := (Cat.Cell.pos b).1 (hS.cell k (by omega) j (by omega)); omega))
    try simp only [sps] at i
    refine .qg rfl (.move rfl) (.qg rfl (.move rfl) (.qg rfl (.move rfl) (.qg rfl (.nilCheck rfl) (.qg rfl (.fieldAddr fo_29_1_B rfl) ?_))))
    refine .qg rfl (.load on_22_B rfl (by assumption)) ?_
    refine .qg rfl (.move rfl) ?_
    refine .qg rfl (.idxN sl_22_A (by assumption) rfl rfl (by omega)) ?_
    refine .qg rfl (.loadI on_2_A (by assumption) rfl (by omega)) ?_
    refine .qg rfl (.move rfl) (.qg rfl (.nilCheck rfl) (.qg rfl (.fieldAddr fo_29_2_B rfl) ?_))
    refine .qg rfl (.load on_22_B rfl (by assumption)) ?_
    refine .qg rfl (.move rfl) ?_
    refine .qg rfl (.idxN sl_22_A (by assumption) rfl rfl (by omega)) ?_
    refine .qg rfl (.loadI on_2_A (by assumption) rfl (by omega)) ?_
    refine .qg rfl (.build bt_118_B rfl rfl rfl) ?_
    refine .callQ1g rfl rfl rfl rfl rfl rfl rfl @Tryd.call90 rfl (ends_c) (.refl _) ?_
    refine .qg rfl (.aggNe eg_118_B rfl rfl rfl rfl (aggEq_118 _ _ _ _)) (.q rfl (.pickF rfl rfl) ?_)
    refine .done ?_
    refine y _ _ ?_
    refine .cond rfl (fun l => ?_) (fun l => ?_)
    ·
     try simp only [sps] at l
     refine .seq (fun K44 a4 => .region (.mv rfl (.nil (a4 _ _ ?_))))
     refine .ret ?_
     refine a _ _ ?_
     refine ⟨_, rfl, ?_⟩
     exact .of (congrArg _ (B_false fun hS => by have := (Cat.Cell.pos b).1 (hS.cell k (by omega) j (by omega)); omega))
    try simp only [sps] at l
    refine .skip ?_
    refine a1 _ _ (.region ?_)
    refine .q rfl (.add rfl rfl rfl (by omega) (by omega)) ?_
    refine .mv rfl (.nil ?_)
    refine a0 (j + 1) _ _ ?_ ?_ ⟨rfl, rfl, rfl, rfl, rfl, rfl, rfl, rfl, rfl, trivial⟩
    ·
     refine ⟨rfl, ?_⟩
     refine ⟨by omega, fun x hx => ?_⟩
     by_cases e : x < j
     · exact e4 x e
     · obtain rfl : x = j := by omega
       first
         | exact (Cat.Cell.neg b).2 d
         | exact (Cat.Cell.pos b).2 ⟨i.1, by omega, l⟩
    omega
   try simp only [sps] at n
   refine .exit ?_
   refine b5 _ _ (.region ?_)
   refine .q rfl (.add rfl rfl rfl (by omega) (by omega)) ?_
   refine .mv rfl (.nil ?_)
   refine e6 (k + 1) _ _ ?_ ?_ ⟨rfl, rfl, rfl, rfl, rfl, trivial⟩
   ·
    refine ⟨rfl, ?_⟩
    refine ⟨by omega, fun x hx => ?_⟩
    by_cases e : x < k
    · exact b8 x e
    · obtain rfl : x = k := by omega
      exact ⟨by omega, fun g hg => e4 g (by omega)⟩
   omega
  try simp only [sps] at s
  refine .exit ?_
  refine c7 _ _ (.seq (fun K45 e8 => .region (.mv rfl (.nil (e8 _ _ ?_)))))
  refine .ret ?_
  refine a _ _ ?_
  refine ⟨_, rfl, ?_⟩
  exact .of (congrArg _ (B_true ⟨a2, by omega, by omega, v, u, by omega, m, by omega, fun x hx => f1 x (by omega), fun f hf => (b8 f (by omega)).1, fun f hf => (b8 f (by omega)).2⟩))
end Go.Proofs.YtlfnclhkhmkklaaDoor
namespace Go.Proofs.YtlfnclhkhmkklaaDoor
open Go Go.GL Go.RowKit Go.Proofs
theorem then_s {g o : Nat} {c : Cat} {p : CatP} {f k : Int} {H : GHeap} (h : Cat.At H g o c p := by assumption) (hS : c.Shape := by assumption) (h0 : 0 ≤ f := by omega) (h1 : f < c.src.length := by omega) (h2 : 0 ≤ k := by omega) (h3 : k < c.src.length := by omega) :
    GCalls Tryd.prog 78 [.pointer (some ⟨g, o, none⟩), .int .i64 f, .int .i64 k] H (Ret (.int .i64 (c.th f k)) H) := by
  have e1 := hS.cl
  have e2 := hS.row f.toNat (by omega)
  exact then_c
def FaultR (c : Cat) (H : GHeap) : Value → GHeap → Prop := fun v H' => H = H' ∧ ∃ kd b1 b2 b3 : Int, v = .tuple #[.int .i64 kd, .int .i64 b1, .int .i64 b2, .int .i64 b3] ∧ (kd = 0 ↔ c.Laws)
theorem fault_c {g o : Nat} {c : Cat} {p : CatP} {H : GHeap} (h : Cat.At H g o c p := by assumption) (hS : c.Shape := by assumption) : GCalls Tryd.prog 72 [.pointer (some ⟨g, o, none⟩)] H (FaultR c H) := by
  refine GCalls.body (N := 102) (rs := [.tmp 2, .tmp 3, .tmp 4, .tmp 5]) Tryd.func72 rfl rfl rfl rfl (fun Qx a hend => ?_)
  refine .fg [0] rfl ?_
  obtain ⟨-, c1, c2, c3, -, i1, i2, i3, -⟩ := h.get
  have e1 := hS.tl
  have e2 := hS.n40
  have e3 := hS.il
  refine .seq (fun K1 d3 => .region (.mv rfl (.mv rfl (.mv rfl (.mv rfl (.nil (d3 _ _ (.seq (fun K2 c8 => .region (.mv rfl ?_))))))))))
  refine .callQ rfl rfl rfl rfl @Tryd.call50 rfl (arrows_c) ?_
  refine .mv rfl (.nil (c8 _ _ (.seq (fun K3 d2 => .seq (fun K4 d0 => .region (.mv rfl (.nil (d0 _ _ ?_))))))))
  refine .block ?_
  refine .loopR (σ := Nat) [(0, some _), (6, some _)] (fun k => [(7, some (.int .i64 (k : Int)))]) (fun k H' => H = H' ∧ k ≤ c.src.length ∧ ∀ x, x < k → c.IdOk x) (fun k => c.src.length - k) (0) ⟨rfl, rfl, trivial⟩ ⟨rfl, trivial⟩ ?_ ?_
  ·
   refine ⟨rfl, ?_⟩
   exact ⟨by omega, fun x hx => by omega⟩
  rintro k _ ⟨rfl, hI⟩ KL1 a8
  refine .forget (fr' := [(7, some (.int .i64 (k : Int))), (0, some _), (6, some _)]) ⟨rfl, rfl, rfl, trivial⟩ ?_
  obtain ⟨hk1, c5⟩ := hI
  refine .seq (fun K5 d5 => .seq (fun K6 c9 => .region (.mv rfl (.mv rfl (.q rfl (.cmp rfl rfl rfl) (.nil (c9 _ _ ?_)))))))
  refine .cond rfl (fun b8 => ?_) (fun b8 => ?_)
  ·
   simp only [decide_eq_true_eq] at b8
   have q1 := hS.src k (by omega)
   have q2 := hS.tgt k (by omega)
   have q3 := hS.idn_lt q1.1 q1.2
   have q4 := hS.idn_lt q2.1 q2.2
   refine .skip ?_
   refine d5 _ _ (.seq (fun K7 d1 => ?_))
   refine .block ?_
   refine .seq (fun K8 c7 => ?_)
   refine .regionD mo_B (.q 0 (.q 1 (.q 2 (.q 3 (.q 4 (.q 5 (.q 6 (.q 7 (.q 8 (.q 9 (.q 10 (.q 11 (.q 12 (.q 13 (.q 14 (.q 16 (.c 15 1 (.q 17 (.q 18 (.q 19 (.q 20 (.q 21 (.q 22 (.q 23 (.q 24 (.q 25 (.q 26 (.q 27 (.q 28 (.q 29 (.q 30 (.q 31 (.q 32 (.q 33 (.q 35 (.c 34 1 (.q 36 (.q 37 (.done))))))))))))))))))))))))))))))))))))))) (by kernel_rfl) ?_
   refine .mv rfl rfl (.mv rfl rfl (.q rfl (.nilCheck rfl) (.q rfl (.fieldAddr fo_29_3_B rfl) ?_)))
   refine .q rfl (.load on_22_B rfl (by assumption)) ?_
   refine .mv rfl rfl (.q rfl (.nilCheck rfl) (.q rfl (.fieldAddr fo_29_1_B rfl) ?_))
   refine .q rfl (.load on_22_B rfl (by assumption)) ?_
   refine .mv rfl rfl ?_
   refine .q rfl (.idxN sl_22_A (by assumption) rfl rfl (by omega)) ?_
   refine .q rfl (.loadI on_2_A (by assumption) rfl (by omega)) ?_
   refine .q rfl (.idx1 sl_22_A (by assumption) rfl rfl (by omega) (by omega)) ?_
   refine .q rfl (.loadI on_2_A (by assumption) rfl (by omega)) ?_
   refine .mv rfl rfl (.mv rfl rfl ?_)
   refine .callQ1 rfl rfl rfl rfl rfl @Tryd.call78 rfl (then_s) (.refl _) ?_
   refine .q rfl (.cmp rfl rfl rfl) (.mv rfl rfl ?_)
   refine .split (fun m => ?_) (fun m => ?_)
   ·
    try simp only [sps] at m
    refine .z rfl (.z rfl (.z rfl (.z rfl (.z rfl (.z rfl (.z rfl (.z rfl (.z rfl (.z rfl (.z rfl (.z rfl (.z rfl (.z rfl (.z rfl (.z rfl ?_)))))))))))))))
    refine .sgc rfl rfl rfl rfl rfl rfl (.z rfl (.q rfl (.pickT rfl rfl) ?_))
    refine .done ?_
    refine c7 _ _ ?_
    refine .condT rfl ?_
    refine .seq (fun K9 d4 => .region (.mv rfl (.mv rfl (.mv rfl (.mv rfl (.mv rfl (.nil (d4 _ _ ?_))))))))
    refine .ret ?_
    refine a _ _ ?_
    refine ⟨_, _, _, _, rfl, rfl, rfl, rfl, ?_⟩
    exact ⟨rfl, _, _, _, _, rfl, fun e => by omega, fun hL => absurd (hL.ids k (by omega)).1 m⟩
   try simp only [sps] at m
   refine .qg rfl (.move rfl) (.qg rfl (.move rfl) (.qg rfl (.move rfl) (.qg rfl (.nilCheck rfl) (.qg rfl (.fieldAddr fo_29_3_B rfl) ?_))))
   refine .qg rfl (.load on_22_B rfl (by assumption)) ?_
   refine .qg rfl (.move rfl) (.qg rfl (.nilCheck rfl) (.qg rfl (.fieldAddr fo_29_2_B rfl) ?_))
   refine .qg rfl (.load on_22_B rfl (by assumption)) ?_
   refine .qg rfl (.move rfl) ?_
   refine .qg rfl (.idxN sl_22_A (by assumption) rfl rfl (by omega)) ?_
   refine .qg rfl (.loadI on_2_A (by assumption) rfl (by omega)) ?_
   refine .qg rfl (.idx1 sl_22_A (by assumption) rfl rfl (by omega) (by omega)) ?_
   refine .qg rfl (.loadI on_2_A (by assumption) rfl (by omega)) ?_
   refine .qg rfl (.move rfl) ?_
   refine .callQ1g rfl rfl rfl rfl rfl rfl rfl @Tryd.call78 rfl (then_s) (.refl _) ?_
   refine .qg rfl (.cmp rfl rfl rfl) (.q rfl (.pickF rfl rfl) ?_)
   refine .done ?_
   refine c7 _ _ ?_
   refine .cond rfl (fun s => ?_) (fun s => ?_)
   ·
    try simp only [sps] at s
    refine .seq (fun K10 b9 => .region (.mv rfl (.mv rfl (.mv rfl (.mv rfl (.mv rfl (.nil (b9 _ _ ?_))))))))
    refine .ret ?_
    refine a _ _ ?_
    refine ⟨_, _, _, _, rfl, rfl, rfl, rfl, ?_⟩
    exact ⟨rfl, _, _, _, _, rfl, fun e => by omega, fun hL => absurd (hL.ids k (by omega)).2 s⟩
   try simp only [sps] at s
   refine .skip ?_
   refine d1 _ _ (.region (.mv rfl ?_))
   refine .q rfl (.add rfl rfl rfl (by omega) (by omega)) ?_
   refine .mv rfl (.nil ?_)
   refine a8 (k + 1) _ _ ?_ ?_ ⟨rfl, rfl, rfl, trivial⟩
   ·
    refine ⟨rfl, ?_⟩
    refine ⟨by omega, fun x hx => ?_⟩
    by_cases e : x < k
    · exact c5 x e
    · obtain rfl : x = k := by omega
      exact ⟨m, s⟩
   omega
  try simp only [sps] at b8
  refine .exit ?_
  refine d2 _ _ (.seq (fun K11 b2 => .seq (fun K12 a3 => .region (.mv rfl (.nil (a3 _ _ ?_))))))
  refine .block ?_
  refine .loopR (σ := Nat) [(0, some _), (6, some _)] (fun k => [(8, some (.int .i64 (k : Int)))]) (fun k H' => H = H' ∧ k ≤ c.src.length ∧ ∀ f, f < k → ∀ g, g < c.src.length → c.tgt.getD f 0 = c.src.getD g 0 → ∀ h, h < c.src.length → c.tgt.getD g 0 = c.src.getD h 0 → c.th (c.th f g) h = c.th f (c.th g h)) (fun k => c.src.length - k) (0) ⟨rfl, rfl, trivial⟩ ⟨rfl, trivial⟩ ?_ ?_
  ·
   refine ⟨rfl, ?_⟩
   exact ⟨by omega, fun x hx => by omega⟩
  rintro k _ ⟨rfl, hI⟩ KL2 c0
  refine .forget (fr' := [(8, some (.int .i64 (k : Int))), (0, some _), (6, some _)]) ⟨rfl, rfl, rfl, trivial⟩ ?_
  obtain ⟨hk2, c6⟩ := hI
  refine .seq (fun K13 b1 => .seq (fun K14 v => .region (.mv rfl (.mv rfl (.q rfl (.cmp rfl rfl rfl) (.nil (v _ _ ?_)))))))
  refine .cond rfl (fun b5 => ?_) (fun b5 => ?_)
  ·
   try simp only [sps] at b5
   refine .skip ?_
   refine b1 _ _ (.seq (fun K15 a5 => ?_))
   refine .block ?_
   refine .seq (fun K16 b3 => .region (.mv rfl (.nil (b3 _ _ ?_))))
   refine .block ?_
   refine .loopR (σ := Nat) [(0, some _), (6, some _), (8, some _)] (fun j => [(9, some (.int .i64 (j : Int)))]) (fun j H' => H = H' ∧ j ≤ c.src.length ∧ ∀ g, g < j → c.tgt.getD k 0 = c.src.getD g 0 → ∀ h, h < c.src.length → c.tgt.getD g 0 = c.src.getD h 0 → c.th (c.th k g) h = c.th k (c.th g h)) (fun j => c.src.length - j) (0) ⟨rfl, rfl, rfl, trivial⟩ ⟨rfl, trivial⟩ ?_ ?_
   ·
    refine ⟨rfl, ?_⟩
    exact ⟨by omega, fun x hx => by omega⟩
   rintro j _ ⟨rfl, hI⟩ KL3 d
   refine .forget (fr' := [(9, some (.int .i64 (j : Int))), (0, some _), (6, some _), (8, some _)]) ⟨rfl, rfl, rfl, rfl, trivial⟩ ?_
   obtain ⟨hk3, b7⟩ := hI
   refine .seq (fun K17 a9 => .seq (fun K18 c4 => .region (.mv rfl (.mv rfl (.q rfl (.cmp rfl rfl rfl) (.nil (c4 _ _ ?_)))))))
   refine .cond rfl (fun b4 => ?_) (fun b4 => ?_)
   ·
    try simp only [sps] at b4
    refine .skip ?_
    refine a9 _ _ (.seq (fun K19 r => ?_))
    refine .block ?_
    refine .seq (fun K20 y => .seq (fun K21 a6 => .region (.mv rfl (.mv rfl (.mv rfl ?_)))))
    refine .callQ rfl rfl rfl rfl @Tryd.call78 rfl (then_s) ?_
    refine .q rfl (.cmp rfl rfl rfl) (.nil (a6 _ _ ?_))
    refine .cond rfl (fun a0 => ?_) (fun a0 => ?_)
    ·
     try simp only [sps] at a0
     refine .exit ?_
     refine r _ _ (.region (.mv rfl ?_))
     refine .q rfl (.add rfl rfl rfl (by omega) (by omega)) ?_
     refine .mv rfl (.nil ?_)
     refine d (j + 1) _ _ ?_ ?_ ⟨rfl, rfl, rfl, rfl, trivial⟩
     ·
      refine ⟨rfl, ?_⟩
      refine ⟨by omega, fun x hx => ?_⟩
      by_cases e : x < j
      · exact b7 x e
      · obtain rfl : x = j := by omega
        first
          | exact fun e => absurd ((hS.th_ge (by omega) (by omega)).2 e) (by omega)
          | exact fun _ h hh => u h (by omega)
     omega
    simp only [decide_eq_false_iff_not] at a0
    have q5 := hS.th_lt (f := k) (g := j) (by omega) (by omega)
    have q6 := (hS.th_ge (f := k) (g := j) (by omega) (by omega)).1 (by omega)
    refine .skip ?_
    refine y _ _ (.seq (fun K22 a4 => .region (.mv rfl (.nil (a4 _ _ ?_)))))
    refine .block ?_
    refine .loopR (σ := Nat) [(0, some _), (6, some _), (8, some _), (9, some _)] (fun i => [(10, some (.int .i64 (i : Int)))]) (fun i H' => H = H' ∧ i ≤ c.src.length ∧ ∀ h, h < i → c.tgt.getD j 0 = c.src.getD h 0 → c.th (c.th k j) h = c.th k (c.th j h)) (fun i => c.src.length - i) (0) ⟨rfl, rfl, rfl, rfl, trivial⟩ ⟨rfl, trivial⟩ ?_ ?_
    ·
     refine ⟨rfl, ?_⟩
     exact ⟨by omega, fun x hx => by omega⟩
    rintro i _ ⟨rfl, hI⟩ KL4 l
    refine .forget (fr' := [(10, some (.int .i64 (i : Int))), (0, some _), (6, some _), (8, some _), (9, some _)]) ⟨rfl, rfl, rfl, rfl, rfl, trivial⟩ ?_
    obtain ⟨hk4, u⟩ := hI
    refine .seq (fun K23 a7 => .seq (fun K24 w => .region (.mv rfl (.mv rfl (.q rfl (.cmp rfl rfl rfl) (.nil (w _ _ ?_)))))))
    refine .cond rfl (fun a1 => ?_) (fun a1 => ?_)
    ·
     try simp only [sps] at a1
     refine .skip ?_
     refine a7 _ _ (.seq (fun K25 t => ?_))
     refine .block ?_
     refine .seq (fun K26 n => .region (.mv rfl (.mv rfl (.mv rfl ?_))))
     refine .callQ rfl rfl rfl rfl @Tryd.call78 rfl (then_s) ?_
     refine .q rfl (.cmp rfl rfl rfl) (.mv rfl ?_)
     refine .split (fun b6 => ?_) (fun b6 => ?_)
     ·
      simp only [decide_eq_true_eq, ge_iff_le] at b6
      have q7 := hS.th_lt (f := j) (g := i) (by omega) (by omega)
      have q8 := (hS.th_ge (f := j) (g := i) (by omega) (by omega)).1 (by omega)
      refine .qg rfl (.move rfl) (.qg rfl (.move rfl) (.qg rfl (.move rfl) (.qg rfl (.move rfl) ?_)))
      refine .callQg rfl rfl rfl rfl rfl rfl @Tryd.call78 rfl (then_s) ?_
      refine .qg rfl (.move rfl) ?_
      refine .callQg rfl rfl rfl rfl rfl rfl @Tryd.call78 rfl (then_s) ?_
      refine .qg rfl (.move rfl) (.qg rfl (.move rfl) (.qg rfl (.move rfl) (.qg rfl (.move rfl) (.qg rfl (.move rfl) ?_))))
      refine .callQg rfl rfl rfl rfl rfl rfl @Tryd.call78 rfl (then_s) ?_
      refine .callQg rfl rfl rfl rfl rfl rfl @Tryd.call78 rfl (then_s) ?_
      refine .qg rfl (.cmp rfl rfl rfl) (.q rfl (.pickT rfl rfl) (.nil (n _ _ ?_)))
      refine .cond rfl (fun b => ?_) (fun b => ?_)
      ·
       try simp only [sps] at b
       refine .seq (fun K27 a2 => .region (.mv rfl (.mv rfl (.mv rfl (.mv rfl (.mv rfl (.mv rfl (.mv rfl (.nil (a2 _ _ ?_))))))))))
       refine .ret ?_
       refine a _ _ ?_
       refine ⟨_, _, _, _, rfl, rfl, rfl, rfl, ?_⟩
       exact ⟨rfl, _, _, _, _, rfl, fun e => by omega, fun hL => absurd (hL.as k (by omega) j (by omega) q6 i (by omega) q8) b⟩
      try simp only [sps] at b
      refine .skip ?_
      refine t _ _ (.region (.mv rfl ?_))
      refine .q rfl (.add rfl rfl rfl (by omega) (by omega)) ?_
      refine .mv rfl (.nil ?_)
      refine l (i + 1) _ _ ?_ ?_ ⟨rfl, rfl, rfl, rfl, rfl, trivial⟩
      ·
       refine ⟨rfl, ?_⟩
       refine ⟨by omega, fun x hx => ?_⟩
       by_cases e : x < i
       · exact u x e
       · obtain rfl : x = i := by omega
         first
           | exact fun e => absurd ((hS.th_ge (by omega) (by omega)).2 e) (by omega)
           | exact fun _ => b
      omega
     try simp only [sps] at b6
     refine .z rfl (.z rfl (.z rfl (.z rfl (.z rfl (.z rfl (.z rfl (.z rfl (.z rfl (.z rfl (.z rfl (.z rfl (.z rfl (.z rfl (.z rfl (.q rfl (.pickF rfl rfl) ?_)))))))))))))))
     refine .nil (n _ _ ?_)
     refine .condF rfl ?_
     refine .skip ?_
     refine t _ _ (.region (.mv rfl ?_))
     refine .q rfl (.add rfl rfl rfl (by omega) (by omega)) ?_
     refine .mv rfl (.nil ?_)
     refine l (i + 1) _ _ ?_ ?_ ⟨rfl, rfl, rfl, rfl, rfl, trivial⟩
     ·
      refine ⟨rfl, ?_⟩
      refine ⟨by omega, fun x hx => ?_⟩
      by_cases e : x < i
      · exact u x e
      · obtain rfl : x = i := by omega
        first
          | exact fun e => absurd ((hS.th_ge (by omega) (by omega)).2 e) (by omega)
          | exact fun _ => b
     omega
    try simp only [sps] at a1
    refine .exit ?_
    refine r _ _ (.region (.mv rfl ?_))
    refine .q rfl (.add rfl rfl rfl (by omega) (by omega)) ?_
    refine .mv rfl (.nil ?_)
    refine d (j + 1) _ _ ?_ ?_ ⟨rfl, rfl, rfl, rfl, trivial⟩
    ·
     refine ⟨rfl, ?_⟩
     refine ⟨by omega, fun x hx => ?_⟩
     by_cases e : x < j
     · exact b7 x e
     · obtain rfl : x = j := by omega
       first
         | exact fun e => absurd ((hS.th_ge (by omega) (by omega)).2 e) (by omega)
         | exact fun _ h hh => u h (by omega)
    omega
   try simp only [sps] at b4
   refine .exit ?_
   refine a5 _ _ (.region (.mv rfl ?_))
   refine .q rfl (.add rfl rfl rfl (by omega) (by omega)) ?_
   refine .mv rfl (.nil ?_)
   refine c0 (k + 1) _ _ ?_ ?_ ⟨rfl, rfl, rfl, trivial⟩
   ·
    refine ⟨rfl, ?_⟩
    refine ⟨by omega, fun x hx => ?_⟩
    by_cases e : x < k
    · exact c6 x e
    · obtain rfl : x = k := by omega
      exact fun g hg => b7 g (by omega)
   omega
  try simp only [sps] at b5
  refine .exit ?_
  refine b2 _ _ (.seq (fun K28 b0 => .region (.mv rfl (.mv rfl (.mv rfl (.mv rfl (.nil (b0 _ _ ?_))))))))
  refine .ret ?_
  refine a _ _ ?_
  refine ⟨_, _, _, _, rfl, rfl, rfl, rfl, ?_⟩
  exact ⟨rfl, _, _, _, _, rfl, fun _ => ⟨fun f hf => c5 f (by omega), fun f hf => c6 f (by omega)⟩, fun _ => rfl⟩
theorem isCategory_c {g o : Nat} {c : Cat} {p : CatP} {H : GHeap} (h : Cat.At H g o c p := by assumption) (hs : c.Small := by assumption) : GCalls Tryd.prog 48 [.pointer (some ⟨g, o, none⟩)] H (Ret (.bool (B c.Is)) H) := by
  refine GCalls.body (N := 19) (rs := [.tmp 2]) Tryd.func48 rfl rfl rfl rfl (fun Qx a hend => ?_)
  refine .fg [0] rfl ?_
  refine .seq (fun K1 i => .region (.mv rfl (.nil (i _ _ (.seq (fun K2 b => .seq (fun K3 e => .region (.mv rfl ?_))))))))
  refine .callQ rfl rfl rfl rfl @Tryd.call71 rfl (isShape_c) ?_
  refine .q rfl (.not rfl) (.nil (e _ _ ?_))
  refine .cond rfl (fun h9 => ?_) (fun h9 => ?_)
  ·
   try simp only [sps] at h9
   refine .seq (fun K4 f => .region (.mv rfl (.nil (f _ _ ?_))))
   refine .ret ?_
   refine a _ _ ?_
   refine ⟨_, rfl, ?_⟩
   exact .of (congrArg _ (B_false fun hI => h9 hI.1))
  try simp only [sps] at h9
  refine .skip ?_
  refine b _ _ (.seq (fun K5 j => .region (.mv rfl ?_)))
  refine .call rfl rfl rfl rfl @Tryd.call72 rfl (fault_c) ?_
  rintro _ _ ⟨rfl, kd, b1, b2, b3, rfl, hkd⟩
  refine .mv rfl (.q rfl (.extract rfl rfl) (.q rfl (.extract rfl rfl) (.q rfl (.extract rfl rfl) (.q rfl (.extract rfl rfl) (.mv rfl (.mv rfl (.mv rfl (.mv rfl (.nil (j _ _ (.seq (fun K6 d => .region (.mv rfl (.q rfl (.cmp rfl rfl rfl) (.mv rfl ?_)))))))))))))))
  refine .nil (d _ _ ?_)
  refine .ret ?_
  refine a _ _ ?_
  refine ⟨_, rfl, ?_⟩
  exact .of (congrArg _ (by rw [Bool.eq_iff_iff, B_iff, beq_iff_eq, hkd]; exact ⟨fun h => h.2, fun h => ⟨h9, h⟩⟩))
end Go.Proofs.YtlfnclhkhmkklaaDoor
namespace Go.Proofs.YtlfnclhkhmkklaaDoor
open Go Go.GL Go.RowKit Go.Proofs
theorem sz_29_D : (Tryd.prog.info? 29).map (·.size) = some 5 := by kernel_rfl
theorem ag_29_D : aggT Tryd.prog 29 = some 5 := by kernel_rfl
theorem l02Ends_c {a : Option Addr} {xs : List Int} {n : Nat} {m : Int} {H : GHeap} (h : Ints H a xs := by assumption) (hl : xs.length ≤ 1048576 := by omega) :
    GCalls Tryd.prog 70 [.slice a xs.length xs.length, .int .i64 (n : Int), .int .i64 m] H (Ret (.bool (decide (xs.length = n) && allIn xs m)) H) := by
  refine GCalls.body (N := 16) (rs := [.tmp 6]) Tryd.func70 rfl rfl rfl rfl (fun Qx b hend => ?_)
  refine .fg [0, 1, 2] rfl ?_
  refine .seq (fun K1 e => .region (.mv rfl (.nil (e _ _ (.seq (fun K2 d => .region (.mv rfl (.q rfl (.len sl_22_A rfl) (.mv rfl (.q rfl (.cmp rfl rfl rfl) (.mv rfl ?_)))))))))))
  refine .split (fun c => ?_) (fun c => ?_)
  ·
   simp only [beq_iff_eq, beq_eq_false_iff_ne, ne_eq] at c
   refine .qg rfl (.move rfl) (.qg rfl (.move rfl) ?_)
   refine .callQg rfl rfl rfl rfl rfl rfl @Tryd.call53 rfl (l01Map_c) ?_
   refine .q rfl (.pickT rfl rfl) (.mv rfl (.nil (d _ _ ?_)))
   refine .ret ?_
   refine b _ _ ?_
   refine ⟨_, rfl, ?_⟩
   exact .of (congrArg _ (by rw [decide_eq_true (by omega : xs.length = n), Bool.true_and]))
  simp only [beq_iff_eq, beq_eq_false_iff_ne, ne_eq] at c
  refine .z rfl (.z rfl (.z rfl (.q rfl (.pickF rfl rfl) (.mv rfl (.nil (d _ _ ?_))))))
  refine .ret ?_
  refine b _ _ ?_
  refine ⟨_, rfl, ?_⟩
  exact .of (congrArg _ (by rw [decide_eq_false (by omega : ¬ xs.length = n), Bool.false_and]))
theorem specShape_c {c : Cat} {p : CatP} {H : GHeap} (hin : c.In H p := by assumption) (hs : c.Small := by assumption) : GCalls Tryd.prog 46 [.agg (c.cells p).toArray] H (Ret (.bool (B c.Shape)) H) := by
  refine GCalls.ret rfl ?_
  refine GCalls.body (N := 159) (rs := [.tmp 2]) Tryd.func46 rfl rfl rfl rfl (fun Qx a hend => ?_)
  refine .fg [0] rfl ?_
  refine .seq (fun K1 g0 => .region (.d rfl rfl rfl (.box rfl sz_29_D rfl CIs.mk) ?_))
  show GRun _ _ _ _ _ _ (H.push (.row (c.cells p) 29 true))
  have i := GHeap.le_push H (.row (c.cells p) 29 true)
  have hb : Cat.At (H.push (.row (c.cells p) 29 true)) H.next 0 c p := ⟨Mem.new _ _ _ _, hin.mono i⟩
  generalize H.push (.row (c.cells p) 29 true) = H1 at *
  generalize H.next = g at *
  obtain ⟨c0, c1, c2, c3, c4, i1, i2, i3, i4⟩ := hb.get
  obtain ⟨s1, s2, s3, -, -, s6⟩ := hs
  refine .mv rfl (.nil (g0 _ _ (.seq (fun K2 f5 => .region (.q rfl (.fieldAddr fo_29_1_B rfl) ?_)))))
  refine .q rfl (.load on_22_B rfl (by assumption)) ?_
  refine .q rfl (.len sl_22_A rfl) (.mv rfl (.nil (f5 _ _ (.seq (fun K3 f9 => .seq (fun K4 w => .region (.q rfl (.fieldAddr fo_29_0_B rfl) ?_)))))))
  refine .q rfl (.load on_2_A rfl (by assumption)) ?_
  refine .callQ rfl rfl rfl rfl @Tryd.call64 rfl (l01In_c) ?_
  refine .q rfl (.not rfl) (.mv rfl ?_)
  refine .split (fun a6 => ?_) (fun a6 => ?_)
  ·
   try simp only [sps] at a6
   refine .z rfl (.z rfl (.q rfl (.pickT rfl rfl) (.mv rfl (.z rfl (.z rfl (.z rfl (.z rfl (.z rfl (.z rfl (.z rfl (.q rfl (.pickT rfl rfl) (.mv rfl (.z rfl (.z rfl (.z rfl ?_)))))))))))))))
   refine .z rfl (.z rfl (.z rfl (.z rfl (.q rfl (.pickT rfl rfl) (.mv rfl (.z rfl (.z rfl (.z rfl (.z rfl (.z rfl (.q rfl (.pickT rfl rfl) (.nil (w _ _ ?_)))))))))))))
   refine .condT rfl ?_
   refine .seq (fun K5 g2 => .region (.mv rfl (.nil (g2 _ _ ?_))))
   refine .ret ?_
   refine a _ _ ?_
   refine ⟨_, rfl, ?_⟩
   exact ⟨congrArg _ (B_false fun hS => by have q1 := hS.obj; have q2 := hS.n40; have q3 := hS.tl; have q4 := hS.il; have q5 := hS.cl; omega), i⟩
  try simp only [sps] at a6
  refine .qg rfl (.move rfl) (.qg rfl (.cmp rfl rfl rfl) (.q rfl (.pickF rfl rfl) (.mv rfl ?_)))
  refine .split (fun c9 => ?_) (fun c9 => ?_)
  ·
   try simp only [sps] at c9
   refine .z rfl (.z rfl (.z rfl (.z rfl (.z rfl (.z rfl (.z rfl (.q rfl (.pickT rfl rfl) (.mv rfl (.z rfl (.z rfl (.z rfl (.z rfl (.z rfl (.z rfl (.z rfl ?_)))))))))))))))
   refine .q rfl (.pickT rfl rfl) (.mv rfl (.z rfl (.z rfl (.z rfl (.z rfl (.z rfl (.q rfl (.pickT rfl rfl) (.nil (w _ _ ?_)))))))))
   refine .condT rfl ?_
   refine .seq (fun K6 f6 => .region (.mv rfl (.nil (f6 _ _ ?_))))
   refine .ret ?_
   refine a _ _ ?_
   refine ⟨_, rfl, ?_⟩
   exact ⟨congrArg _ (B_false fun hS => by have q1 := hS.obj; have q2 := hS.n40; have q3 := hS.tl; have q4 := hS.il; have q5 := hS.cl; omega), i⟩
  try simp only [sps] at c9
  refine .qg rfl (.fieldAddr fo_29_1_B rfl) ?_
  refine .qg rfl (.load on_22_B rfl (by assumption)) ?_
  refine .qg rfl (.move rfl) (.qg rfl (.fieldAddr fo_29_0_B rfl) ?_)
  refine .qg rfl (.load on_2_A rfl (by assumption)) ?_
  refine .callQg rfl rfl rfl rfl rfl rfl @Tryd.call70 rfl (l02Ends_c) ?_
  refine .qg rfl (.not rfl) (.q rfl (.pickF rfl rfl) (.mv rfl ?_))
  refine .split (fun y => ?_) (fun y => ?_)
  ·
   try simp only [sps] at y
   refine .z rfl (.z rfl (.z rfl (.z rfl (.z rfl (.z rfl (.z rfl (.q rfl (.pickT rfl rfl) (.mv rfl (.z rfl (.z rfl (.z rfl (.z rfl (.z rfl (.q rfl (.pickT rfl rfl) (.nil ?_)))))))))))))))
   refine w _ _ ?_
   refine .condT rfl ?_
   refine .seq (fun K7 f8 => .region (.mv rfl (.nil (f8 _ _ ?_))))
   refine .ret ?_
   refine a _ _ ?_
   refine ⟨_, rfl, ?_⟩
   exact ⟨congrArg _ (B_false fun hS => y.elim (fun h => h trivial) (fun h => by rw [allIn_iff.2 hS.src] at h; cases h)), i⟩
  try simp only [sps] at y
  refine .qg rfl (.fieldAddr fo_29_2_B rfl) ?_
  refine .qg rfl (.load on_22_B rfl (by assumption)) ?_
  refine .qg rfl (.move rfl) (.qg rfl (.fieldAddr fo_29_0_B rfl) ?_)
  refine .qg rfl (.load on_2_A rfl (by assumption)) ?_
  refine .callQg rfl rfl rfl rfl rfl rfl @Tryd.call70 rfl (l02Ends_c) ?_
  refine .qg rfl (.not rfl) (.q rfl (.pickF rfl rfl) (.mv rfl ?_))
  refine .split (fun v => ?_) (fun v => ?_)
  ·
   try simp only [sps] at v
   refine .z rfl (.z rfl (.z rfl (.z rfl (.z rfl (.q rfl (.pickT rfl rfl) (.nil (w _ _ ?_)))))))
   refine .condT rfl ?_
   refine .seq (fun K8 f7 => .region (.mv rfl (.nil (f7 _ _ ?_))))
   refine .ret ?_
   refine a _ _ ?_
   refine ⟨_, rfl, ?_⟩
   exact ⟨congrArg _ (B_false fun hS => v.elim (fun h => h hS.tl) (fun h => by rw [allIn_iff.2 hS.tgt] at h; cases h)), i⟩
  try simp only [sps] at v
  refine .qg rfl (.fieldAddr fo_29_4_B rfl) ?_
  refine .qg rfl (.load on_23_B rfl (by assumption)) ?_
  refine .qg rfl (.len sl_23_B rfl) (.qg rfl (.move rfl) (.qg rfl (.cmp rfl rfl rfl) (.q rfl (.pickF rfl rfl) (.nil (w _ _ ?_)))))
  refine .cond rfl (fun e1 => ?_) (fun e1 => ?_)
  ·
   try simp only [sps] at e1
   refine .seq (fun K9 g1 => .region (.mv rfl (.nil (g1 _ _ ?_))))
   refine .ret ?_
   refine a _ _ ?_
   refine ⟨_, rfl, ?_⟩
   exact ⟨congrArg _ (B_false fun hS => by have q1 := hS.obj; have q2 := hS.n40; have q3 := hS.tl; have q4 := hS.il; have q5 := hS.cl; omega), i⟩
  try simp only [sps] at e1
  refine .skip ?_
  refine f9 _ _ (.seq (fun K10 e7 => .seq (fun K11 a5 => .region (.q rfl (.fieldAddr fo_29_3_B rfl) ?_))))
  refine .q rfl (.load on_22_B rfl (by assumption)) ?_
  refine .q rfl (.len sl_22_A rfl) (.q rfl (.fieldAddr fo_29_0_B rfl) ?_)
  refine .q rfl (.load on_2_A rfl (by assumption)) ?_
  refine .q rfl (.cmp rfl rfl rfl) (.mv rfl ?_)
  refine .split (fun f0 => ?_) (fun f0 => ?_)
  ·
   try simp only [sps] at f0
   refine .z rfl (.z rfl (.z rfl (.z rfl (.z rfl (.q rfl (.pickT rfl rfl) (.nil (a5 _ _ ?_)))))))
   refine .condT rfl ?_
   refine .seq (fun K12 c5 => .region (.mv rfl (.nil (c5 _ _ ?_))))
   refine .ret ?_
   refine a _ _ ?_
   refine ⟨_, rfl, ?_⟩
   exact ⟨congrArg _ (B_false fun hS => by have q1 := hS.obj; have q2 := hS.n40; have q3 := hS.tl; have q4 := hS.il; have q5 := hS.cl; omega), i⟩
  try simp only [sps] at f0
  refine .qg rfl (.move rfl) (.qg rfl (.fieldAddr fo_29_3_B rfl) ?_)
  refine .qg rfl (.load on_22_B rfl (by assumption)) ?_
  refine .callQg rfl rfl rfl rfl rfl rfl @Tryd.call53 rfl (l01Map_c) ?_
  refine .qg rfl (.not rfl) (.q rfl (.pickF rfl rfl) (.nil (a5 _ _ ?_)))
  refine .cond rfl (fun r => ?_) (fun r => ?_)
  ·
   try simp only [sps] at r
   refine .seq (fun K13 e5 => .region (.mv rfl (.nil (e5 _ _ ?_))))
   refine .ret ?_
   refine a _ _ ?_
   refine ⟨_, rfl, ?_⟩
   exact ⟨congrArg _ (B_false fun hS => by rw [allIn_iff.2 hS.idn] at r; cases r), i⟩
  try simp only [sps] at r
  refine .skip ?_
  refine e7 _ _ (.seq (fun K14 a9 => .seq (fun K15 c8 => .region (.mv rfl (.nil (c8 _ _ ?_))))))
  refine .block ?_
  refine .loopR (σ := Nat) [(1, some _), (3, some _)] (fun k => [(4, some (.int .i64 (k : Int)))]) (fun k H' => H1 = H' ∧ (k : Int) ≤ c.obj ∧ ∀ x, x < k → c.src.getD (c.idn.getD x 0).toNat 0 = x ∧ c.tgt.getD (c.idn.getD x 0).toNat 0 = x) (fun k => c.idn.length - k) (0) ⟨rfl, rfl, trivial⟩ ⟨rfl, trivial⟩ ?_ ?_
  ·
   refine ⟨rfl, ?_⟩
   exact ⟨by omega, fun x hx => by omega⟩
  rintro k _ ⟨rfl, hI⟩ KL1 d4
  refine .forget (fr' := [(4, some (.int .i64 (k : Int))), (1, some _), (3, some _)]) ⟨rfl, rfl, rfl, trivial⟩ ?_
  obtain ⟨hk1, f4⟩ := hI
  refine .seq (fun K16 e3 => .seq (fun K17 d8 => .region (.mv rfl (.q rfl (.fieldAddr fo_29_0_B rfl) ?_))))
  refine .q rfl (.load on_2_A rfl (by assumption)) ?_
  refine .q rfl (.cmp rfl rfl rfl) (.nil (d8 _ _ ?_))
  refine .cond rfl (fun d5 => ?_) (fun d5 => ?_)
  ·
   simp only [decide_eq_true_eq] at d5
   have q1 := r k (by omega)
   refine .skip ?_
   refine e3 _ _ (.seq (fun K18 f3 => ?_))
   refine .block ?_
   refine .seq (fun K19 a4 => ?_)
   refine .regionD mo_B (.q 0 (.q 1 (.q 2 (.q 3 (.q 4 (.q 5 (.q 6 (.q 7 (.q 8 (.q 9 (.q 10 (.q 11 (.q 12 (.q 13 (.q 14 (.q 15 (.q 16 (.q 17 (.q 18 (.q 19 (.q 20 (.q 21 (.q 22 (.q 23 (.done))))))))))))))))))))))))) (by kernel_rfl) ?_
   refine .q rfl (.fieldAddr fo_29_1_B rfl) ?_
   refine .q rfl (.load on_22_B rfl (by assumption)) ?_
   refine .q rfl (.fieldAddr fo_29_3_B rfl) ?_
   refine .q rfl (.load on_22_B rfl (by assumption)) ?_
   refine .mv rfl rfl ?_
   refine .q rfl (.idxN sl_22_A (by assumption) rfl rfl (by omega)) ?_
   refine .q rfl (.loadI on_2_A (by assumption) rfl (by omega)) ?_
   refine .q rfl (.idx1 sl_22_A (by assumption) rfl rfl (by omega) (by omega)) ?_
   refine .q rfl (.loadI on_2_A (by assumption) rfl (by omega)) ?_
   refine .mv rfl rfl (.q rfl (.cmp rfl rfl rfl) (.mv rfl rfl ?_))
   refine .split (fun a0 => ?_) (fun a0 => ?_)
   ·
    try simp only [sps] at a0
    refine .z rfl (.z rfl (.z rfl (.z rfl (.z rfl (.z rfl (.z rfl (.z rfl (.z rfl (.z rfl (.z rfl (.q rfl (.pickT rfl rfl) ?_)))))))))))
    refine .done ?_
    refine a4 _ _ ?_
    refine .condT rfl ?_
    refine .seq (fun K20 b1 => .region (.mv rfl (.nil (b1 _ _ ?_))))
    refine .ret ?_
    refine a _ _ ?_
    refine ⟨_, rfl, ?_⟩
    exact ⟨congrArg _ (B_false fun hS => a0 (hS.ids k (by omega)).1), i⟩
   try simp only [sps] at a0
   refine .qg rfl (.fieldAddr fo_29_2_B rfl) ?_
   refine .qg rfl (.load on_22_B rfl (by assumption)) ?_
   refine .qg rfl (.fieldAddr fo_29_3_B rfl) ?_
   refine .qg rfl (.load on_22_B rfl (by assumption)) ?_
   refine .qg rfl (.move rfl) ?_
   refine .qg rfl (.idxN sl_22_A (by assumption) rfl rfl (by omega)) ?_
   refine .qg rfl (.loadI on_2_A (by assumption) rfl (by omega)) ?_
   refine .qg rfl (.idx1 sl_22_A (by assumption) rfl rfl (by omega) (by omega)) ?_
   refine .qg rfl (.loadI on_2_A (by assumption) rfl (by omega)) ?_
   refine .qg rfl (.move rfl) (.qg rfl (.cmp rfl rfl rfl) (.q rfl (.pickF rfl rfl) ?_))
   refine .done ?_
   refine a4 _ _ ?_
   refine .cond rfl (fun a2 => ?_) (fun a2 => ?_)
   ·
    try simp only [sps] at a2
    refine .seq (fun K21 d1 => .region (.mv rfl (.nil (d1 _ _ ?_))))
    refine .ret ?_
    refine a _ _ ?_
    refine ⟨_, rfl, ?_⟩
    exact ⟨congrArg _ (B_false fun hS => a2 (hS.ids k (by omega)).2), i⟩
   try simp only [sps] at a2
   refine .skip ?_
   refine f3 _ _ (.region (.mv rfl ?_))
   refine .q rfl (.add rfl rfl rfl (by omega) (by omega)) ?_
   refine .mv rfl (.nil ?_)
   refine d4 (k + 1) _ _ ?_ ?_ ⟨rfl, rfl, rfl, trivial⟩
   ·
    refine ⟨rfl, ?_⟩
    refine ⟨by omega, fun x hx => ?_⟩
    by_cases e : x < k
    · exact f4 x e
    · obtain rfl : x = k := by omega
      exact ⟨a0, a2⟩
   omega
  try simp only [sps] at d5
  refine .exit ?_
  refine a9 _ _ (.seq (fun K22 c6 => .seq (fun K23 d2 => .region (.mv rfl (.nil (d2 _ _ ?_))))))
  refine .block ?_
  refine .loopR (σ := Nat) [(1, some _), (3, some _)] (fun k => [(5, some (.int .i64 (k : Int)))]) (fun k H' => H1 = H' ∧ k ≤ c.comp.length ∧ ∀ f, f < k → (c.comp.getD f []).length = c.src.length ∧ ∀ g, g < c.src.length → c.Cell f g) (fun k => c.comp.length - k) (0) ⟨rfl, rfl, trivial⟩ ⟨rfl, trivial⟩ ?_ ?_
  ·
   refine ⟨rfl, ?_⟩
   exact ⟨by omega, fun x hx => by omega⟩
  rintro k _ ⟨rfl, hI⟩ KL2 e8
  refine .forget (fr' := [(5, some (.int .i64 (k : Int))), (1, some _), (3, some _)]) ⟨rfl, rfl, rfl, trivial⟩ ?_
  obtain ⟨hk2, c7⟩ := hI
  refine .seq (fun K24 b0 => .seq (fun K25 f2 => .region (.mv rfl (.mv rfl (.q rfl (.cmp rfl rfl rfl) (.nil (f2 _ _ ?_)))))))
  refine .cond rfl (fun e9 => ?_) (fun e9 => ?_)
  ·
   simp only [decide_eq_true_eq] at e9
   have i5 := i4.2 k (by omega)
   refine .skip ?_
   refine b0 _ _ (.seq (fun K26 e0 => ?_))
   refine .block ?_
   refine .seq (fun K27 b9 => .seq (fun K28 d9 => .region (.q rfl (.fieldAddr fo_29_4_B rfl) ?_)))
   refine .q rfl (.load on_23_B rfl (by assumption)) ?_
   refine .mv rfl ?_
   refine .q rfl (.idxN sl_23_B (Intss.sl (by assumption)) rfl rfl (by omega)) ?_
   refine .q rfl (.loadR on_22_B (by assumption) rfl (by omega)) ?_
   refine .q rfl (.len sl_22_A rfl) (.mv rfl (.q rfl (.cmp rfl rfl rfl) (.nil (d9 _ _ ?_))))
   refine .cond rfl (fun d3 => ?_) (fun d3 => ?_)
   ·
    try simp only [sps] at d3
    refine .seq (fun K29 e4 => .region (.mv rfl (.nil (e4 _ _ ?_))))
    refine .ret ?_
    refine a _ _ ?_
    refine ⟨_, rfl, ?_⟩
    exact ⟨congrArg _ (B_false fun hS => by have := hS.row k (by omega); omega), i⟩
   try simp only [sps] at d3
   refine .skip ?_
   refine b9 _ _ (.seq (fun K30 b3 => .region (.mv rfl (.nil (b3 _ _ ?_)))))
   refine .block ?_
   refine .loopR (σ := Nat) [(1, some _), (3, some _), (5, some _)] (fun j => [(6, some (.int .i64 (j : Int)))]) (fun j H' => H1 = H' ∧ j ≤ c.src.length ∧ ∀ g, g < j → c.Cell k g) (fun j => c.src.length - j) (0) ⟨rfl, rfl, rfl, trivial⟩ ⟨rfl, trivial⟩ ?_ ?_
   ·
    refine ⟨rfl, ?_⟩
    exact ⟨by omega, fun x hx => by omega⟩
   rintro j _ ⟨rfl, hI⟩ KL3 a1
   refine .forget (fr' := [(6, some (.int .i64 (j : Int))), (1, some _), (3, some _), (5, some _)]) ⟨rfl, rfl, rfl, rfl, trivial⟩ ?_
   obtain ⟨hk3, e6⟩ := hI
   refine .seq (fun K31 b5 => .seq (fun K32 d7 => .region (.mv rfl (.mv rfl (.q rfl (.cmp rfl rfl rfl) (.nil (d7 _ _ ?_)))))))
   refine .cond rfl (fun s => ?_) (fun s => ?_)
   ·
    try simp only [sps] at s
    refine .skip ?_
    refine b5 _ _ (.seq (fun K33 a3 => ?_))
    refine .block ?_
    refine .seq (fun K34 b8 => .region (.q rfl (.fieldAddr fo_29_4_B rfl) ?_))
    refine .q rfl (.load on_23_B rfl (by assumption)) ?_
    refine .mv rfl ?_
    refine .q rfl (.idxN sl_23_B (Intss.sl (by assumption)) rfl rfl (by omega)) ?_
    refine .q rfl (.loadR on_22_B (by assumption) rfl (by omega)) ?_
    refine .mv rfl ?_
    refine .q rfl (.idxN sl_22_A (by assumption) rfl rfl (by omega)) ?_
    refine .q rfl (.loadI on_2_A (by assumption) rfl (by omega)) ?_
    refine .mv rfl (.nil (b8 _ _ (.seq (fun K35 e2 => .seq (fun K36 b6 => ?_)))))
    refine .regionD mo_B (.q 0 (.q 1 (.q 2 (.q 3 (.q 4 (.q 5 (.q 6 (.q 7 (.q 8 (.q 9 (.q 10 (.done)))))))))))) (by kernel_rfl) ?_
    refine .q rfl (.fieldAddr fo_29_2_B rfl) ?_
    refine .q rfl (.load on_22_B rfl (by assumption)) ?_
    refine .mv rfl rfl ?_
    refine .q rfl (.idxN sl_22_A (by assumption) rfl rfl (by omega)) ?_
    refine .q rfl (.loadI on_2_A (by assumption) rfl (by omega)) ?_
    refine .q rfl (.fieldAddr fo_29_1_B rfl) ?_
    refine .q rfl (.load on_22_B rfl (by assumption)) ?_
    refine .mv rfl rfl ?_
    refine .q rfl (.idxN sl_22_A (by assumption) rfl rfl (by omega)) ?_
    refine .q rfl (.loadI on_2_A (by assumption) rfl (by omega)) ?_
    refine .q rfl (.cmp rfl rfl rfl) ?_
    refine .done ?_
    refine b6 _ _ ?_
    refine .cond rfl (fun b => ?_) (fun b => ?_)
    ·
     try simp only [sps] at b
     refine .seq (fun K37 b7 => .seq (fun K38 d0 => .region (.mv rfl (.q rfl (.cmp rfl rfl rfl) (.nil (d0 _ _ ?_))))))
     refine .cond rfl (fun l => ?_) (fun l => ?_)
     ·
      try simp only [sps] at l
      refine .seq (fun K39 b2 => .region (.mv rfl (.nil (b2 _ _ ?_))))
      refine .ret ?_
      refine a _ _ ?_
      refine ⟨_, rfl, ?_⟩
      exact ⟨congrArg _ (B_false fun hS => l ((Cat.Cell.neg b).1 (hS.cell k (by omega) j (by omega)))), i⟩
     try simp only [sps] at l
     refine .skip ?_
     refine b7 _ _ ?_
     refine .exit ?_
     refine a3 _ _ (.region (.mv rfl ?_))
     refine .q rfl (.add rfl rfl rfl (by omega) (by omega)) ?_
     refine .mv rfl (.nil ?_)
     refine a1 (j + 1) _ _ ?_ ?_ ⟨rfl, rfl, rfl, rfl, trivial⟩
     ·
      refine ⟨rfl, ?_⟩
      refine ⟨by omega, fun x hx => ?_⟩
      by_cases e : x < j
      · exact e6 x e
      · obtain rfl : x = j := by omega
        exact (Cat.Cell.neg b).2 l
     omega
    try simp only [sps] at b
    refine .skip ?_
    refine e2 _ _ (.seq (fun K40 o => ?_))
    refine .regionD mo_B (.q 0 (.q 1 (.q 2 (.q 3 (.q 4 (.q 5 (.q 6 (.q 7 (.q 8 (.q 9 (.q 10 (.q 11 (.q 12 (.q 13 (.q 14 (.q 15 (.q 16 (.q 17 (.q 18 (.q 19 (.q 20 (.q 21 (.q 22 (.q 23 (.q 24 (.q 25 (.q 26 (.q 27 (.q 28 (.q 29 (.q 30 (.q 31 (.q 32 (.done)))))))))))))))))))))))))))))))))) (by kernel_rfl) ?_
    refine .mv rfl rfl (.q rfl (.cmp rfl rfl rfl) (.mv rfl rfl ?_))
    refine .split (fun t => ?_) (fun t => ?_)
    ·
     try simp only [sps] at t
     refine .z rfl (.z rfl (.z rfl (.q rfl (.pickT rfl rfl) (.mv rfl rfl (.z rfl (.z rfl (.z rfl (.z rfl (.z rfl (.z rfl (.z rfl (.z rfl (.z rfl (.z rfl (.z rfl ?_)))))))))))))))
     refine .q rfl (.pickT rfl rfl) (.mv rfl rfl (.z rfl (.z rfl (.z rfl (.z rfl (.z rfl (.z rfl (.z rfl (.z rfl (.z rfl (.z rfl (.z rfl (.q rfl (.pickT rfl rfl) ?_)))))))))))))
     refine .done ?_
     refine o _ _ ?_
     refine .condT rfl ?_
     refine .seq (fun K41 a8 => .region (.mv rfl (.nil (a8 _ _ ?_))))
     refine .ret ?_
     refine a _ _ ?_
     refine ⟨_, rfl, ?_⟩
     exact ⟨congrArg _ (B_false fun hS => by have := (Cat.Cell.pos b).1 (hS.cell k (by omega) j (by omega)); omega), i⟩
    try simp only [sps] at t
    refine .qg rfl (.move rfl) (.qg rfl (.move rfl) (.qg rfl (.cmp rfl rfl rfl) (.q rfl (.pickF rfl rfl) (.mv rfl rfl ?_))))
    refine .split (fun u => ?_) (fun u => ?_)
    ·
     try simp only [sps] at u
     refine .z rfl (.z rfl (.z rfl (.z rfl (.z rfl (.z rfl (.z rfl (.z rfl (.z rfl (.z rfl (.z rfl (.q rfl (.pickT rfl rfl) (.mv rfl rfl (.z rfl (.z rfl (.z rfl ?_)))))))))))))))
     refine .z rfl (.z rfl (.z rfl (.z rfl (.z rfl (.z rfl (.z rfl (.z rfl (.q rfl (.pickT rfl rfl) ?_))))))))
     refine .done ?_
     refine o _ _ ?_
     refine .condT rfl ?_
     refine .seq (fun K42 b4 => .region (.mv rfl (.nil (b4 _ _ ?_))))
     refine .ret ?_
     refine a _ _ ?_
     refine ⟨_, rfl, ?_⟩
     exact ⟨congrArg _ (B_false fun hS => by have := (Cat.Cell.pos b).1 (hS.cell k (by omega) j (by omega)); omega), i⟩
    try simp only [sps] at u
    refine .qg rfl (.fieldAddr fo_29_1_B rfl) ?_
    refine .qg rfl (.load on_22_B rfl (by assumption)) ?_
    refine .qg rfl (.move rfl) ?_
    refine .qg rfl (.idx1 sl_22_A (by assumption) rfl rfl (by omega) (by omega)) ?_
    refine .qg rfl (.loadI on_2_A (by assumption) rfl (by omega)) ?_
    refine .qg rfl (.fieldAddr fo_29_1_B rfl) ?_
    refine .qg rfl (.load on_22_B rfl (by assumption)) ?_
    refine .qg rfl (.move rfl) ?_
    refine .qg rfl (.idxN sl_22_A (by assumption) rfl rfl (by omega)) ?_
    refine .qg rfl (.loadI on_2_A (by assumption) rfl (by omega)) ?_
    refine .qg rfl (.cmp rfl rfl rfl) (.q rfl (.pickF rfl rfl) (.mv rfl rfl ?_))
    refine .split (fun m => ?_) (fun m => ?_)
    ·
     try simp only [sps] at m
     refine .z rfl (.z rfl (.z rfl (.z rfl (.z rfl (.z rfl (.z rfl (.z rfl (.z rfl (.z rfl (.z rfl (.q rfl (.pickT rfl rfl) ?_)))))))))))
     refine .done ?_
     refine o _ _ ?_
     refine .condT rfl ?_
     refine .seq (fun K43 d6 => .region (.mv rfl (.nil (d6 _ _ ?_))))
     refine .ret ?_
     refine a _ _ ?_
     refine ⟨_, rfl, ?_⟩
     exact ⟨congrArg _ (B_false fun hS => m ((Cat.Cell.pos b).1 (hS.cell k (by omega) j (by omega))).2.2.1), i⟩
    try simp only [sps] at m
    refine .qg rfl (.fieldAddr fo_29_2_B rfl) ?_
    refine .qg rfl (.load on_22_B rfl (by assumption)) ?_
    refine .qg rfl (.move rfl) ?_
    refine .qg rfl (.idx1 sl_22_A (by assumption) rfl rfl (by omega) (by omega)) ?_
    refine .qg rfl (.loadI on_2_A (by assumption) rfl (by omega)) ?_
    refine .qg rfl (.fieldAddr fo_29_2_B rfl) ?_
    refine .qg rfl (.load on_22_B rfl (by assumption)) ?_
    refine .qg rfl (.move rfl) ?_
    refine .qg rfl (.idxN sl_22_A (by assumption) rfl rfl (by omega)) ?_
    refine .qg rfl (.loadI on_2_A (by assumption) rfl (by omega)) ?_
    refine .qg rfl (.cmp rfl rfl rfl) (.q rfl (.pickF rfl rfl) ?_)
    refine .done ?_
    refine o _ _ ?_
    refine .cond rfl (fun n => ?_) (fun n => ?_)
    ·
     try simp only [sps] at n
     refine .seq (fun K44 a7 => .region (.mv rfl (.nil (a7 _ _ ?_))))
     refine .ret ?_
     refine a _ _ ?_
     refine ⟨_, rfl, ?_⟩
     exact ⟨congrArg _ (B_false fun hS => n ((Cat.Cell.pos b).1 (hS.cell k (by omega) j (by omega))).2.2.2), i⟩
    try simp only [sps] at n
    refine .skip ?_
    refine a3 _ _ (.region (.mv rfl ?_))
    refine .q rfl (.add rfl rfl rfl (by omega) (by omega)) ?_
    refine .mv rfl (.nil ?_)
    refine a1 (j + 1) _ _ ?_ ?_ ⟨rfl, rfl, rfl, rfl, trivial⟩
    ·
     refine ⟨rfl, ?_⟩
     refine ⟨by omega, fun x hx => ?_⟩
     by_cases e : x < j
     · exact e6 x e
     · obtain rfl : x = j := by omega
       exact (Cat.Cell.pos b).2 ⟨by omega, by omega, by assumption, by assumption⟩
    omega
   try simp only [sps] at s
   refine .exit ?_
   refine e0 _ _ (.region (.mv rfl ?_))
   refine .q rfl (.add rfl rfl rfl (by omega) (by omega)) ?_
   refine .mv rfl (.nil ?_)
   refine e8 (k + 1) _ _ ?_ ?_ ⟨rfl, rfl, rfl, trivial⟩
   ·
    refine ⟨rfl, ?_⟩
    refine ⟨by omega, fun x hx => ?_⟩
    by_cases e : x < k
    · exact c7 x e
    · obtain rfl : x = k := by omega
      exact ⟨by omega, fun g hg => e6 g (by omega)⟩
   omega
  try simp only [sps] at e9
  refine .exit ?_
  refine c6 _ _ (.seq (fun K45 f1 => .region (.mv rfl (.nil (f1 _ _ ?_)))))
  refine .ret ?_
  refine a _ _ ?_
  refine ⟨_, rfl, ?_⟩
  exact ⟨congrArg _ (B_true ⟨a6, by omega, v.1, y.2, v.2, by omega, r, by omega, fun x hx => f4 x (by omega), fun f hf => (c7 f (by omega)).1, fun f hf => (c7 f (by omega)).2⟩), i⟩
def FaultN (c : Cat) (H : GHeap) : Value → GHeap → Prop := fun v H' => H.Le H' ∧ ∃ kd b1 b2 b3 : Int, v = .tuple #[.int .i64 kd, .int .i64 b1, .int .i64 b2, .int .i64 b3] ∧ (kd = 0 ↔ c.Laws)
theorem l02Fault_c {c : Cat} {p : CatP} {H : GHeap} (hin : c.In H p := by assumption) (hS : c.Shape := by assumption) : GCalls Tryd.prog 47 [.agg (c.cells p).toArray] H (FaultR c H) := by
  refine (GCalls.quiet (φ := fun v => ∃ kd b1 b2 b3 : Int, v = .tuple #[.int .i64 kd, .int .i64 b1, .int .i64 b2, .int .i64 b3] ∧ (kd = 0 ↔ c.Laws)) (GCalls.mono (Q := FaultN c H) ?_ fun v H' ⟨h1, kd, b1, b2, b3, h2, h3⟩ => ⟨⟨kd, b1, b2, b3, h2, h3⟩, by rw [h2]; rfl, h1⟩)).mono fun v H' ⟨h1, h2⟩ => ⟨h2.symm, h1⟩
  refine GCalls.body (N := 131) (rs := [.tmp 2, .tmp 3, .tmp 4, .tmp 5]) Tryd.func47 rfl rfl rfl rfl (fun Qx b hend => ?_)
  refine .fg [0] rfl ?_
  refine .seq (fun K1 d9 => .region (.d rfl rfl rfl (.box rfl sz_29_D rfl CIs.mk) ?_))
  show GRun _ _ _ _ _ _ (H.push (.row (c.cells p) 29 true))
  have w := GHeap.le_push H (.row (c.cells p) 29 true)
  have hb : Cat.At (H.push (.row (c.cells p) 29 true)) H.next 0 c p := ⟨Mem.new _ _ _ _, hin.mono w⟩
  generalize H.push (.row (c.cells p) 29 true) = H1 at *
  generalize H.next = g at *
  obtain ⟨-, c1, c2, c3, c4, i1, i2, i3, i4⟩ := hb.get
  have e1 := hS.tl
  have e2 := hS.n40
  have e3 := hS.il
  have e5 := hS.cl
  refine .mv rfl (.mv rfl (.mv rfl (.mv rfl (.nil (d9 _ _ (.seq (fun K2 d4 => .region (.q rfl (.fieldAddr fo_29_1_B rfl) ?_))))))))
  refine .q rfl (.load on_22_B rfl (by assumption)) ?_
  refine .q rfl (.len sl_22_A rfl) (.mv rfl (.nil (d4 _ _ (.seq (fun K3 d8 => .seq (fun K4 d6 => .region (.mv rfl (.nil (d6 _ _ ?_)))))))))
  refine .block ?_
  refine .loopR (σ := Nat) [(1, some _), (6, some _)] (fun k => [(7, some (.int .i64 (k : Int)))]) (fun k H' => H1 = H' ∧ k ≤ c.src.length ∧ ∀ x, x < k → c.IdOk x) (fun k => c.src.length - k) (0) ⟨rfl, rfl, trivial⟩ ⟨rfl, trivial⟩ ?_ ?_
  ·
   refine ⟨rfl, ?_⟩
   exact ⟨by omega, fun x hx => by omega⟩
  rintro k _ ⟨rfl, hI⟩ KL1 a9
  refine .forget (fr' := [(7, some (.int .i64 (k : Int))), (1, some _), (6, some _)]) ⟨rfl, rfl, rfl, trivial⟩ ?_
  obtain ⟨hk1, d1⟩ := hI
  refine .seq (fun K5 e4 => .seq (fun K6 d5 => .region (.mv rfl (.mv rfl (.q rfl (.cmp rfl rfl rfl) (.nil (d5 _ _ ?_)))))))
  refine .cond rfl (fun c8 => ?_) (fun c8 => ?_)
  ·
   simp only [decide_eq_true_eq] at c8
   have q1 := hS.src k (by omega)
   have q2 := hS.tgt k (by omega)
   have q3 := hS.idn_lt q1.1 q1.2
   have q4 := hS.idn_lt q2.1 q2.2
   have r1 := i4.2 (c.idn.getD (c.src.getD k 0).toNat 0).toNat (by omega)
   have r1l := hS.row (c.idn.getD (c.src.getD k 0).toNat 0).toNat (by omega)
   have r2 := i4.2 k (by omega)
   have r2l := hS.row k (by omega)
   refine .skip ?_
   refine e4 _ _ (.seq (fun K7 d7 => ?_))
   refine .block ?_
   refine .seq (fun K8 d3 => ?_)
   refine .regionD mo_B (.q 0 (.q 1 (.q 2 (.q 3 (.q 4 (.q 5 (.q 6 (.q 7 (.q 8 (.q 9 (.q 10 (.q 11 (.q 12 (.q 13 (.q 14 (.q 15 (.q 16 (.q 17 (.q 18 (.q 19 (.q 20 (.q 21 (.q 22 (.q 23 (.q 24 (.q 25 (.q 26 (.q 27 (.q 28 (.q 29 (.q 30 (.q 31 (.q 32 (.q 33 (.q 34 (.q 35 (.q 36 (.q 37 (.done))))))))))))))))))))))))))))))))))))))) (by kernel_rfl) ?_
   refine .q rfl (.fieldAddr fo_29_4_B rfl) ?_
   refine .q rfl (.load on_23_B rfl (by assumption)) ?_
   refine .q rfl (.fieldAddr fo_29_3_B rfl) ?_
   refine .q rfl (.load on_22_B rfl (by assumption)) ?_
   refine .q rfl (.fieldAddr fo_29_1_B rfl) ?_
   refine .q rfl (.load on_22_B rfl (by assumption)) ?_
   refine .mv rfl rfl ?_
   refine .q rfl (.idxN sl_22_A (by assumption) rfl rfl (by omega)) ?_
   refine .q rfl (.loadI on_2_A (by assumption) rfl (by omega)) ?_
   refine .q rfl (.idx1 sl_22_A (by assumption) rfl rfl (by omega) (by omega)) ?_
   refine .q rfl (.loadI on_2_A (by assumption) rfl (by omega)) ?_
   refine .q rfl (.idx1 sl_23_B (Intss.sl (by assumption)) rfl rfl (by omega) (by omega)) ?_
   refine .q rfl (.loadR on_22_B (by assumption) rfl (by omega)) ?_
   refine .mv rfl rfl ?_
   refine .q rfl (.idxN sl_22_A (by assumption) rfl rfl (by omega)) ?_
   refine .q rfl (.loadI on_2_A (by assumption) rfl (by omega)) ?_
   refine .mv rfl rfl (.q rfl (.cmp rfl rfl rfl) (.mv rfl rfl ?_))
   refine .split (fun s => ?_) (fun s => ?_)
   ·
    try simp only [sps] at s
    refine .z rfl (.z rfl (.z rfl (.z rfl (.z rfl (.z rfl (.z rfl (.z rfl (.z rfl (.z rfl (.z rfl (.z rfl (.z rfl (.z rfl (.z rfl (.z rfl ?_)))))))))))))))
    refine .z rfl (.z rfl (.q rfl (.pickT rfl rfl) ?_))
    refine .done ?_
    refine d3 _ _ ?_
    refine .condT rfl ?_
    refine .seq (fun K9 e0 => .region (.mv rfl (.mv rfl (.mv rfl (.mv rfl (.mv rfl (.nil (e0 _ _ ?_))))))))
    refine .ret ?_
    refine b _ _ ?_
    refine ⟨_, _, _, _, rfl, rfl, rfl, rfl, ?_⟩
    exact ⟨w, _, _, _, _, rfl, fun e => by omega, fun hL => absurd (hL.ids k (by omega)).1 s⟩
   try simp only [sps] at s
   refine .qg rfl (.fieldAddr fo_29_4_B rfl) ?_
   refine .qg rfl (.load on_23_B rfl (by assumption)) ?_
   refine .qg rfl (.move rfl) ?_
   refine .qg rfl (.idxN sl_23_B (Intss.sl (by assumption)) rfl rfl (by omega)) ?_
   refine .qg rfl (.loadR on_22_B (by assumption) rfl (by omega)) ?_
   refine .qg rfl (.fieldAddr fo_29_3_B rfl) ?_
   refine .qg rfl (.load on_22_B rfl (by assumption)) ?_
   refine .qg rfl (.fieldAddr fo_29_2_B rfl) ?_
   refine .qg rfl (.load on_22_B rfl (by assumption)) ?_
   refine .qg rfl (.move rfl) ?_
   refine .qg rfl (.idxN sl_22_A (by assumption) rfl rfl (by omega)) ?_
   refine .qg rfl (.loadI on_2_A (by assumption) rfl (by omega)) ?_
   refine .qg rfl (.idx1 sl_22_A (by assumption) rfl rfl (by omega) (by omega)) ?_
   refine .qg rfl (.loadI on_2_A (by assumption) rfl (by omega)) ?_
   refine .qg rfl (.idx1 sl_22_A (by assumption) rfl rfl (by omega) (by omega)) ?_
   refine .qg rfl (.loadI on_2_A (by assumption) rfl (by omega)) ?_
   refine .qg rfl (.move rfl) (.qg rfl (.cmp rfl rfl rfl) (.q rfl (.pickF rfl rfl) ?_))
   refine .done ?_
   refine d3 _ _ ?_
   refine .cond rfl (fun n => ?_) (fun n => ?_)
   ·
    try simp only [sps] at n
    refine .seq (fun K10 c7 => .region (.mv rfl (.mv rfl (.mv rfl (.mv rfl (.mv rfl (.nil (c7 _ _ ?_))))))))
    refine .ret ?_
    refine b _ _ ?_
    refine ⟨_, _, _, _, rfl, rfl, rfl, rfl, ?_⟩
    exact ⟨w, _, _, _, _, rfl, fun e => by omega, fun hL => absurd (hL.ids k (by omega)).2 n⟩
   try simp only [sps] at n
   refine .skip ?_
   refine d7 _ _ (.region (.mv rfl ?_))
   refine .q rfl (.add rfl rfl rfl (by omega) (by omega)) ?_
   refine .mv rfl (.nil ?_)
   refine a9 (k + 1) _ _ ?_ ?_ ⟨rfl, rfl, rfl, trivial⟩
   ·
    refine ⟨rfl, ?_⟩
    refine ⟨by omega, fun x hx => ?_⟩
    by_cases e : x < k
    · exact d1 x e
    · obtain rfl : x = k := by omega
      exact ⟨s, n⟩
   omega
  try simp only [sps] at c8
  refine .exit ?_
  refine d8 _ _ (.seq (fun K11 b8 => .seq (fun K12 a4 => .region (.mv rfl (.nil (a4 _ _ ?_))))))
  refine .block ?_
  refine .loopR (σ := Nat) [(1, some _), (6, some _)] (fun k => [(8, some (.int .i64 (k : Int)))]) (fun k H' => H1 = H' ∧ k ≤ c.src.length ∧ ∀ f, f < k → ∀ g, g < c.src.length → c.tgt.getD f 0 = c.src.getD g 0 → ∀ h, h < c.src.length → c.tgt.getD g 0 = c.src.getD h 0 → c.th (c.th f g) h = c.th f (c.th g h)) (fun k => c.src.length - k) (0) ⟨rfl, rfl, trivial⟩ ⟨rfl, trivial⟩ ?_ ?_
  ·
   refine ⟨rfl, ?_⟩
   exact ⟨by omega, fun x hx => by omega⟩
  rintro k _ ⟨rfl, hI⟩ KL2 c9
  refine .forget (fr' := [(8, some (.int .i64 (k : Int))), (1, some _), (6, some _)]) ⟨rfl, rfl, rfl, trivial⟩ ?_
  obtain ⟨hk2, d2⟩ := hI
  refine .seq (fun K13 b7 => .seq (fun K14 a0 => .region (.mv rfl (.mv rfl (.q rfl (.cmp rfl rfl rfl) (.nil (a0 _ _ ?_)))))))
  refine .cond rfl (fun b0 => ?_) (fun b0 => ?_)
  ·
   try simp only [sps] at b0
   refine .skip ?_
   refine b7 _ _ (.seq (fun K15 a6 => ?_))
   refine .block ?_
   refine .seq (fun K16 b9 => .region (.mv rfl (.nil (b9 _ _ ?_))))
   refine .block ?_
   refine .loopR (σ := Nat) [(1, some _), (6, some _), (8, some _)] (fun j => [(9, some (.int .i64 (j : Int)))]) (fun j H' => H1 = H' ∧ j ≤ c.src.length ∧ ∀ g, g < j → c.tgt.getD k 0 = c.src.getD g 0 → ∀ h, h < c.src.length → c.tgt.getD g 0 = c.src.getD h 0 → c.th (c.th k g) h = c.th k (c.th g h)) (fun j => c.src.length - j) (0) ⟨rfl, rfl, rfl, trivial⟩ ⟨rfl, trivial⟩ ?_ ?_
   ·
    refine ⟨rfl, ?_⟩
    exact ⟨by omega, fun x hx => by omega⟩
   rintro j _ ⟨rfl, hI⟩ KL3 o
   refine .forget (fr' := [(9, some (.int .i64 (j : Int))), (1, some _), (6, some _), (8, some _)]) ⟨rfl, rfl, rfl, rfl, trivial⟩ ?_
   obtain ⟨hk3, c6⟩ := hI
   refine .seq (fun K17 b4 => .seq (fun K18 d0 => .region (.mv rfl (.mv rfl (.q rfl (.cmp rfl rfl rfl) (.nil (d0 _ _ ?_)))))))
   refine .cond rfl (fun c0 => ?_) (fun c0 => ?_)
   ·
    try simp only [sps] at c0
    refine .skip ?_
    refine b4 _ _ (.seq (fun K19 u => ?_))
    refine .block ?_
    refine .seq (fun K20 a2 => .seq (fun K21 a7 => ?_))
    refine .regionD mo_B (.q 0 (.q 1 (.q 2 (.q 3 (.q 4 (.q 5 (.q 6 (.q 7 (.q 8 (.q 9 (.q 10 (.done)))))))))))) (by kernel_rfl) ?_
    refine .q rfl (.fieldAddr fo_29_2_B rfl) ?_
    refine .q rfl (.load on_22_B rfl (by assumption)) ?_
    refine .mv rfl rfl ?_
    refine .q rfl (.idxN sl_22_A (by assumption) rfl rfl (by omega)) ?_
    refine .q rfl (.loadI on_2_A (by assumption) rfl (by omega)) ?_
    refine .q rfl (.fieldAddr fo_29_1_B rfl) ?_
    refine .q rfl (.load on_22_B rfl (by assumption)) ?_
    refine .mv rfl rfl ?_
    refine .q rfl (.idxN sl_22_A (by assumption) rfl rfl (by omega)) ?_
    refine .q rfl (.loadI on_2_A (by assumption) rfl (by omega)) ?_
    refine .q rfl (.cmp rfl rfl rfl) ?_
    refine .done ?_
    refine a7 _ _ ?_
    refine .cond rfl (fun m => ?_) (fun m => ?_)
    ·
     try simp only [sps] at m
     refine .exit ?_
     refine u _ _ (.region (.mv rfl ?_))
     refine .q rfl (.add rfl rfl rfl (by omega) (by omega)) ?_
     refine .mv rfl (.nil ?_)
     refine o (j + 1) _ _ ?_ ?_ ⟨rfl, rfl, rfl, rfl, trivial⟩
     ·
      refine ⟨rfl, ?_⟩
      refine ⟨by omega, fun x hx => ?_⟩
      by_cases e : x < j
      · exact c6 x e
      · obtain rfl : x = j := by omega
        exact fun e => absurd e m
     omega
    simp only [bne_eq_false_iff_eq] at m
    have q5 := (Cat.Cell.pos m).1 (hS.cell k (by omega) j (by omega))
    have r3 := i4.2 k (by omega)
    have r3l := hS.row k (by omega)
    have r4 := i4.2 j (by omega)
    have r4l := hS.row j (by omega)
    have r5 := i4.2 ((c.comp.getD k []).getD j 0).toNat (by omega)
    have r5l := hS.row ((c.comp.getD k []).getD j 0).toNat (by omega)
    refine .skip ?_
    refine a2 _ _ (.seq (fun K22 a5 => .region (.mv rfl (.nil (a5 _ _ ?_)))))
    refine .block ?_
    refine .loopR (σ := Nat) [(1, some _), (6, some _), (8, some _), (9, some _)] (fun i => [(10, some (.int .i64 (i : Int)))]) (fun i H' => H1 = H' ∧ i ≤ c.src.length ∧ ∀ h, h < i → c.tgt.getD j 0 = c.src.getD h 0 → c.th (c.th k j) h = c.th k (c.th j h)) (fun i => c.src.length - i) (0) ⟨rfl, rfl, rfl, rfl, trivial⟩ ⟨rfl, trivial⟩ ?_ ?_
    ·
     refine ⟨rfl, ?_⟩
     exact ⟨by omega, fun x hx => by omega⟩
    rintro i _ ⟨rfl, hI⟩ KL4 r
    refine .forget (fr' := [(10, some (.int .i64 (i : Int))), (1, some _), (6, some _), (8, some _), (9, some _)]) ⟨rfl, rfl, rfl, rfl, rfl, trivial⟩ ?_
    obtain ⟨hk4, c5⟩ := hI
    refine .seq (fun K23 a8 => .seq (fun K24 a1 => .region (.mv rfl (.mv rfl (.q rfl (.cmp rfl rfl rfl) (.nil (a1 _ _ ?_)))))))
    refine .cond rfl (fun b6 => ?_) (fun b6 => ?_)
    ·
     try simp only [sps] at b6
     refine .skip ?_
     refine a8 _ _ (.seq (fun K25 y => ?_))
     refine .block ?_
     refine .seq (fun K26 t => ?_)
     refine .regionD mo_B (.q 0 (.q 1 (.q 2 (.q 3 (.q 4 (.q 5 (.q 6 (.q 7 (.q 8 (.q 9 (.q 10 (.q 11 (.q 12 (.q 13 (.q 14 (.q 15 (.q 16 (.q 17 (.q 18 (.q 19 (.q 20 (.q 21 (.q 22 (.q 23 (.q 24 (.q 25 (.q 26 (.q 27 (.q 28 (.q 29 (.q 30 (.q 31 (.q 32 (.q 33 (.q 34 (.q 35 (.q 36 (.q 37 (.q 38 (.q 39 (.q 40 (.q 41 (.q 42 (.q 43 (.done))))))))))))))))))))))))))))))))))))))))))))) (by kernel_rfl) ?_
     refine .q rfl (.fieldAddr fo_29_2_B rfl) ?_
     refine .q rfl (.load on_22_B rfl (by assumption)) ?_
     refine .mv rfl rfl ?_
     refine .q rfl (.idxN sl_22_A (by assumption) rfl rfl (by omega)) ?_
     refine .q rfl (.loadI on_2_A (by assumption) rfl (by omega)) ?_
     refine .q rfl (.fieldAddr fo_29_1_B rfl) ?_
     refine .q rfl (.load on_22_B rfl (by assumption)) ?_
     refine .mv rfl rfl ?_
     refine .q rfl (.idxN sl_22_A (by assumption) rfl rfl (by omega)) ?_
     refine .q rfl (.loadI on_2_A (by assumption) rfl (by omega)) ?_
     refine .q rfl (.cmp rfl rfl rfl) (.mv rfl rfl ?_)
     refine .split (fun l => ?_) (fun l => ?_)
     ·
      simp only [beq_iff_eq] at l
      have q6 := (Cat.Cell.pos l).1 (hS.cell j (by omega) i (by omega))
      refine .qg rfl (.fieldAddr fo_29_4_B rfl) ?_
      refine .qg rfl (.load on_23_B rfl (by assumption)) ?_
      refine .qg rfl (.fieldAddr fo_29_4_B rfl) ?_
      refine .qg rfl (.load on_23_B rfl (by assumption)) ?_
      refine .qg rfl (.move rfl) ?_
      refine .qg rfl (.idxN sl_23_B (Intss.sl (by assumption)) rfl rfl (by omega)) ?_
      refine .qg rfl (.loadR on_22_B (by assumption) rfl (by omega)) ?_
      refine .qg rfl (.move rfl) ?_
      refine .qg rfl (.idxN sl_22_A (by assumption) rfl rfl (by omega)) ?_
      refine .qg rfl (.loadI on_2_A (by assumption) rfl (by omega)) ?_
      refine .qg rfl (.idx1 sl_23_B (Intss.sl (by assumption)) rfl rfl (by omega) (by omega)) ?_
      refine .qg rfl (.loadR on_22_B (by assumption) rfl (by omega)) ?_
      refine .qg rfl (.move rfl) ?_
      refine .qg rfl (.idxN sl_22_A (by assumption) rfl rfl (by omega)) ?_
      refine .qg rfl (.loadI on_2_A (by assumption) rfl (by omega)) ?_
      refine .qg rfl (.fieldAddr fo_29_4_B rfl) ?_
      refine .qg rfl (.load on_23_B rfl (by assumption)) ?_
      refine .qg rfl (.move rfl) ?_
      refine .qg rfl (.idxN sl_23_B (Intss.sl (by assumption)) rfl rfl (by omega)) ?_
      refine .qg rfl (.loadR on_22_B (by assumption) rfl (by omega)) ?_
      refine .qg rfl (.fieldAddr fo_29_4_B rfl) ?_
      refine .qg rfl (.load on_23_B rfl (by assumption)) ?_
      refine .qg rfl (.move rfl) ?_
      refine .qg rfl (.idxN sl_23_B (Intss.sl (by assumption)) rfl rfl (by omega)) ?_
      refine .qg rfl (.loadR on_22_B (by assumption) rfl (by omega)) ?_
      refine .qg rfl (.move rfl) ?_
      refine .qg rfl (.idxN sl_22_A (by assumption) rfl rfl (by omega)) ?_
      refine .qg rfl (.loadI on_2_A (by assumption) rfl (by omega)) ?_
      refine .qg rfl (.idx1 sl_22_A (by assumption) rfl rfl (by omega) (by omega)) ?_
      refine .qg rfl (.loadI on_2_A (by assumption) rfl (by omega)) ?_
      refine .qg rfl (.cmp rfl rfl rfl) (.q rfl (.pickT rfl rfl) ?_)
      refine .done ?_
      refine t _ _ ?_
      refine .cond rfl (fun a => ?_) (fun a => ?_)
      ·
       try simp only [sps] at a
       refine .seq (fun K27 a3 => .region (.mv rfl (.mv rfl (.mv rfl (.mv rfl (.mv rfl (.mv rfl (.mv rfl (.nil (a3 _ _ ?_))))))))))
       refine .ret ?_
       refine b _ _ ?_
       refine ⟨_, _, _, _, rfl, rfl, rfl, rfl, ?_⟩
       exact ⟨w, _, _, _, _, rfl, fun e => by omega, fun hL => absurd (hL.as k (by omega) j (by omega) m i (by omega) l) a⟩
      try simp only [sps] at a
      refine .skip ?_
      refine y _ _ (.region (.mv rfl ?_))
      refine .q rfl (.add rfl rfl rfl (by omega) (by omega)) ?_
      refine .mv rfl (.nil ?_)
      refine r (i + 1) _ _ ?_ ?_ ⟨rfl, rfl, rfl, rfl, rfl, trivial⟩
      ·
       refine ⟨rfl, ?_⟩
       refine ⟨by omega, fun x hx => ?_⟩
       by_cases e : x < i
       · exact c5 x e
       · obtain rfl : x = i := by omega
         exact fun _ => a
      omega
     try simp only [sps] at l
     refine .z rfl (.z rfl (.z rfl (.z rfl (.z rfl (.z rfl (.z rfl (.z rfl (.z rfl (.z rfl (.z rfl (.z rfl (.z rfl (.z rfl (.z rfl (.z rfl ?_)))))))))))))))
     refine .z rfl (.z rfl (.z rfl (.z rfl (.z rfl (.z rfl (.z rfl (.z rfl (.z rfl (.z rfl (.z rfl (.z rfl (.z rfl (.z rfl (.z rfl (.q rfl (.pickF rfl rfl) ?_)))))))))))))))
     refine .done ?_
     refine t _ _ ?_
     refine .condF rfl ?_
     refine .skip ?_
     refine y _ _ (.region (.mv rfl ?_))
     refine .q rfl (.add rfl rfl rfl (by omega) (by omega)) ?_
     refine .mv rfl (.nil ?_)
     refine r (i + 1) _ _ ?_ ?_ ⟨rfl, rfl, rfl, rfl, rfl, trivial⟩
     ·
      refine ⟨rfl, ?_⟩
      refine ⟨by omega, fun x hx => ?_⟩
      by_cases e : x < i
      · exact c5 x e
      · obtain rfl : x = i := by omega
        exact fun e => absurd e l
     omega
    try simp only [sps] at b6
    refine .exit ?_
    refine u _ _ (.region (.mv rfl ?_))
    refine .q rfl (.add rfl rfl rfl (by omega) (by omega)) ?_
    refine .mv rfl (.nil ?_)
    refine o (j + 1) _ _ ?_ ?_ ⟨rfl, rfl, rfl, rfl, trivial⟩
    ·
     refine ⟨rfl, ?_⟩
     refine ⟨by omega, fun x hx => ?_⟩
     by_cases e : x < j
     · exact c6 x e
     · obtain rfl : x = j := by omega
       exact fun _ h hh => c5 h (by omega)
    omega
   try simp only [sps] at c0
   refine .exit ?_
   refine a6 _ _ (.region (.mv rfl ?_))
   refine .q rfl (.add rfl rfl rfl (by omega) (by omega)) ?_
   refine .mv rfl (.nil ?_)
   refine c9 (k + 1) _ _ ?_ ?_ ⟨rfl, rfl, rfl, trivial⟩
   ·
    refine ⟨rfl, ?_⟩
    refine ⟨by omega, fun x hx => ?_⟩
    by_cases e : x < k
    · exact d2 x e
    · obtain rfl : x = k := by omega
      exact fun g hg => c6 g (by omega)
   omega
  try simp only [sps] at b0
  refine .exit ?_
  refine b8 _ _ (.seq (fun K28 b5 => .region (.mv rfl (.mv rfl (.mv rfl (.mv rfl (.nil (b5 _ _ ?_))))))))
  refine .ret ?_
  refine b _ _ ?_
  refine ⟨_, _, _, _, rfl, rfl, rfl, rfl, ?_⟩
  exact ⟨w, _, _, _, _, rfl, fun _ => ⟨fun f hf => d1 f (by omega), fun f hf => d2 f (by omega)⟩, fun _ => rfl⟩
theorem l02Is_c {c : Cat} {p : CatP} {H : GHeap} (hin : c.In H p := by assumption) (hs : c.Small := by assumption) : GCalls Tryd.prog 23 [.agg (c.cells p).toArray] H (Ret (.bool (B c.Is)) H) := by
  refine GCalls.ret rfl ?_
  refine GCalls.body (N := 19) (rs := [.tmp 2]) Tryd.func23 rfl rfl rfl rfl (fun Qx a hend => ?_)
  refine .fg [0] rfl ?_
  refine .seq (fun K1 k => .region (.d rfl rfl rfl (.box rfl sz_29_D rfl CIs.mk) ?_))
  show GRun _ _ _ _ _ _ (H.push (.row (c.cells p) 29 true))
  have b := GHeap.le_push H (.row (c.cells p) 29 true)
  have hb : Cat.At (H.push (.row (c.cells p) 29 true)) H.next 0 c p := ⟨Mem.new _ _ _ _, hin.mono b⟩
  generalize H.push (.row (c.cells p) 29 true) = H1 at *
  generalize H.next = g at *
  have hm : MemN _ _ _ _ _ := ⟨rfl, hb.1⟩
  have hin1 := hb.2
  refine .mv rfl (.nil (k _ _ (.seq (fun K2 e => .seq (fun K3 i => .region ?_)))))
  refine .q rfl (.loadM ag_29_D rfl (by assumption)) ?_
  refine .callQ rfl rfl rfl rfl @Tryd.call46 rfl (specShape_c) ?_
  refine .q rfl (.not rfl) (.nil (i _ _ ?_))
  refine .cond rfl (fun h9 => ?_) (fun h9 => ?_)
  ·
   try simp only [sps] at h9
   refine .seq (fun K4 j => .region (.mv rfl (.nil (j _ _ ?_))))
   refine .ret ?_
   refine a _ _ ?_
   refine ⟨_, rfl, ?_⟩
   exact ⟨congrArg _ (B_false fun hI => h9 hI.1), b⟩
  try simp only [sps] at h9
  refine .skip ?_
  refine e _ _ (.seq (fun K5 l => .region ?_))
  refine .q rfl (.loadM ag_29_D rfl (by assumption)) ?_
  refine .call rfl rfl rfl rfl @Tryd.call47 rfl (l02Fault_c) ?_
  rintro _ _ ⟨rfl, kd, b1, b2, b3, rfl, hkd⟩
  refine .mv rfl (.q rfl (.extract rfl rfl) (.q rfl (.extract rfl rfl) (.q rfl (.extract rfl rfl) (.q rfl (.extract rfl rfl) (.mv rfl (.mv rfl (.mv rfl (.mv rfl (.nil (l _ _ (.seq (fun K6 f => .region (.mv rfl (.q rfl (.cmp rfl rfl rfl) (.mv rfl ?_)))))))))))))))
  refine .nil (f _ _ ?_)
  refine .ret ?_
  refine a _ _ ?_
  refine ⟨_, rfl, ?_⟩
  exact ⟨congrArg _ (by rw [Bool.eq_iff_iff, B_iff, beq_iff_eq, hkd]; exact ⟨fun h => h.2, fun h => ⟨h9, h⟩⟩), b⟩
end Go.Proofs.YtlfnclhkhmkklaaDoor
