/- The smallest functions of the program, of the reference and of the laws' file: what each hands back. No condition but those of each statement. -/
import Derived.Test.YtlfnclhkhmkklaaDoorZ5
import Derived.Test.YtlfnclhkhmkklaaDoorProg
namespace Go.Proofs.YtlfnclhkhmkklaaDoor
open Go Go.GL Go.RowKit Go.Proofs
theorem sl_22_A : sliceT Tryd.prog 22 = some (2, 1) := by kernel_rfl
theorem on_2_A : oneT Tryd.prog 2 = true := by kernel_rfl
theorem aggEq_118 (a0 a1 b0 b1 : Int) : ∀ w, (Op.equal 118 (.agg #[.int .i64 a0, .int .i64 a1]) (.agg #[.int .i64 b0, .int .i64 b1])).run Tryd.prog w = .ok (a0 == b0 && a1 == b1) w := by
  intro w
  unfold Op.equal Op.maxDepth
  simp [go_sem, run_equalIn_agg]
  (repeat' split) <;> simp_all
theorem inRange_c {n lo hi : Int} {H : GHeap} : GCalls Tryd.prog 73 [.int .i64 n, .int .i64 lo, .int .i64 hi] H (Ret (.bool (inR n lo hi)) H) := by
  refine GCalls.body (N := 15) (rs := [.tmp 6]) Tryd.func73 rfl rfl rfl rfl (fun Qx a hend => ?_)
  refine .fg [0, 1, 2] rfl ?_
  refine .seq (fun K1 d => .region (.mv rfl (.nil (d _ _ (.seq (fun K2 c => .region (.mv rfl (.mv rfl (.q rfl (.cmp rfl rfl rfl) (.mv rfl ?_))))))))))
  refine .split (fun b => ?_) (fun b => ?_)
  ·
   try simp only [sps] at b
   refine .qg rfl (.move rfl) (.qg rfl (.move rfl) (.qg rfl (.cmp rfl rfl rfl) (.q rfl (.pickT rfl rfl) (.mv rfl (.nil (c _ _ ?_))))))
   refine .ret ?_
   refine a _ _ ?_
   refine ⟨_, rfl, ?_⟩
   exact .of (by simp [inR]; omega)
  try simp only [sps] at b
  refine .z rfl (.z rfl (.z rfl (.q rfl (.pickF rfl rfl) (.mv rfl (.nil (c _ _ ?_))))))
  refine .ret ?_
  refine a _ _ ?_
  refine ⟨_, rfl, ?_⟩
  exact .of (by simp [inR]; omega)
theorem l01In_c {n lo hi : Int} {H : GHeap} : GCalls Tryd.prog 64 [.int .i64 n, .int .i64 lo, .int .i64 hi] H (Ret (.bool (inR n lo hi)) H) := by
  refine GCalls.body (N := 15) (rs := [.tmp 6]) Tryd.func64 rfl rfl rfl rfl (fun Qx a hend => ?_)
  refine .fg [0, 1, 2] rfl ?_
  refine .seq (fun K1 d => .region (.mv rfl (.nil (d _ _ (.seq (fun K2 c => .region (.mv rfl (.mv rfl (.q rfl (.cmp rfl rfl rfl) (.mv rfl ?_))))))))))
  refine .split (fun b => ?_) (fun b => ?_)
  ·
   try simp only [sps] at b
   refine .qg rfl (.move rfl) (.qg rfl (.move rfl) (.qg rfl (.cmp rfl rfl rfl) (.q rfl (.pickT rfl rfl) (.mv rfl (.nil (c _ _ ?_))))))
   refine .ret ?_
   refine a _ _ ?_
   refine ⟨_, rfl, ?_⟩
   exact .of (by simp [inR]; omega)
  try simp only [sps] at b
  refine .z rfl (.z rfl (.z rfl (.q rfl (.pickF rfl rfl) (.mv rfl (.nil (c _ _ ?_))))))
  refine .ret ?_
  refine a _ _ ?_
  refine ⟨_, rfl, ?_⟩
  exact .of (by simp [inR]; omega)
theorem within_c {a : Option Addr} {xs : List Int} {n : Int} {H : GHeap} (h : Ints H a xs := by assumption) (hn : -9223372036854775808 < n := by omega) (hn' : n ≤ 9223372036854775807 := by omega) (hl : xs.length ≤ 1048576 := by omega) :
    GCalls Tryd.prog 49 [.slice a xs.length xs.length, .int .i64 n] H (Ret (.bool (allIn xs n)) H) := by
  refine GCalls.body (N := 19) (rs := [.tmp 4]) Tryd.func49 rfl rfl rfl rfl (fun Qx d hend => ?_)
  refine .fg [0, 1] rfl ?_
  refine .seq (fun K1 r => .region (.mv rfl (.nil (r _ _ (.seq (fun K2 m => .seq (fun K3 u => .region (.mv rfl (.q rfl (.len sl_22_A rfl) (.mv rfl (.nil (u _ _ ?_))))))))))))
  refine .block ?_
  refine .loopR (σ := Nat) [(1, some _), (7, some _), (8, some _)] (fun k => [(9, some (.int .i64 (k : Int)))]) (fun k H' => H = H' ∧ k ≤ xs.length ∧ ∀ i, i < k → inR (xs.getD i 0) 0 (n - 1) = true) (fun k => xs.length - k) (0) ⟨rfl, rfl, rfl, trivial⟩ ⟨rfl, trivial⟩ ?_ ?_
  ·
   refine ⟨rfl, ?_⟩
   exact ⟨by omega, fun i hi => by omega⟩
  rintro k _ ⟨rfl, hI⟩ KL1 j
  refine .forget (fr' := [(9, some (.int .i64 (k : Int))), (1, some _), (7, some _), (8, some _)]) ⟨rfl, rfl, rfl, rfl, trivial⟩ ?_
  obtain ⟨hk, b⟩ := hI
  refine .seq (fun K4 s => .region (.q rfl (.cmp rfl rfl rfl) (.nil (s _ _ (.seq (fun K5 o => ?_))))))
  refine .cond rfl (fun g => ?_) (fun g => ?_)
  ·
   try simp only [sps] at g
   refine .skip ?_
   refine o _ _ (.seq (fun K6 t => ?_))
   refine .block ?_
   refine .seq (fun K7 v => .region ?_)
   refine .q rfl (.idxN sl_22_A (by assumption) rfl rfl (by omega)) ?_
   refine .q rfl (.loadI on_2_A (by assumption) rfl (by omega)) ?_
   refine .mv rfl (.nil (v _ _ (.seq (fun K8 l => .region (.mv rfl (.mv rfl ?_))))))
   refine .q rfl (.sub rfl rfl rfl (by omega) (by omega)) ?_
   refine .callQ rfl rfl rfl rfl @Tryd.call73 rfl (inRange_c) ?_
   refine .q rfl (.not rfl) (.nil (l _ _ ?_))
   refine .cond rfl (fun c => ?_) (fun c => ?_)
   ·
    try simp only [sps] at c
    refine .seq (fun K9 p => .region (.mv rfl (.nil (p _ _ ?_))))
    refine .ret ?_
    refine d _ _ ?_
    refine ⟨_, rfl, ?_⟩
    exact .of (congrArg _ (allN_not (i := k) (by omega) (inR_not.2 c)))
   try simp only [sps] at c
   refine .skip ?_
   refine t _ _ (.region ?_)
   refine .q rfl (.add rfl rfl rfl (by omega) (by omega)) ?_
   refine .mv rfl (.nil ?_)
   refine j (k + 1) _ _ ?_ ?_ ⟨rfl, rfl, rfl, rfl, trivial⟩
   ·
    refine ⟨rfl, ?_⟩
    refine ⟨by omega, fun i hi => ?_⟩
    by_cases e : i < k
    · exact b i e
    · obtain rfl : i = k := by omega
      exact inR_iff.2 c
   omega
  try simp only [sps] at g
  refine .exit ?_
  refine m _ _ (.seq (fun K10 f => .region (.mv rfl (.nil (f _ _ ?_)))))
  refine .ret ?_
  refine d _ _ ?_
  refine ⟨_, rfl, ?_⟩
  exact .of (congrArg _ (allN_of fun i hi => b i (by omega)))
theorem l01Map_c {a : Option Addr} {xs : List Int} {n : Int} {H : GHeap} (h : Ints H a xs := by assumption) (hl : xs.length ≤ 1048576 := by omega) :
    GCalls Tryd.prog 53 [.int .i64 n, .slice a xs.length xs.length] H (Ret (.bool (allIn xs n)) H) := by
  refine GCalls.body (N := 25) (rs := [.tmp 4]) Tryd.func53 rfl rfl rfl rfl (fun Qx b hend => ?_)
  refine .fg [0, 1] rfl ?_
  refine .seq (fun K1 s => .region (.mv rfl (.nil (s _ _ (.seq (fun K2 o => .seq (fun K3 v => .region (.mv rfl (.nil (v _ _ ?_))))))))))
  refine .block ?_
  refine .loopR (σ := Nat) [(0, some _), (1, some _)] (fun k => [(5, some (.int .i64 (k : Int)))]) (fun k H' => H = H' ∧ k ≤ xs.length ∧ ∀ i, i < k → inR (xs.getD i 0) 0 (n - 1) = true) (fun k => xs.length - k) (0) ⟨rfl, rfl, trivial⟩ ⟨rfl, trivial⟩ ?_ ?_
  ·
   refine ⟨rfl, ?_⟩
   exact ⟨by omega, fun i hi => by omega⟩
  rintro k _ ⟨rfl, hI⟩ KL1 j
  refine .forget (fr' := [(5, some (.int .i64 (k : Int))), (0, some _), (1, some _)]) ⟨rfl, rfl, rfl, trivial⟩ ?_
  obtain ⟨hk, c⟩ := hI
  refine .seq (fun K4 t => .seq (fun K5 p => .region (.mv rfl (.mv rfl (.q rfl (.len sl_22_A rfl) (.q rfl (.cmp rfl rfl rfl) (.nil (p _ _ ?_))))))))
  refine .cond rfl (fun h9 => ?_) (fun h9 => ?_)
  ·
   try simp only [sps] at h9
   refine .skip ?_
   refine t _ _ (.seq (fun K6 u => ?_))
   refine .block ?_
   refine .seq (fun K7 l => .region (.mv rfl (.mv rfl ?_)))
   refine .q rfl (.idxN sl_22_A (by assumption) rfl rfl (by omega)) ?_
   refine .q rfl (.loadI on_2_A (by assumption) rfl (by omega)) ?_
   refine .q rfl (.cmp rfl rfl rfl) (.mv rfl ?_)
   refine .split (fun d => ?_) (fun d => ?_)
   ·
    try simp only [sps] at d
    refine .z rfl (.z rfl (.z rfl (.z rfl (.z rfl (.z rfl (.q rfl (.pickT rfl rfl) (.nil (l _ _ ?_))))))))
    refine .condT rfl ?_
    refine .seq (fun K8 m => .region (.mv rfl (.nil (m _ _ ?_))))
    refine .ret ?_
    refine b _ _ ?_
    refine ⟨_, rfl, ?_⟩
    exact .of (congrArg _ (allN_not (i := k) (by omega) (inR_not.2 (.inl d))))
   try simp only [sps] at d
   refine .qg rfl (.move rfl) (.qg rfl (.move rfl) ?_)
   refine .qg rfl (.idxN sl_22_A (by assumption) rfl rfl (by omega)) ?_
   refine .qg rfl (.loadI on_2_A (by assumption) rfl (by omega)) ?_
   refine .qg rfl (.move rfl) (.qg rfl (.cmp rfl rfl rfl) (.q rfl (.pickF rfl rfl) (.nil (l _ _ ?_))))
   refine .cond rfl (fun f => ?_) (fun f => ?_)
   ·
    try simp only [sps] at f
    refine .seq (fun K9 r => .region (.mv rfl (.nil (r _ _ ?_))))
    refine .ret ?_
    refine b _ _ ?_
    refine ⟨_, rfl, ?_⟩
    exact .of (congrArg _ (allN_not (i := k) (by omega) (inR_not.2 (.inr (by simp at f ⊢; omega)))))
   try simp only [sps] at f
   refine .skip ?_
   refine u _ _ (.region (.mv rfl ?_))
   refine .q rfl (.add rfl rfl rfl (by omega) (by omega)) ?_
   refine .mv rfl (.nil ?_)
   refine j (k + 1) _ _ ?_ ?_ ⟨rfl, rfl, rfl, trivial⟩
   ·
    refine ⟨rfl, ?_⟩
    refine ⟨by omega, fun i hi => ?_⟩
    by_cases e : i < k
    · exact c i e
    · obtain rfl : i = k := by omega
      exact inR_iff.2 ⟨d, by omega⟩
   omega
  try simp only [sps] at h9
  refine .exit ?_
  refine o _ _ (.seq (fun K10 g => .region (.mv rfl (.nil (g _ _ ?_)))))
  refine .ret ?_
  refine b _ _ ?_
  refine ⟨_, rfl, ?_⟩
  exact .of (congrArg _ (allN_of fun i hi => c i (by omega)))
end Go.Proofs.YtlfnclhkhmkklaaDoor
namespace Go.Proofs.YtlfnclhkhmkklaaDoor
open Go Go.GL Go.RowKit Go.Proofs
theorem fo_29_1_B : fieldOff Tryd.prog 29 1 = some 1 := by kernel_rfl
theorem on_22_B : oneT Tryd.prog 22 = true := by kernel_rfl
theorem ze_118_B : zeroT Tryd.prog 118 = some ([.int .i64 0, .int .i64 0], 2) := by kernel_rfl
theorem mo_B : Tryd.prog.follows .mixedOrders = true := by kernel_rfl
theorem fo_29_2_B : fieldOff Tryd.prog 29 2 = some 2 := by kernel_rfl
theorem bt_118_B : buildT Tryd.prog 118 = some ([.int .i64 0, .int .i64 0], [(0, 1), (1, 1)]) := by kernel_rfl
theorem sz_118_B : (Tryd.prog.info? 118).map (·.size) = some 2 := by kernel_rfl
theorem ag_118_B : aggT Tryd.prog 118 = some 2 := by kernel_rfl
theorem fo_29_4_B : fieldOff Tryd.prog 29 4 = some 4 := by kernel_rfl
theorem on_23_B : oneT Tryd.prog 23 = true := by kernel_rfl
theorem sl_23_B : sliceT Tryd.prog 23 = some (22, 1) := by kernel_rfl
theorem fo_29_0_B : fieldOff Tryd.prog 29 0 = some 0 := by kernel_rfl
theorem fo_29_3_B : fieldOff Tryd.prog 29 3 = some 3 := by kernel_rfl
theorem eg_118_B : Tryd.prog.eqGuardType Tryd.prog.depth 118 = false := by kernel_rfl
theorem arrows_c {g o : Nat} {c : Cat} {p : CatP} {H : GHeap} (h : Cat.At H g o c p := by assumption) : GCalls Tryd.prog 50 [.pointer (some ⟨g, o, none⟩)] H (Ret (.int .i64 c.src.length) H) := by
  refine GCalls.body (N := 8) (rs := [.tmp 2]) Tryd.func50 rfl rfl rfl rfl (fun Qx a hend => ?_)
  refine .fg [0] rfl ?_
  obtain ⟨c0, c1, c2, c3, c4, i1, i2, i3, i4⟩ := h.get
  refine .seq (fun K1 b => .region (.mv rfl (.nil (b _ _ (.seq (fun K2 d => .region (.mv rfl (.q rfl (.nilCheck rfl) (.q rfl (.fieldAddr fo_29_1_B rfl) ?_)))))))))
  refine .q rfl (.load on_22_B rfl (by assumption)) ?_
  refine .q rfl (.len sl_22_A rfl) (.mv rfl (.nil (d _ _ ?_)))
  refine .ret ?_
  refine a _ _ ?_
  refine ⟨_, rfl, ?_⟩
  exact .mk
theorem ends_c {g o : Nat} {c : Cat} {p : CatP} {f : Int} {H : GHeap} (h : Cat.At H g o c p := by assumption) (h0 : 0 ≤ f := by omega) (h1 : f < c.src.length := by omega) (h2 : f < c.tgt.length := by omega) :
    GCalls Tryd.prog 90 [.pointer (some ⟨g, o, none⟩), .int .i64 f] H (Ret (.agg #[.int .i64 (c.src.getD f.toNat 0), .int .i64 (c.tgt.getD f.toNat 0)]) H) := by
  refine GCalls.ret rfl ?_
  refine GCalls.body (N := 20) (rs := [.cell 4 118]) Tryd.func90 rfl rfl rfl rfl (fun Qx a hend => ?_)
  refine .fg [0, 1] rfl ?_
  refine .seq (fun K1 b => .region (.d rfl rfl rfl (.alloc rfl ze_118_B rfl CIs.mk) ?_))
  replace h := h.mono (GHeap.le_push H (.row [.int .i64 0, .int .i64 0] 118 true))
  have i := GHeap.le_push H (.row [.int .i64 0, .int .i64 0] 118 true)
  have hn := GHeap.get_push_new H (.row [.int .i64 0, .int .i64 0] 118 true)
  generalize H.push (.row [.int .i64 0, .int .i64 0] 118 true) = H1 at *
  obtain ⟨-, c1, c2, -, -, i1, i2, -, -⟩ := h.get
  refine .nil (b _ _ (.seq (fun K2 e => ?_)))
  refine .regionD mo_B (.q 0 (.q 1 (.q 2 (.q 3 (.q 4 (.q 5 (.q 6 (.q 7 (.q 8 (.q 9 (.q 10 (.q 11 (.q 12 (.q 13 (.q 14 (.c 15 0 (.done))))))))))))))))) (by kernel_rfl) ?_
  refine .mv rfl rfl (.q rfl (.nilCheck rfl) (.q rfl (.fieldAddr fo_29_1_B rfl) ?_))
  refine .q rfl (.load on_22_B rfl (by assumption)) ?_
  refine .mv rfl rfl ?_
  refine .q rfl (.idx1 sl_22_A (by assumption) rfl rfl (by omega) (by omega)) ?_
  refine .q rfl (.loadI on_2_A (by assumption) rfl (by omega)) ?_
  refine .mv rfl rfl (.q rfl (.nilCheck rfl) (.q rfl (.fieldAddr fo_29_2_B rfl) ?_))
  refine .q rfl (.load on_22_B rfl (by assumption)) ?_
  refine .mv rfl rfl ?_
  refine .q rfl (.idx1 sl_22_A (by assumption) rfl rfl (by omega) (by omega)) ?_
  refine .q rfl (.loadI on_2_A (by assumption) rfl (by omega)) ?_
  refine .q rfl (.build bt_118_B rfl rfl rfl) ?_
  refine .s0 rfl rfl rfl (.storeN rfl sz_118_B rfl rfl rfl rfl (by assumption) (by simp) CIs.mk) ?_
  refine .done ?_
  refine e _ _ ?_
  refine .ret ?_
  refine a _ _ ?_
  refine ⟨_, _, _, _, rfl, ag_118_B, (by rfl), (Mem.of_get (GHeap.get_set_eq (GHeap.ltg hn))), ?_⟩
  exact ⟨rfl, i.set_new (Nat.le_refl _)⟩
theorem then_c {g o : Nat} {c : Cat} {p : CatP} {f k : Int} {H : GHeap} (h : Cat.At H g o c p := by assumption) (h0 : 0 ≤ f := by omega) (h1 : f < c.comp.length := by omega) (h2 : 0 ≤ k := by omega) (h3 : k < (c.comp.getD f.toNat []).length := by omega) :
    GCalls Tryd.prog 78 [.pointer (some ⟨g, o, none⟩), .int .i64 f, .int .i64 k] H (Ret (.int .i64 ((c.comp.getD f.toNat []).getD k.toNat 0)) H) := by
  refine GCalls.body (N := 17) (rs := [.tmp 6]) Tryd.func78 rfl rfl rfl rfl (fun Qx a hend => ?_)
  refine .fg [0, 1, 2] rfl ?_
  obtain ⟨c0, c1, c2, c3, c4, i1, i2, i3, i4⟩ := h.get
  have hrow := i4.2 f.toNat (by omega)
  have hi4 := i4
  refine .seq (fun K1 b => .region (.mv rfl (.nil (b _ _ (.seq (fun K2 d => .region (.mv rfl (.q rfl (.nilCheck rfl) (.q rfl (.fieldAddr fo_29_4_B rfl) ?_)))))))))
  refine .q rfl (.load on_23_B rfl (by assumption)) ?_
  refine .mv rfl ?_
  refine .q rfl (.idx1 sl_23_B (Intss.sl (by assumption)) rfl rfl (by omega) (by omega)) ?_
  refine .q rfl (.loadR on_22_B (by assumption) rfl (by omega)) ?_
  refine .mv rfl ?_
  refine .q rfl (.idx1 sl_22_A (by assumption) rfl rfl (by omega) (by omega)) ?_
  refine .q rfl (.loadI on_2_A (by assumption) rfl (by omega)) ?_
  refine .mv rfl (.nil (d _ _ ?_))
  refine .ret ?_
  refine a _ _ ?_
  refine ⟨_, rfl, ?_⟩
  exact .mk
theorem isShape_c {g o : Nat} {c : Cat} {p : CatP} {H : GHeap} (h : Cat.At H g o c p := by assumption) (hs : c.Small := by assumption) : GCalls Tryd.prog 71 [.pointer (some ⟨g, o, none⟩)] H (Ret (.bool (B c.Shape)) H) := by
  refine GCalls.body (N := 167) (rs := [.tmp 2]) Tryd.func71 rfl rfl rfl rfl (fun Qx a hend => ?_)
  refine .fg [0] rfl ?_
  obtain ⟨c0, c1, c2, c3, c4, i1, i2, i3, i4⟩ := h.get
  obtain ⟨s1, s2, s3, -, -, s6⟩ := hs
  refine .seq (fun K1 f3 => .region (.mv rfl (.nil (f3 _ _ (.seq (fun K2 f6 => .region (.mv rfl ?_)))))))
  refine .callQ rfl rfl rfl rfl @Tryd.call50 rfl (arrows_c) ?_
  refine .mv rfl (.nil (f6 _ _ (.seq (fun K3 f4 => .seq (fun K4 y => ?_)))))
  refine .regionD mo_B (.q 0 (.q 1 (.q 2 (.q 3 (.c 4 0 (.q 5 (.q 6 (.q 7 (.q 8 (.q 9 (.q 10 (.q 11 (.q 12 (.q 13 (.q 14 (.q 15 (.q 16 (.q 17 (.q 18 (.q 19 (.q 20 (.q 21 (.q 22 (.q 23 (.q 24 (.q 25 (.q 26 (.q 27 (.c 28 0 (.q 29 (.q 30 (.q 31 (.q 32 (.q 33 (.q 34 (.q 35 (.q 36 (.q 37 (.q 38 (.q 39 (.c 40 0 (.q 41 (.q 42 (.done)))))))))))))))))))))))))))))))))))))))))))) (by kernel_rfl) ?_
  refine .mv rfl rfl (.q rfl (.nilCheck rfl) (.q rfl (.fieldAddr fo_29_0_B rfl) ?_))
  refine .q rfl (.load on_2_A rfl (by assumption)) ?_
  refine .callQ0 rfl rfl rfl rfl rfl @Tryd.call73 rfl (inRange_c) ?_
  refine .q rfl (.not rfl) (.mv rfl rfl ?_)
  refine .split (fun a2 => ?_) (fun a2 => ?_)
  ·
   try simp only [sps] at a2
   refine .z rfl (.z rfl (.q rfl (.pickT rfl rfl) (.mv rfl rfl (.z rfl (.z rfl (.z rfl (.z rfl (.z rfl (.z rfl (.z rfl (.q rfl (.pickT rfl rfl) (.mv rfl rfl (.z rfl (.z rfl (.z rfl ?_)))))))))))))))
   refine .z rfl (.z rfl (.z rfl (.z rfl (.z rfl (.sgc rfl rfl rfl rfl rfl rfl (.z rfl (.q rfl (.pickT rfl rfl) (.mv rfl rfl (.z rfl (.z rfl (.z rfl (.z rfl (.z rfl (.z rfl (.z rfl ?_)))))))))))))))
   refine .z rfl (.sgc rfl rfl rfl rfl rfl rfl (.z rfl (.q rfl (.pickT rfl rfl) ?_)))
   refine .done ?_
   refine y _ _ ?_
   refine .condT rfl ?_
   refine .seq (fun K5 f8 => .region (.mv rfl (.nil (f8 _ _ ?_))))
   refine .ret ?_
   refine a _ _ ?_
   refine ⟨_, rfl, ?_⟩
   exact .of (congrArg _ (B_false fun hS => by have q1 := hS.obj; have q2 := hS.n40; have q3 := hS.tl; have q4 := hS.il; have q5 := hS.cl; omega))
  try simp only [sps] at a2
  refine .qg rfl (.move rfl) (.qg rfl (.cmp rfl rfl rfl) (.q rfl (.pickF rfl rfl) (.mv rfl rfl ?_)))
  refine .split (fun b7 => ?_) (fun b7 => ?_)
  ·
   try simp only [sps] at b7
   refine .z rfl (.z rfl (.z rfl (.z rfl (.z rfl (.z rfl (.z rfl (.q rfl (.pickT rfl rfl) (.mv rfl rfl (.z rfl (.z rfl (.z rfl (.z rfl (.z rfl (.z rfl (.z rfl ?_)))))))))))))))
   refine .z rfl (.sgc rfl rfl rfl rfl rfl rfl (.z rfl (.q rfl (.pickT rfl rfl) (.mv rfl rfl (.z rfl (.z rfl (.z rfl (.z rfl (.z rfl (.z rfl (.z rfl (.z rfl (.sgc rfl rfl rfl rfl rfl rfl (.z rfl (.q rfl (.pickT rfl rfl) ?_)))))))))))))))
   refine .done ?_
   refine y _ _ ?_
   refine .condT rfl ?_
   refine .seq (fun K6 f9 => .region (.mv rfl (.nil (f9 _ _ ?_))))
   refine .ret ?_
   refine a _ _ ?_
   refine ⟨_, rfl, ?_⟩
   exact .of (congrArg _ (B_false fun hS => by have q1 := hS.obj; have q2 := hS.n40; have q3 := hS.tl; have q4 := hS.il; have q5 := hS.cl; omega))
  try simp only [sps] at b7
  refine .qg rfl (.move rfl) (.qg rfl (.nilCheck rfl) (.qg rfl (.fieldAddr fo_29_2_B rfl) ?_))
  refine .qg rfl (.load on_22_B rfl (by assumption)) ?_
  refine .qg rfl (.len sl_22_A rfl) (.qg rfl (.move rfl) (.qg rfl (.cmp rfl rfl rfl) (.q rfl (.pickF rfl rfl) (.mv rfl rfl ?_))))
  refine .split (fun b5 => ?_) (fun b5 => ?_)
  ·
   try simp only [sps] at b5
   refine .z rfl (.z rfl (.z rfl (.z rfl (.z rfl (.z rfl (.z rfl (.z rfl (.sgc rfl rfl rfl rfl rfl rfl (.z rfl (.q rfl (.pickT rfl rfl) (.mv rfl rfl (.z rfl (.z rfl (.z rfl (.z rfl ?_)))))))))))))))
   refine .z rfl (.z rfl (.z rfl (.z rfl (.sgc rfl rfl rfl rfl rfl rfl (.z rfl (.q rfl (.pickT rfl rfl) ?_))))))
   refine .done ?_
   refine y _ _ ?_
   refine .condT rfl ?_
   refine .seq (fun K7 f7 => .region (.mv rfl (.nil (f7 _ _ ?_))))
   refine .ret ?_
   refine a _ _ ?_
   refine ⟨_, rfl, ?_⟩
   exact .of (congrArg _ (B_false fun hS => by have q1 := hS.obj; have q2 := hS.n40; have q3 := hS.tl; have q4 := hS.il; have q5 := hS.cl; omega))
  try simp only [sps] at b5
  refine .qg rfl (.move rfl) (.qg rfl (.nilCheck rfl) (.qg rfl (.fieldAddr fo_29_1_B rfl) ?_))
  refine .qg rfl (.load on_22_B rfl (by assumption)) ?_
  refine .qg rfl (.move rfl) (.qg rfl (.nilCheck rfl) (.qg rfl (.fieldAddr fo_29_0_B rfl) ?_))
  refine .qg rfl (.load on_2_A rfl (by assumption)) ?_
  refine .callQ0g rfl rfl rfl rfl rfl rfl rfl @Tryd.call49 rfl (within_c) ?_
  refine .qg rfl (.not rfl) (.q rfl (.pickF rfl rfl) (.mv rfl rfl ?_))
  refine .split (fun v => ?_) (fun v => ?_)
  ·
   try simp only [sps] at v
   refine .z rfl (.z rfl (.z rfl (.z rfl (.z rfl (.z rfl (.z rfl (.z rfl (.sgc rfl rfl rfl rfl rfl rfl (.z rfl (.q rfl (.pickT rfl rfl) ?_))))))))))
   refine .done ?_
   refine y _ _ ?_
   refine .condT rfl ?_
   refine .seq (fun K8 f5 => .region (.mv rfl (.nil (f5 _ _ ?_))))
   refine .ret ?_
   refine a _ _ ?_
   refine ⟨_, rfl, ?_⟩
   exact .of (congrArg _ (B_false fun hS => by rw [allIn_iff.2 hS.src] at v; cases v))
  try simp only [sps] at v
  refine .qg rfl (.move rfl) (.qg rfl (.nilCheck rfl) (.qg rfl (.fieldAddr fo_29_2_B rfl) ?_))
  refine .qg rfl (.load on_22_B rfl (by assumption)) ?_
  refine .qg rfl (.move rfl) (.qg rfl (.nilCheck rfl) (.qg rfl (.fieldAddr fo_29_0_B rfl) ?_))
  refine .qg rfl (.load on_2_A rfl (by assumption)) ?_
  refine .callQ0g rfl rfl rfl rfl rfl rfl rfl @Tryd.call49 rfl (within_c) ?_
  refine .qg rfl (.not rfl) (.q rfl (.pickF rfl rfl) ?_)
  refine .done ?_
  refine y _ _ ?_
  refine .cond rfl (fun u => ?_) (fun u => ?_)
  ·
   try simp only [sps] at u
   refine .seq (fun K9 f2 => .region (.mv rfl (.nil (f2 _ _ ?_))))
   refine .ret ?_
   refine a _ _ ?_
   refine ⟨_, rfl, ?_⟩
   exact .of (congrArg _ (B_false fun hS => by rw [allIn_iff.2 hS.tgt] at u; cases u))
  try simp only [sps] at u
  refine .skip ?_
  refine f4 _ _ (.seq (fun K10 b6 => .seq (fun K11 n => ?_)))
  refine .regionD mo_B (.q 0 (.q 1 (.q 2 (.q 3 (.q 4 (.q 5 (.q 6 (.q 7 (.q 8 (.q 9 (.q 10 (.q 11 (.q 12 (.q 13 (.q 14 (.q 15 (.c 16 0 (.q 17 (.q 18 (.q 19 (.q 20 (.q 21 (.q 22 (.q 23 (.q 24 (.q 25 (.q 26 (.q 27 (.done))))))))))))))))))))))))))))) (by kernel_rfl) ?_
  refine .mv rfl rfl (.q rfl (.nilCheck rfl) (.q rfl (.fieldAddr fo_29_3_B rfl) ?_))
  refine .q rfl (.load on_22_B rfl (by assumption)) ?_
  refine .q rfl (.len sl_22_A rfl) (.mv rfl rfl (.q rfl (.nilCheck rfl) (.q rfl (.fieldAddr fo_29_0_B rfl) ?_)))
  refine .q rfl (.load on_2_A rfl (by assumption)) ?_
  refine .q rfl (.cmp rfl rfl rfl) (.mv rfl rfl ?_)
  refine .split (fun e6 => ?_) (fun e6 => ?_)
  ·
   try simp only [sps] at e6
   refine .z rfl (.z rfl (.z rfl (.z rfl (.z rfl (.sgc rfl rfl rfl rfl rfl rfl (.z rfl (.q rfl (.pickT rfl rfl) (.mv rfl rfl (.z rfl (.z rfl (.z rfl (.z rfl (.z rfl (.z rfl (.z rfl ?_)))))))))))))))
   refine .q rfl (.pickT rfl rfl) ?_
   refine .done ?_
   refine n _ _ ?_
   refine .condT rfl ?_
   refine .seq (fun K12 e9 => .region (.mv rfl (.nil (e9 _ _ ?_))))
   refine .ret ?_
   refine a _ _ ?_
   refine ⟨_, rfl, ?_⟩
   exact .of (congrArg _ (B_false fun hS => by have q1 := hS.obj; have q2 := hS.n40; have q3 := hS.tl; have q4 := hS.il; have q5 := hS.cl; omega))
  try simp only [sps] at e6
  refine .qg rfl (.move rfl) (.qg rfl (.nilCheck rfl) (.qg rfl (.fieldAddr fo_29_3_B rfl) ?_))
  refine .qg rfl (.load on_22_B rfl (by assumption)) ?_
  refine .qg rfl (.move rfl) ?_
  refine .callQ0g rfl rfl rfl rfl rfl rfl rfl @Tryd.call49 rfl (within_c) ?_
  refine .qg rfl (.not rfl) (.q rfl (.pickF rfl rfl) (.mv rfl rfl ?_))
  refine .split (fun s => ?_) (fun s => ?_)
  ·
   try simp only [sps] at s
   refine .z rfl (.z rfl (.z rfl (.z rfl (.z rfl (.z rfl (.z rfl (.q rfl (.pickT rfl rfl) ?_)))))))
   refine .done ?_
   refine n _ _ ?_
   refine .condT rfl ?_
   refine .seq (fun K13 d9 => .region (.mv rfl (.nil (d9 _ _ ?_))))
   refine .ret ?_
   refine a _ _ ?_
   refine ⟨_, rfl, ?_⟩
   exact .of (congrArg _ (B_false fun hS => by rw [allIn_iff.2 hS.idn] at s; cases s))
  try simp only [sps] at s
  refine .qg rfl (.move rfl) (.qg rfl (.nilCheck rfl) (.qg rfl (.fieldAddr fo_29_4_B rfl) ?_))
  refine .qg rfl (.load on_23_B rfl (by assumption)) ?_
  refine .qg rfl (.len sl_23_B rfl) (.qg rfl (.move rfl) (.qg rfl (.cmp rfl rfl rfl) (.q rfl (.pickF rfl rfl) ?_)))
  refine .done ?_
  refine n _ _ ?_
  refine .cond rfl (fun a6 => ?_) (fun a6 => ?_)
  ·
   try simp only [sps] at a6
   refine .seq (fun K14 e3 => .region (.mv rfl (.nil (e3 _ _ ?_))))
   refine .ret ?_
   refine a _ _ ?_
   refine ⟨_, rfl, ?_⟩
   exact .of (congrArg _ (B_false fun hS => by have q1 := hS.obj; have q2 := hS.n40; have q3 := hS.tl; have q4 := hS.il; have q5 := hS.cl; omega))
  try simp only [sps] at a6
  refine .skip ?_
  refine b6 _ _ (.seq (fun K15 a7 => .seq (fun K16 b9 => .region (.mv rfl (.q rfl (.nilCheck rfl) (.q rfl (.fieldAddr fo_29_3_B rfl) ?_))))))
  refine .q rfl (.load on_22_B rfl (by assumption)) ?_
  refine .q rfl (.len sl_22_A rfl) (.mv rfl (.nil (b9 _ _ ?_)))
  refine .block ?_
  refine .loopR (σ := Nat) [(0, some _), (3, some _), (86, some _), (87, some _)] (fun k => [(88, some (.int .i64 (k : Int)))]) (fun k H' => H = H' ∧ k ≤ c.idn.length ∧ ∀ x, x < k → c.src.getD (c.idn.getD x 0).toNat 0 = x ∧ c.tgt.getD (c.idn.getD x 0).toNat 0 = x) (fun k => c.idn.length - k) (0) ⟨rfl, rfl, rfl, rfl, trivial⟩ ⟨rfl, trivial⟩ ?_ ?_
  ·
   refine ⟨rfl, ?_⟩
   exact ⟨by omega, fun x hx => by omega⟩
  rintro k _ ⟨rfl, hI⟩ KL1 f0
  refine .forget (fr' := [(88, some (.int .i64 (k : Int))), (0, some _), (3, some _), (86, some _), (87, some _)]) ⟨rfl, rfl, rfl, rfl, rfl, trivial⟩ ?_
  obtain ⟨hk1, f1⟩ := hI
  refine .seq (fun K17 d1 => .region (.q rfl (.cmp rfl rfl rfl) (.nil (d1 _ _ (.seq (fun K18 d6 => ?_))))))
  refine .cond rfl (fun c8 => ?_) (fun c8 => ?_)
  ·
   simp only [decide_eq_true_eq] at c8
   have q1 := s k (by omega)
   refine .skip ?_
   refine d6 _ _ (.seq (fun K19 d3 => ?_))
   refine .block ?_
   refine .seq (fun K20 c9 => .region (.mv rfl ?_))
   refine .q rfl (.idxN sl_22_A (by assumption) rfl rfl (by omega)) ?_
   refine .q rfl (.loadI on_2_A (by assumption) rfl (by omega)) ?_
   refine .mv rfl (.mv rfl (.nil (c9 _ _ (.seq (fun K21 b8 => .region (.mv rfl (.mv rfl ?_)))))))
   refine .callQ rfl rfl rfl rfl @Tryd.call90 rfl (ends_c) ?_
   refine .mv rfl (.mv rfl (.q rfl (.build bt_118_B rfl rfl rfl) (.q rfl (.aggNe eg_118_B rfl rfl rfl rfl (aggEq_118 _ _ _ _)) (.nil (b8 _ _ ?_)))))
   refine .cond rfl (fun a3 => ?_) (fun a3 => ?_)
   ·
    try simp only [sps] at a3
    refine .seq (fun K22 a8 => .region (.mv rfl (.nil (a8 _ _ ?_))))
    refine .ret ?_
    refine a _ _ ?_
    refine ⟨_, rfl, ?_⟩
    exact .of (congrArg _ (B_false fun hS => by have := hS.ids k (by omega); omega))
   try simp only [sps] at a3
   refine .skip ?_
   refine d3 _ _ (.region ?_)
   refine .q rfl (.add rfl rfl rfl (by omega) (by omega)) ?_
   refine .mv rfl (.nil ?_)
   refine f0 (k + 1) _ _ ?_ ?_ ⟨rfl, rfl, rfl, rfl, rfl, trivial⟩
   ·
    refine ⟨rfl, ?_⟩
    refine ⟨by omega, fun x hx => ?_⟩
    by_cases e : x < k
    · exact f1 x e
    · obtain rfl : x = k := by omega
      exact a3
   omega
  try simp only [sps] at c8
  refine .exit ?_
  refine a7 _ _ (.seq (fun K23 e1 => .seq (fun K24 d5 => .region (.mv rfl (.q rfl (.nilCheck rfl) (.q rfl (.fieldAddr fo_29_4_B rfl) ?_))))))
  refine .q rfl (.load on_23_B rfl (by assumption)) ?_
  refine .q rfl (.len sl_23_B rfl) (.mv rfl (.nil (d5 _ _ ?_)))
  refine .block ?_
  refine .loopR (σ := Nat) [(0, some _), (3, some _), (104, some _), (105, some _)] (fun k => [(106, some (.int .i64 (k : Int)))]) (fun k H' => H = H' ∧ k ≤ c.comp.length ∧ ∀ f, f < k → (c.comp.getD f []).length = c.src.length ∧ ∀ g, g < c.src.length → c.Cell f g) (fun k => c.comp.length - k) (0) ⟨rfl, rfl, rfl, rfl, trivial⟩ ⟨rfl, trivial⟩ ?_ ?_
  ·
   refine ⟨rfl, ?_⟩
   exact ⟨by omega, fun x hx => by omega⟩
  rintro k _ ⟨rfl, hI⟩ KL2 c5
  refine .forget (fr' := [(106, some (.int .i64 (k : Int))), (0, some _), (3, some _), (104, some _), (105, some _)]) ⟨rfl, rfl, rfl, rfl, rfl, trivial⟩ ?_
  obtain ⟨hk2, e7⟩ := hI
  refine .seq (fun K25 e5 => .region (.q rfl (.cmp rfl rfl rfl) (.nil (e5 _ _ (.seq (fun K26 e8 => ?_))))))
  refine .cond rfl (fun t => ?_) (fun t => ?_)
  ·
   simp only [decide_eq_true_eq] at t
   have i5 := i4.2 k (by omega)
   refine .skip ?_
   refine e8 _ _ (.seq (fun K27 d7 => ?_))
   refine .block ?_
   refine .seq (fun K28 e2 => .region (.mv rfl ?_))
   refine .q rfl (.idxN sl_23_B (Intss.sl (by assumption)) rfl rfl (by omega)) ?_
   refine .q rfl (.loadR on_22_B (by assumption) rfl (by omega)) ?_
   refine .mv rfl (.mv rfl (.nil (e2 _ _ (.seq (fun K29 e4 => .seq (fun K30 b1 => .region (.mv rfl (.q rfl (.len sl_22_A rfl) (.mv rfl (.q rfl (.cmp rfl rfl rfl) (.nil (b1 _ _ ?_))))))))))))
   refine .cond rfl (fun r => ?_) (fun r => ?_)
   ·
    try simp only [sps] at r
    refine .seq (fun K31 a4 => .region (.mv rfl (.nil (a4 _ _ ?_))))
    refine .ret ?_
    refine a _ _ ?_
    refine ⟨_, rfl, ?_⟩
    exact .of (congrArg _ (B_false fun hS => by have := hS.row k (by omega); omega))
   try simp only [sps] at r
   refine .skip ?_
   refine e4 _ _ (.seq (fun K32 c6 => .region (.mv rfl (.q rfl (.len sl_22_A rfl) (.mv rfl (.nil (c6 _ _ ?_)))))))
   refine .block ?_
   refine .loopR (σ := Nat) [(0, some _), (3, some _), (6, some _), (104, some _), (105, some _), (106, some _), (115, some _), (116, some _)] (fun j => [(117, some (.int .i64 (j : Int)))]) (fun j H' => H = H' ∧ j ≤ (c.comp.getD k []).length ∧ ∀ g, g < j → c.Cell k g) (fun j => (c.comp.getD k []).length - j) (0) ⟨rfl, rfl, rfl, rfl, rfl, rfl, rfl, rfl, trivial⟩ ⟨rfl, trivial⟩ ?_ ?_
   ·
    refine ⟨rfl, ?_⟩
    exact ⟨by omega, fun x hx => by omega⟩
   rintro j _ ⟨rfl, hI⟩ KL3 a0
   refine .forget (fr' := [(117, some (.int .i64 (j : Int))), (0, some _), (3, some _), (6, some _), (104, some _), (105, some _), (106, some _), (115, some _), (116, some _)]) ⟨rfl, rfl, rfl, rfl, rfl, rfl, rfl, rfl, rfl, trivial⟩ ?_
   obtain ⟨hk3, d2⟩ := hI
   refine .seq (fun K33 d8 => .region (.q rfl (.cmp rfl rfl rfl) (.nil (d8 _ _ (.seq (fun K34 b3 => ?_))))))
   refine .cond rfl (fun m => ?_) (fun m => ?_)
   ·
    try simp only [sps] at m
    refine .skip ?_
    refine b3 _ _ (.seq (fun K35 w => ?_))
    refine .block ?_
    refine .seq (fun K36 a9 => .region (.mv rfl ?_))
    refine .q rfl (.idxN sl_22_A (by assumption) rfl rfl (by omega)) ?_
    refine .q rfl (.loadI on_2_A (by assumption) rfl (by omega)) ?_
    refine .mv rfl (.mv rfl (.nil (a9 _ _ (.seq (fun K37 d4 => .seq (fun K38 b0 => ?_))))))
    refine .regionD mo_B (.q 0 (.q 1 (.q 2 (.q 3 (.q 4 (.q 5 (.q 6 (.q 7 (.q 8 (.q 9 (.q 10 (.q 11 (.q 12 (.q 13 (.q 14 (.done)))))))))))))))) (by kernel_rfl) ?_
    refine .mv rfl rfl (.q rfl (.nilCheck rfl) (.q rfl (.fieldAddr fo_29_2_B rfl) ?_))
    refine .q rfl (.load on_22_B rfl (by assumption)) ?_
    refine .mv rfl rfl ?_
    refine .q rfl (.idxN sl_22_A (by assumption) rfl rfl (by omega)) ?_
    refine .q rfl (.loadI on_2_A (by assumption) rfl (by omega)) ?_
    refine .mv rfl rfl (.q rfl (.nilCheck rfl) (.q rfl (.fieldAddr fo_29_1_B rfl) ?_))
    refine .q rfl (.load on_22_B rfl (by assumption)) ?_
    refine .mv rfl rfl ?_
    refine .q rfl (.idxN sl_22_A (by assumption) rfl rfl (by omega)) ?_
    refine .q rfl (.loadI on_2_A (by assumption) rfl (by omega)) ?_
    refine .q rfl (.cmp rfl rfl rfl) ?_
    refine .done ?_
    refine b0 _ _ ?_
    refine .cond rfl (fun b => ?_) (fun b => ?_)
    ·
     try simp only [sps] at b
     refine .seq (fun K39 e0 => .seq (fun K40 b4 => .region (.mv rfl (.q rfl (.cmp rfl rfl rfl) (.nil (b4 _ _ ?_))))))
     refine .cond rfl (fun d => ?_) (fun d => ?_)
     ·
      try simp only [sps] at d
      refine .seq (fun K41 d0 => .region (.mv rfl (.nil (d0 _ _ ?_))))
      refine .ret ?_
      refine a _ _ ?_
      refine ⟨_, rfl, ?_⟩
      exact .of (congrArg _ (B_false fun hS => d ((Cat.Cell.neg b).1 (hS.cell k (by omega) j (by omega)))))
     try simp only [sps] at d
     refine .skip ?_
     refine e0 _ _ ?_
     refine .exit ?_
     refine w _ _ (.region ?_)
     refine .q rfl (.add rfl rfl rfl (by omega) (by omega)) ?_
     refine .mv rfl (.nil ?_)
     refine a0 (j + 1) _ _ ?_ ?_ ⟨rfl, rfl, rfl, rfl, rfl, rfl, rfl, rfl, rfl, trivial⟩
     ·
      refine ⟨rfl, ?_⟩
      refine ⟨by omega, fun x hx => ?_⟩
      by_cases e : x < j
      · exact d2 x e
      · obtain rfl : x = j := by omega
        first
          | exact (Cat.Cell.neg b).2 d
          | exact (Cat.Cell.pos b).2 ⟨i.1, by omega, l⟩
     omega
    try simp only [sps] at b
    refine .skip ?_
    refine d4 _ _ (.seq (fun K42 a1 => ?_))
    refine .regionD mo_B (.q 0 (.q 1 (.q 2 (.c 3 0 (.q 4 (.q 5 (.q 6 (.q 7 (.q 9 (.q 10 (.q 11 (.q 12 (.q 13 (.q 14 (.q 15 (.q 16 (.q 17 (.q 18 (.q 19 (.q 20 (.q 21 (.q 22 (.q 23 (.c 8 1 (.q 24 (.q 25 (.done))))))))))))))))))))))))))) (by kernel_rfl) ?_
    refine .mv rfl rfl (.mv rfl rfl ?_)
    refine .q rfl (.sub rfl rfl rfl (by omega) (by omega)) ?_
    refine .callQ0 rfl rfl rfl rfl rfl @Tryd.call73 rfl (inRange_c) ?_
    refine .q rfl (.not rfl) (.mv rfl rfl ?_)
    refine .split (fun i => ?_) (fun i => ?_)
    ·
     try simp only [sps] at i
     refine .z rfl (.z rfl (.z rfl (.z rfl (.z rfl (.z rfl (.z rfl (.z rfl (.z rfl (.z rfl (.z rfl (.z rfl (.z rfl (.z rfl (.z rfl (.z rfl ?_)))))))))))))))
     refine .z rfl (.sgc rfl rfl rfl rfl rfl rfl (.z rfl (.q rfl (.pickT rfl rfl) ?_)))
     refine .done ?_
     refine a1 _ _ ?_
     refine .condT rfl ?_
     refine .seq (fun K43 c7 => .region (.mv rfl (.nil (c7 _ _ ?_))))
     refine .ret ?_
     refine a _ _ ?_
     refine ⟨_, rfl, ?_⟩
     exact .of (congrArg _ (B_false fun hS => by have := (Cat.Cell.pos b).1 (hS.cell k (by omega) j (by omega)); omega))
    try simp only [sps] at i
    refine .qg rfl (.move rfl) (.qg rfl (.move rfl) (.qg rfl (.move rfl) (.qg rfl (.nilCheck rfl) (.qg rfl (.fieldAddr fo_29_1_B rfl) ?_))))
    refine .qg rfl (.load on_22_B rfl (by assumption)) ?_
    refine .qg rfl (.move rfl) ?_
    refine .qg rfl (.idxN sl_22_A (by assumption) rfl rfl (by omega)) ?_
    refine .qg rfl (.loadI on_2_A (by assumption) rfl (by omega)) ?_
    refine .qg rfl (.move rfl) (.qg rfl (.nilCheck rfl) (.qg rfl (.fieldAddr fo_29_2_B rfl) ?_))
    refine .qg rfl (.load on_22_B rfl (by assumption)) ?_
    refine .qg rfl (.move rfl) ?_
    refine .qg rfl (.idxN sl_22_A (by assumption) rfl rfl (by omega)) ?_
    refine .qg rfl (.loadI on_2_A (by assumption) rfl (by omega)) ?_
    refine .qg rfl (.build bt_118_B rfl rfl rfl) ?_
    refine .callQ1g rfl rfl rfl rfl rfl rfl rfl @Tryd.call90 rfl (ends_c) (.refl _) ?_
    refine .qg rfl (.aggNe eg_118_B rfl rfl rfl rfl (aggEq_118 _ _ _ _)) (.q rfl (.pickF rfl rfl) ?_)
    refine .done ?_
    refine a1 _ _ ?_
    refine .cond rfl (fun l => ?_) (fun l => ?_)
    ·
     try simp only [sps] at l
     refine .seq (fun K44 b2 => .region (.mv rfl (.nil (b2 _ _ ?_))))
     refine .ret ?_
     refine a _ _ ?_
     refine ⟨_, rfl, ?_⟩
     exact .of (congrArg _ (B_false fun hS => by have := (Cat.Cell.pos b).1 (hS.cell k (by omega) j (by omega)); omega))
    try simp only [sps] at l
    refine .skip ?_
    refine w _ _ (.region ?_)
    refine .q rfl (.add rfl rfl rfl (by omega) (by omega)) ?_
    refine .mv rfl (.nil ?_)
    refine a0 (j + 1) _ _ ?_ ?_ ⟨rfl, rfl, rfl, rfl, rfl, rfl, rfl, rfl, rfl, trivial⟩
    ·
     refine ⟨rfl, ?_⟩
     refine ⟨by omega, fun x hx => ?_⟩
     by_cases e : x < j
     · exact d2 x e
     · obtain rfl : x = j := by omega
       first
         | exact (Cat.Cell.neg b).2 d
         | exact (Cat.Cell.pos b).2 ⟨i.1, by omega, l⟩
    omega
   try simp only [sps] at m
   refine .exit ?_
   refine d7 _ _ (.region ?_)
   refine .q rfl (.add rfl rfl rfl (by omega) (by omega)) ?_
   refine .mv rfl (.nil ?_)
   refine c5 (k + 1) _ _ ?_ ?_ ⟨rfl, rfl, rfl, rfl, rfl, trivial⟩
   ·
    refine ⟨rfl, ?_⟩
    refine ⟨by omega, fun x hx => ?_⟩
    by_cases e : x < k
    · exact e7 x e
    · obtain rfl : x = k := by omega
      exact ⟨by omega, fun g hg => d2 g (by omega)⟩
   omega
  try simp only [sps] at t
  refine .exit ?_
  refine e1 _ _ (.seq (fun K45 a5 => .region (.mv rfl (.nil (a5 _ _ ?_)))))
  refine .ret ?_
  refine a _ _ ?_
  refine ⟨_, rfl, ?_⟩
  exact .of (congrArg _ (B_true ⟨a2, by omega, by omega, v, u, by omega, s, by omega, fun x hx => f1 x (by omega), fun f hf => (e7 f (by omega)).1, fun f hf => (e7 f (by omega)).2⟩))
end Go.Proofs.YtlfnclhkhmkklaaDoor
namespace Go.Proofs.YtlfnclhkhmkklaaDoor
open Go Go.GL Go.RowKit Go.Proofs
theorem then_s {g o : Nat} {c : Cat} {p : CatP} {f k : Int} {H : GHeap} (h : Cat.At H g o c p := by assumption) (hS : c.Shape := by assumption) (h0 : 0 ≤ f := by omega) (h1 : f < c.src.length := by omega) (h2 : 0 ≤ k := by omega) (h3 : k < c.src.length := by omega) :
    GCalls Tryd.prog 78 [.pointer (some ⟨g, o, none⟩), .int .i64 f, .int .i64 k] H (Ret (.int .i64 (c.th f k)) H) := by
  have e1 := hS.cl
  have e2 := hS.row f.toNat (by omega)
  exact then_c
def FaultR (c : Cat) (H : GHeap) : Value → GHeap → Prop := fun v H' => H = H' ∧ ∃ kd b1 b2 b3 : Int, v = .tuple #[.int .i64 kd, .int .i64 b1, .int .i64 b2, .int .i64 b3] ∧ (kd = 0 ↔ c.Laws)
theorem fault_c {g o : Nat} {c : Cat} {p : CatP} {H : GHeap} (h : Cat.At H g o c p := by assumption) (hS : c.Shape := by assumption) : GCalls Tryd.prog 72 [.pointer (some ⟨g, o, none⟩)] H (FaultR c H) := by
  refine GCalls.body (N := 102) (rs := [.tmp 2, .tmp 3, .tmp 4, .tmp 5]) Tryd.func72 rfl rfl rfl rfl (fun Qx a hend => ?_)
  refine .fg [0] rfl ?_
  obtain ⟨-, c1, c2, c3, -, i1, i2, i3, -⟩ := h.get
  have e1 := hS.tl
  have e2 := hS.n40
  have e3 := hS.il
  refine .seq (fun K1 c9 => .region (.mv rfl (.mv rfl (.mv rfl (.mv rfl (.nil (c9 _ _ (.seq (fun K2 d2 => .region (.mv rfl ?_))))))))))
  refine .callQ rfl rfl rfl rfl @Tryd.call50 rfl (arrows_c) ?_
  refine .mv rfl (.nil (d2 _ _ (.seq (fun K3 d1 => .seq (fun K4 d0 => .region (.mv rfl (.nil (d0 _ _ ?_))))))))
  refine .block ?_
  refine .loopR (σ := Nat) [(0, some _), (6, some _)] (fun k => [(7, some (.int .i64 (k : Int)))]) (fun k H' => H = H' ∧ k ≤ c.src.length ∧ ∀ x, x < k → c.IdOk x) (fun k => c.src.length - k) (0) ⟨rfl, rfl, trivial⟩ ⟨rfl, trivial⟩ ?_ ?_
  ·
   refine ⟨rfl, ?_⟩
   exact ⟨by omega, fun x hx => by omega⟩
  rintro k _ ⟨rfl, hI⟩ KL1 c4
  refine .forget (fr' := [(7, some (.int .i64 (k : Int))), (0, some _), (6, some _)]) ⟨rfl, rfl, rfl, trivial⟩ ?_
  obtain ⟨hk1, c5⟩ := hI
  refine .seq (fun K5 d4 => .seq (fun K6 d5 => .region (.mv rfl (.mv rfl (.q rfl (.cmp rfl rfl rfl) (.nil (d5 _ _ ?_)))))))
  refine .cond rfl (fun a1 => ?_) (fun a1 => ?_)
  ·
   simp only [decide_eq_true_eq] at a1
   have q1 := hS.src k (by omega)
   have q2 := hS.tgt k (by omega)
   have q3 := hS.idn_lt q1.1 q1.2
   have q4 := hS.idn_lt q2.1 q2.2
   refine .skip ?_
   refine d4 _ _ (.seq (fun K7 d3 => ?_))
   refine .block ?_
   refine .seq (fun K8 c6 => ?_)
   refine .regionD mo_B (.q 0 (.q 1 (.q 2 (.q 3 (.q 4 (.q 5 (.q 6 (.q 7 (.q 8 (.q 9 (.q 10 (.q 11 (.q 12 (.q 13 (.q 14 (.q 16 (.c 15 1 (.q 17 (.q 18 (.q 19 (.q 20 (.q 21 (.q 22 (.q 23 (.q 24 (.q 25 (.q 26 (.q 27 (.q 28 (.q 29 (.q 30 (.q 31 (.q 32 (.q 33 (.q 35 (.c 34 1 (.q 36 (.q 37 (.done))))))))))))))))))))))))))))))))))))))) (by kernel_rfl) ?_
   refine .mv rfl rfl (.mv rfl rfl (.q rfl (.nilCheck rfl) (.q rfl (.fieldAddr fo_29_3_B rfl) ?_)))
   refine .q rfl (.load on_22_B rfl (by assumption)) ?_
   refine .mv rfl rfl (.q rfl (.nilCheck rfl) (.q rfl (.fieldAddr fo_29_1_B rfl) ?_))
   refine .q rfl (.load on_22_B rfl (by assumption)) ?_
   refine .mv rfl rfl ?_
   refine .q rfl (.idxN sl_22_A (by assumption) rfl rfl (by omega)) ?_
   refine .q rfl (.loadI on_2_A (by assumption) rfl (by omega)) ?_
   refine .q rfl (.idx1 sl_22_A (by assumption) rfl rfl (by omega) (by omega)) ?_
   refine .q rfl (.loadI on_2_A (by assumption) rfl (by omega)) ?_
   refine .mv rfl rfl (.mv rfl rfl ?_)
   refine .callQ1 rfl rfl rfl rfl rfl @Tryd.call78 rfl (then_s) (.refl _) ?_
   refine .q rfl (.cmp rfl rfl rfl) (.mv rfl rfl ?_)
   refine .split (fun r => ?_) (fun r => ?_)
   ·
    try simp only [sps] at r
    refine .z rfl (.z rfl (.z rfl (.z rfl (.z rfl (.z rfl (.z rfl (.z rfl (.z rfl (.z rfl (.z rfl (.z rfl (.z rfl (.z rfl (.z rfl (.z rfl ?_)))))))))))))))
    refine .sgc rfl rfl rfl rfl rfl rfl (.z rfl (.q rfl (.pickT rfl rfl) ?_))
    refine .done ?_
    refine c6 _ _ ?_
    refine .condT rfl ?_
    refine .seq (fun K9 c8 => .region (.mv rfl (.mv rfl (.mv rfl (.mv rfl (.mv rfl (.nil (c8 _ _ ?_))))))))
    refine .ret ?_
    refine a _ _ ?_
    refine ⟨_, _, _, _, rfl, rfl, rfl, rfl, ?_⟩
    exact ⟨rfl, _, _, _, _, rfl, fun e => by omega, fun hL => absurd (hL.ids k (by omega)).1 r⟩
   try simp only [sps] at r
   refine .qg rfl (.move rfl) (.qg rfl (.move rfl) (.qg rfl (.move rfl) (.qg rfl (.nilCheck rfl) (.qg rfl (.fieldAddr fo_29_3_B rfl) ?_))))
   refine .qg rfl (.load on_22_B rfl (by assumption)) ?_
   refine .qg rfl (.move rfl) (.qg rfl (.nilCheck rfl) (.qg rfl (.fieldAddr fo_29_2_B rfl) ?_))
   refine .qg rfl (.load on_22_B rfl (by assumption)) ?_
   refine .qg rfl (.move rfl) ?_
   refine .qg rfl (.idxN sl_22_A (by assumption) rfl rfl (by omega)) ?_
   refine .qg rfl (.loadI on_2_A (by assumption) rfl (by omega)) ?_
   refine .qg rfl (.idx1 sl_22_A (by assumption) rfl rfl (by omega) (by omega)) ?_
   refine .qg rfl (.loadI on_2_A (by assumption) rfl (by omega)) ?_
   refine .qg rfl (.move rfl) ?_
   refine .callQ1g rfl rfl rfl rfl rfl rfl rfl @Tryd.call78 rfl (then_s) (.refl _) ?_
   refine .qg rfl (.cmp rfl rfl rfl) (.q rfl (.pickF rfl rfl) ?_)
   refine .done ?_
   refine c6 _ _ ?_
   refine .cond rfl (fun m => ?_) (fun m => ?_)
   ·
    try simp only [sps] at m
    refine .seq (fun K10 a3 => .region (.mv rfl (.mv rfl (.mv rfl (.mv rfl (.mv rfl (.nil (a3 _ _ ?_))))))))
    refine .ret ?_
    refine a _ _ ?_
    refine ⟨_, _, _, _, rfl, rfl, rfl, rfl, ?_⟩
    exact ⟨rfl, _, _, _, _, rfl, fun e => by omega, fun hL => absurd (hL.ids k (by omega)).2 m⟩
   try simp only [sps] at m
   refine .skip ?_
   refine d3 _ _ (.region (.mv rfl ?_))
   refine .q rfl (.add rfl rfl rfl (by omega) (by omega)) ?_
   refine .mv rfl (.nil ?_)
   refine c4 (k + 1) _ _ ?_ ?_ ⟨rfl, rfl, rfl, trivial⟩
   ·
    refine ⟨rfl, ?_⟩
    refine ⟨by omega, fun x hx => ?_⟩
    by_cases e : x < k
    · exact c5 x e
    · obtain rfl : x = k := by omega
      exact ⟨r, m⟩
   omega
  try simp only [sps] at a1
  refine .exit ?_
  refine d1 _ _ (.seq (fun K11 a2 => .seq (fun K12 c0 => .region (.mv rfl (.nil (c0 _ _ ?_))))))
  refine .block ?_
  refine .loopR (σ := Nat) [(0, some _), (6, some _)] (fun k => [(8, some (.int .i64 (k : Int)))]) (fun k H' => H = H' ∧ k ≤ c.src.length ∧ ∀ f, f < k → ∀ g, g < c.src.length → c.tgt.getD f 0 = c.src.getD g 0 → ∀ h, h < c.src.length → c.tgt.getD g 0 = c.src.getD h 0 → c.th (c.th f g) h = c.th f (c.th g h)) (fun k => c.src.length - k) (0) ⟨rfl, rfl, trivial⟩ ⟨rfl, trivial⟩ ?_ ?_
  ·
   refine ⟨rfl, ?_⟩
   exact ⟨by omega, fun x hx => by omega⟩
  rintro k _ ⟨rfl, hI⟩ KL2 a7
  refine .forget (fr' := [(8, some (.int .i64 (k : Int))), (0, some _), (6, some _)]) ⟨rfl, rfl, rfl, trivial⟩ ?_
  obtain ⟨hk2, c7⟩ := hI
  refine .seq (fun K13 b5 => .seq (fun K14 b9 => .region (.mv rfl (.mv rfl (.q rfl (.cmp rfl rfl rfl) (.nil (b9 _ _ ?_)))))))
  refine .cond rfl (fun a4 => ?_) (fun a4 => ?_)
  ·
   try simp only [sps] at a4
   refine .skip ?_
   refine b5 _ _ (.seq (fun K15 w => ?_))
   refine .block ?_
   refine .seq (fun K16 a6 => .region (.mv rfl (.nil (a6 _ _ ?_))))
   refine .block ?_
   refine .loopR (σ := Nat) [(0, some _), (6, some _), (8, some _)] (fun j => [(9, some (.int .i64 (j : Int)))]) (fun j H' => H = H' ∧ j ≤ c.src.length ∧ ∀ g, g < j → c.tgt.getD k 0 = c.src.getD g 0 → ∀ h, h < c.src.length → c.tgt.getD g 0 = c.src.getD h 0 → c.th (c.th k g) h = c.th k (c.th g h)) (fun j => c.src.length - j) (0) ⟨rfl, rfl, rfl, trivial⟩ ⟨rfl, trivial⟩ ?_ ?_
   ·
    refine ⟨rfl, ?_⟩
    exact ⟨by omega, fun x hx => by omega⟩
   rintro j _ ⟨rfl, hI⟩ KL3 l
   refine .forget (fr' := [(9, some (.int .i64 (j : Int))), (0, some _), (6, some _), (8, some _)]) ⟨rfl, rfl, rfl, rfl, trivial⟩ ?_
   obtain ⟨hk3, b0⟩ := hI
   refine .seq (fun K17 a9 => .seq (fun K18 b3 => .region (.mv rfl (.mv rfl (.q rfl (.cmp rfl rfl rfl) (.nil (b3 _ _ ?_)))))))
   refine .cond rfl (fun b1 => ?_) (fun b1 => ?_)
   ·
    try simp only [sps] at b1
    refine .skip ?_
    refine a9 _ _ (.seq (fun K19 n => ?_))
    refine .block ?_
    refine .seq (fun K20 a8 => .seq (fun K21 a5 => .region (.mv rfl (.mv rfl (.mv rfl ?_)))))
    refine .callQ rfl rfl rfl rfl @Tryd.call78 rfl (then_s) ?_
    refine .q rfl (.cmp rfl rfl rfl) (.nil (a5 _ _ ?_))
    refine .cond rfl (fun a0 => ?_) (fun a0 => ?_)
    ·
     try simp only [sps] at a0
     refine .exit ?_
     refine n _ _ (.region (.mv rfl ?_))
     refine .q rfl (.add rfl rfl rfl (by omega) (by omega)) ?_
     refine .mv rfl (.nil ?_)
     refine l (j + 1) _ _ ?_ ?_ ⟨rfl, rfl, rfl, rfl, trivial⟩
     ·
      refine ⟨rfl, ?_⟩
      refine ⟨by omega, fun x hx => ?_⟩
      by_cases e : x < j
      · exact b0 x e
      · obtain rfl : x = j := by omega
        first
          | exact fun e => absurd ((hS.th_ge (by omega) (by omega)).2 e) (by omega)
          | exact fun _ h hh => u h (by omega)
     omega
    simp only [decide_eq_false_iff_not] at a0
    have q5 := hS.th_lt (f := k) (g := j) (by omega) (by omega)
    have q6 := (hS.th_ge (f := k) (g := j) (by omega) (by omega)).1 (by omega)
    refine .skip ?_
    refine a8 _ _ (.seq (fun K22 y => .region (.mv rfl (.nil (y _ _ ?_)))))
    refine .block ?_
    refine .loopR (σ := Nat) [(0, some _), (6, some _), (8, some _), (9, some _)] (fun i => [(10, some (.int .i64 (i : Int)))]) (fun i H' => H = H' ∧ i ≤ c.src.length ∧ ∀ h, h < i → c.tgt.getD j 0 = c.src.getD h 0 → c.th (c.th k j) h = c.th k (c.th j h)) (fun i => c.src.length - i) (0) ⟨rfl, rfl, rfl, rfl, trivial⟩ ⟨rfl, trivial⟩ ?_ ?_
    ·
     refine ⟨rfl, ?_⟩
     exact ⟨by omega, fun x hx => by omega⟩
    rintro i _ ⟨rfl, hI⟩ KL4 d
    refine .forget (fr' := [(10, some (.int .i64 (i : Int))), (0, some _), (6, some _), (8, some _), (9, some _)]) ⟨rfl, rfl, rfl, rfl, rfl, trivial⟩ ?_
    obtain ⟨hk4, u⟩ := hI
    refine .seq (fun K23 b7 => .seq (fun K24 b2 => .region (.mv rfl (.mv rfl (.q rfl (.cmp rfl rfl rfl) (.nil (b2 _ _ ?_)))))))
    refine .cond rfl (fun b6 => ?_) (fun b6 => ?_)
    ·
     try simp only [sps] at b6
     refine .skip ?_
     refine b7 _ _ (.seq (fun K25 s => ?_))
     refine .block ?_
     refine .seq (fun K26 t => .region (.mv rfl (.mv rfl (.mv rfl ?_))))
     refine .callQ rfl rfl rfl rfl @Tryd.call78 rfl (then_s) ?_
     refine .q rfl (.cmp rfl rfl rfl) (.mv rfl ?_)
     refine .split (fun v => ?_) (fun v => ?_)
     ·
      simp only [decide_eq_true_eq, ge_iff_le] at v
      have q7 := hS.th_lt (f := j) (g := i) (by omega) (by omega)
      have q8 := (hS.th_ge (f := j) (g := i) (by omega) (by omega)).1 (by omega)
      refine .qg rfl (.move rfl) (.qg rfl (.move rfl) (.qg rfl (.move rfl) (.qg rfl (.move rfl) ?_)))
      refine .callQg rfl rfl rfl rfl rfl rfl @Tryd.call78 rfl (then_s) ?_
      refine .qg rfl (.move rfl) ?_
      refine .callQg rfl rfl rfl rfl rfl rfl @Tryd.call78 rfl (then_s) ?_
      refine .qg rfl (.move rfl) (.qg rfl (.move rfl) (.qg rfl (.move rfl) (.qg rfl (.move rfl) (.qg rfl (.move rfl) ?_))))
      refine .callQg rfl rfl rfl rfl rfl rfl @Tryd.call78 rfl (then_s) ?_
      refine .callQg rfl rfl rfl rfl rfl rfl @Tryd.call78 rfl (then_s) ?_
      refine .qg rfl (.cmp rfl rfl rfl) (.q rfl (.pickT rfl rfl) (.nil (t _ _ ?_)))
      refine .cond rfl (fun b => ?_) (fun b => ?_)
      ·
       try simp only [sps] at b
       refine .seq (fun K27 b4 => .region (.mv rfl (.mv rfl (.mv rfl (.mv rfl (.mv rfl (.mv rfl (.mv rfl (.nil (b4 _ _ ?_))))))))))
       refine .ret ?_
       refine a _ _ ?_
       refine ⟨_, _, _, _, rfl, rfl, rfl, rfl, ?_⟩
       exact ⟨rfl, _, _, _, _, rfl, fun e => by omega, fun hL => absurd (hL.as k (by omega) j (by omega) q6 i (by omega) q8) b⟩
      try simp only [sps] at b
      refine .skip ?_
      refine s _ _ (.region (.mv rfl ?_))
      refine .q rfl (.add rfl rfl rfl (by omega) (by omega)) ?_
      refine .mv rfl (.nil ?_)
      refine d (i + 1) _ _ ?_ ?_ ⟨rfl, rfl, rfl, rfl, rfl, trivial⟩
      ·
       refine ⟨rfl, ?_⟩
       refine ⟨by omega, fun x hx => ?_⟩
       by_cases e : x < i
       · exact u x e
       · obtain rfl : x = i := by omega
         first
           | exact fun e => absurd ((hS.th_ge (by omega) (by omega)).2 e) (by omega)
           | exact fun _ => b
      omega
     try simp only [sps] at v
     refine .z rfl (.z rfl (.z rfl (.z rfl (.z rfl (.z rfl (.z rfl (.z rfl (.z rfl (.z rfl (.z rfl (.z rfl (.z rfl (.z rfl (.z rfl (.q rfl (.pickF rfl rfl) ?_)))))))))))))))
     refine .nil (t _ _ ?_)
     refine .condF rfl ?_
     refine .skip ?_
     refine s _ _ (.region (.mv rfl ?_))
     refine .q rfl (.add rfl rfl rfl (by omega) (by omega)) ?_
     refine .mv rfl (.nil ?_)
     refine d (i + 1) _ _ ?_ ?_ ⟨rfl, rfl, rfl, rfl, rfl, trivial⟩
     ·
      refine ⟨rfl, ?_⟩
      refine ⟨by omega, fun x hx => ?_⟩
      by_cases e : x < i
      · exact u x e
      · obtain rfl : x = i := by omega
        first
          | exact fun e => absurd ((hS.th_ge (by omega) (by omega)).2 e) (by omega)
          | exact fun _ => b
     omega
    try simp only [sps] at b6
    refine .exit ?_
    refine n _ _ (.region (.mv rfl ?_))
    refine .q rfl (.add rfl rfl rfl (by omega) (by omega)) ?_
    refine .mv rfl (.nil ?_)
    refine l (j + 1) _ _ ?_ ?_ ⟨rfl, rfl, rfl, rfl, trivial⟩
    ·
     refine ⟨rfl, ?_⟩
     refine ⟨by omega, fun x hx => ?_⟩
     by_cases e : x < j
     · exact b0 x e
     · obtain rfl : x = j := by omega
       first
         | exact fun e => absurd ((hS.th_ge (by omega) (by omega)).2 e) (by omega)
         | exact fun _ h hh => u h (by omega)
    omega
   try simp only [sps] at b1
   refine .exit ?_
   refine w _ _ (.region (.mv rfl ?_))
   refine .q rfl (.add rfl rfl rfl (by omega) (by omega)) ?_
   refine .mv rfl (.nil ?_)
   refine a7 (k + 1) _ _ ?_ ?_ ⟨rfl, rfl, rfl, trivial⟩
   ·
    refine ⟨rfl, ?_⟩
    refine ⟨by omega, fun x hx => ?_⟩
    by_cases e : x < k
    · exact c7 x e
    · obtain rfl : x = k := by omega
      exact fun g hg => b0 g (by omega)
   omega
  try simp only [sps] at a4
  refine .exit ?_
  refine a2 _ _ (.seq (fun K28 b8 => .region (.mv rfl (.mv rfl (.mv rfl (.mv rfl (.nil (b8 _ _ ?_))))))))
  refine .ret ?_
  refine a _ _ ?_
  refine ⟨_, _, _, _, rfl, rfl, rfl, rfl, ?_⟩
  exact ⟨rfl, _, _, _, _, rfl, fun _ => ⟨fun f hf => c5 f (by omega), fun f hf => c7 f (by omega)⟩, fun _ => rfl⟩
theorem isCategory_c {g o : Nat} {c : Cat} {p : CatP} {H : GHeap} (h : Cat.At H g o c p := by assumption) (hs : c.Small := by assumption) : GCalls Tryd.prog 48 [.pointer (some ⟨g, o, none⟩)] H (Ret (.bool (B c.Is)) H) := by
  refine GCalls.body (N := 19) (rs := [.tmp 2]) Tryd.func48 rfl rfl rfl rfl (fun Qx a hend => ?_)
  refine .fg [0] rfl ?_
  refine .seq (fun K1 e => .region (.mv rfl (.nil (e _ _ (.seq (fun K2 b => .seq (fun K3 j => .region (.mv rfl ?_))))))))
  refine .callQ rfl rfl rfl rfl @Tryd.call71 rfl (isShape_c) ?_
  refine .q rfl (.not rfl) (.nil (j _ _ ?_))
  refine .cond rfl (fun h9 => ?_) (fun h9 => ?_)
  ·
   try simp only [sps] at h9
   refine .seq (fun K4 f => .region (.mv rfl (.nil (f _ _ ?_))))
   refine .ret ?_
   refine a _ _ ?_
   refine ⟨_, rfl, ?_⟩
   exact .of (congrArg _ (B_false fun hI => h9 hI.1))
  try simp only [sps] at h9
  refine .skip ?_
  refine b _ _ (.seq (fun K5 d => .region (.mv rfl ?_)))
  refine .call rfl rfl rfl rfl @Tryd.call72 rfl (fault_c) ?_
  rintro _ _ ⟨rfl, kd, b1, b2, b3, rfl, hkd⟩
  refine .mv rfl (.q rfl (.extract rfl rfl) (.q rfl (.extract rfl rfl) (.q rfl (.extract rfl rfl) (.q rfl (.extract rfl rfl) (.mv rfl (.mv rfl (.mv rfl (.mv rfl (.nil (d _ _ (.seq (fun K6 i => .region (.mv rfl (.q rfl (.cmp rfl rfl rfl) (.mv rfl ?_)))))))))))))))
  refine .nil (i _ _ ?_)
  refine .ret ?_
  refine a _ _ ?_
  refine ⟨_, rfl, ?_⟩
  exact .of (congrArg _ (by rw [Bool.eq_iff_iff, B_iff, beq_iff_eq, hkd]; exact ⟨fun h => h.2, fun h => ⟨h9, h⟩⟩))
end Go.Proofs.YtlfnclhkhmkklaaDoor
namespace Go.Proofs.YtlfnclhkhmkklaaDoor
open Go Go.GL Go.RowKit Go.Proofs
theorem sz_29_D : (Tryd.prog.info? 29).map (·.size) = some 5 := by kernel_rfl
theorem ag_29_D : aggT Tryd.prog 29 = some 5 := by kernel_rfl
theorem l02Ends_c {a : Option Addr} {xs : List Int} {n : Nat} {m : Int} {H : GHeap} (h : Ints H a xs := by assumption) (hl : xs.length ≤ 1048576 := by omega) :
    GCalls Tryd.prog 70 [.slice a xs.length xs.length, .int .i64 (n : Int), .int .i64 m] H (Ret (.bool (decide (xs.length = n) && allIn xs m)) H) := by
  refine GCalls.body (N := 16) (rs := [.tmp 6]) Tryd.func70 rfl rfl rfl rfl (fun Qx b hend => ?_)
  refine .fg [0, 1, 2] rfl ?_
  refine .seq (fun K1 e => .region (.mv rfl (.nil (e _ _ (.seq (fun K2 d => .region (.mv rfl (.q rfl (.len sl_22_A rfl) (.mv rfl (.q rfl (.cmp rfl rfl rfl) (.mv rfl ?_)))))))))))
  refine .split (fun c => ?_) (fun c => ?_)
  ·
   simp only [beq_iff_eq, beq_eq_false_iff_ne, ne_eq] at c
   refine .qg rfl (.move rfl) (.qg rfl (.move rfl) ?_)
   refine .callQg rfl rfl rfl rfl rfl rfl @Tryd.call53 rfl (l01Map_c) ?_
   refine .q rfl (.pickT rfl rfl) (.mv rfl (.nil (d _ _ ?_)))
   refine .ret ?_
   refine b _ _ ?_
   refine ⟨_, rfl, ?_⟩
   exact .of (congrArg _ (by rw [decide_eq_true (by omega : xs.length = n), Bool.true_and]))
  simp only [beq_iff_eq, beq_eq_false_iff_ne, ne_eq] at c
  refine .z rfl (.z rfl (.z rfl (.q rfl (.pickF rfl rfl) (.mv rfl (.nil (d _ _ ?_))))))
  refine .ret ?_
  refine b _ _ ?_
  refine ⟨_, rfl, ?_⟩
  exact .of (congrArg _ (by rw [decide_eq_false (by omega : ¬ xs.length = n), Bool.false_and]))
theorem specShape_c {c : Cat} {p : CatP} {H : GHeap} (hin : c.In H p := by assumption) (hs : c.Small := by assumption) : GCalls Tryd.prog 46 [.agg (c.cells p).toArray] H (Ret (.bool (B c.Shape)) H) := by
  refine GCalls.ret rfl ?_
  refine GCalls.body (N := 159) (rs := [.tmp 2]) Tryd.func46 rfl rfl rfl rfl (fun Qx a hend => ?_)
  refine .fg [0] rfl ?_
  refine .seq (fun K1 f6 => .region (.d rfl rfl rfl (.box rfl sz_29_D rfl CIs.mk) ?_))
  show GRun _ _ _ _ _ _ (H.push (.row (c.cells p) 29 true))
  have i := GHeap.le_push H (.row (c.cells p) 29 true)
  have hb : Cat.At (H.push (.row (c.cells p) 29 true)) H.next 0 c p := ⟨Mem.new _ _ _ _, hin.mono i⟩
  generalize H.push (.row (c.cells p) 29 true) = H1 at *
  generalize H.next = g at *
  obtain ⟨c0, c1, c2, c3, c4, i1, i2, i3, i4⟩ := hb.get
  obtain ⟨s1, s2, s3, -, -, s6⟩ := hs
  refine .mv rfl (.nil (f6 _ _ (.seq (fun K2 f9 => .region (.q rfl (.fieldAddr fo_29_1_B rfl) ?_)))))
  refine .q rfl (.load on_22_B rfl (by assumption)) ?_
  refine .q rfl (.len sl_22_A rfl) (.mv rfl (.nil (f9 _ _ (.seq (fun K3 f7 => .seq (fun K4 w => .region (.q rfl (.fieldAddr fo_29_0_B rfl) ?_)))))))
  refine .q rfl (.load on_2_A rfl (by assumption)) ?_
  refine .callQ rfl rfl rfl rfl @Tryd.call64 rfl (l01In_c) ?_
  refine .q rfl (.not rfl) (.mv rfl ?_)
  refine .split (fun a6 => ?_) (fun a6 => ?_)
  ·
   try simp only [sps] at a6
   refine .z rfl (.z rfl (.q rfl (.pickT rfl rfl) (.mv rfl (.z rfl (.z rfl (.z rfl (.z rfl (.z rfl (.z rfl (.z rfl (.q rfl (.pickT rfl rfl) (.mv rfl (.z rfl (.z rfl (.z rfl ?_)))))))))))))))
   refine .z rfl (.z rfl (.z rfl (.z rfl (.q rfl (.pickT rfl rfl) (.mv rfl (.z rfl (.z rfl (.z rfl (.z rfl (.z rfl (.q rfl (.pickT rfl rfl) (.nil (w _ _ ?_)))))))))))))
   refine .condT rfl ?_
   refine .seq (fun K5 g1 => .region (.mv rfl (.nil (g1 _ _ ?_))))
   refine .ret ?_
   refine a _ _ ?_
   refine ⟨_, rfl, ?_⟩
   exact ⟨congrArg _ (B_false fun hS => by have q1 := hS.obj; have q2 := hS.n40; have q3 := hS.tl; have q4 := hS.il; have q5 := hS.cl; omega), i⟩
  try simp only [sps] at a6
  refine .qg rfl (.move rfl) (.qg rfl (.cmp rfl rfl rfl) (.q rfl (.pickF rfl rfl) (.mv rfl ?_)))
  refine .split (fun d3 => ?_) (fun d3 => ?_)
  ·
   try simp only [sps] at d3
   refine .z rfl (.z rfl (.z rfl (.z rfl (.z rfl (.z rfl (.z rfl (.q rfl (.pickT rfl rfl) (.mv rfl (.z rfl (.z rfl (.z rfl (.z rfl (.z rfl (.z rfl (.z rfl ?_)))))))))))))))
   refine .q rfl (.pickT rfl rfl) (.mv rfl (.z rfl (.z rfl (.z rfl (.z rfl (.z rfl (.q rfl (.pickT rfl rfl) (.nil (w _ _ ?_)))))))))
   refine .condT rfl ?_
   refine .seq (fun K6 g2 => .region (.mv rfl (.nil (g2 _ _ ?_))))
   refine .ret ?_
   refine a _ _ ?_
   refine ⟨_, rfl, ?_⟩
   exact ⟨congrArg _ (B_false fun hS => by have q1 := hS.obj; have q2 := hS.n40; have q3 := hS.tl; have q4 := hS.il; have q5 := hS.cl; omega), i⟩
  try simp only [sps] at d3
  refine .qg rfl (.fieldAddr fo_29_1_B rfl) ?_
  refine .qg rfl (.load on_22_B rfl (by assumption)) ?_
  refine .qg rfl (.move rfl) (.qg rfl (.fieldAddr fo_29_0_B rfl) ?_)
  refine .qg rfl (.load on_2_A rfl (by assumption)) ?_
  refine .callQg rfl rfl rfl rfl rfl rfl @Tryd.call70 rfl (l02Ends_c) ?_
  refine .qg rfl (.not rfl) (.q rfl (.pickF rfl rfl) (.mv rfl ?_))
  refine .split (fun a1 => ?_) (fun a1 => ?_)
  ·
   try simp only [sps] at a1
   refine .z rfl (.z rfl (.z rfl (.z rfl (.z rfl (.z rfl (.z rfl (.q rfl (.pickT rfl rfl) (.mv rfl (.z rfl (.z rfl (.z rfl (.z rfl (.z rfl (.q rfl (.pickT rfl rfl) (.nil ?_)))))))))))))))
   refine w _ _ ?_
   refine .condT rfl ?_
   refine .seq (fun K7 g0 => .region (.mv rfl (.nil (g0 _ _ ?_))))
   refine .ret ?_
   refine a _ _ ?_
   refine ⟨_, rfl, ?_⟩
   exact ⟨congrArg _ (B_false fun hS => a1.elim (fun h => h trivial) (fun h => by rw [allIn_iff.2 hS.src] at h; cases h)), i⟩
  try simp only [sps] at a1
  refine .qg rfl (.fieldAddr fo_29_2_B rfl) ?_
  refine .qg rfl (.load on_22_B rfl (by assumption)) ?_
  refine .qg rfl (.move rfl) (.qg rfl (.fieldAddr fo_29_0_B rfl) ?_)
  refine .qg rfl (.load on_2_A rfl (by assumption)) ?_
  refine .callQg rfl rfl rfl rfl rfl rfl @Tryd.call70 rfl (l02Ends_c) ?_
  refine .qg rfl (.not rfl) (.q rfl (.pickF rfl rfl) (.mv rfl ?_))
  refine .split (fun v => ?_) (fun v => ?_)
  ·
   try simp only [sps] at v
   refine .z rfl (.z rfl (.z rfl (.z rfl (.z rfl (.q rfl (.pickT rfl rfl) (.nil (w _ _ ?_)))))))
   refine .condT rfl ?_
   refine .seq (fun K8 f8 => .region (.mv rfl (.nil (f8 _ _ ?_))))
   refine .ret ?_
   refine a _ _ ?_
   refine ⟨_, rfl, ?_⟩
   exact ⟨congrArg _ (B_false fun hS => v.elim (fun h => h hS.tl) (fun h => by rw [allIn_iff.2 hS.tgt] at h; cases h)), i⟩
  try simp only [sps] at v
  refine .qg rfl (.fieldAddr fo_29_4_B rfl) ?_
  refine .qg rfl (.load on_23_B rfl (by assumption)) ?_
  refine .qg rfl (.len sl_23_B rfl) (.qg rfl (.move rfl) (.qg rfl (.cmp rfl rfl rfl) (.q rfl (.pickF rfl rfl) (.nil (w _ _ ?_)))))
  refine .cond rfl (fun f0 => ?_) (fun f0 => ?_)
  ·
   try simp only [sps] at f0
   refine .seq (fun K9 f5 => .region (.mv rfl (.nil (f5 _ _ ?_))))
   refine .ret ?_
   refine a _ _ ?_
   refine ⟨_, rfl, ?_⟩
   exact ⟨congrArg _ (B_false fun hS => by have q1 := hS.obj; have q2 := hS.n40; have q3 := hS.tl; have q4 := hS.il; have q5 := hS.cl; omega), i⟩
  try simp only [sps] at f0
  refine .skip ?_
  refine f7 _ _ (.seq (fun K10 b8 => .seq (fun K11 y => .region (.q rfl (.fieldAddr fo_29_3_B rfl) ?_))))
  refine .q rfl (.load on_22_B rfl (by assumption)) ?_
  refine .q rfl (.len sl_22_A rfl) (.q rfl (.fieldAddr fo_29_0_B rfl) ?_)
  refine .q rfl (.load on_2_A rfl (by assumption)) ?_
  refine .q rfl (.cmp rfl rfl rfl) (.mv rfl ?_)
  refine .split (fun e8 => ?_) (fun e8 => ?_)
  ·
   try simp only [sps] at e8
   refine .z rfl (.z rfl (.z rfl (.z rfl (.z rfl (.q rfl (.pickT rfl rfl) (.nil (y _ _ ?_)))))))
   refine .condT rfl ?_
   refine .seq (fun K12 f3 => .region (.mv rfl (.nil (f3 _ _ ?_))))
   refine .ret ?_
   refine a _ _ ?_
   refine ⟨_, rfl, ?_⟩
   exact ⟨congrArg _ (B_false fun hS => by have q1 := hS.obj; have q2 := hS.n40; have q3 := hS.tl; have q4 := hS.il; have q5 := hS.cl; omega), i⟩
  try simp only [sps] at e8
  refine .qg rfl (.move rfl) (.qg rfl (.fieldAddr fo_29_3_B rfl) ?_)
  refine .qg rfl (.load on_22_B rfl (by assumption)) ?_
  refine .callQg rfl rfl rfl rfl rfl rfl @Tryd.call53 rfl (l01Map_c) ?_
  refine .qg rfl (.not rfl) (.q rfl (.pickF rfl rfl) (.nil (y _ _ ?_)))
  refine .cond rfl (fun t => ?_) (fun t => ?_)
  ·
   try simp only [sps] at t
   refine .seq (fun K13 e0 => .region (.mv rfl (.nil (e0 _ _ ?_))))
   refine .ret ?_
   refine a _ _ ?_
   refine ⟨_, rfl, ?_⟩
   exact ⟨congrArg _ (B_false fun hS => by rw [allIn_iff.2 hS.idn] at t; cases t), i⟩
  try simp only [sps] at t
  refine .skip ?_
  refine b8 _ _ (.seq (fun K14 e6 => .seq (fun K15 b1 => .region (.mv rfl (.nil (b1 _ _ ?_))))))
  refine .block ?_
  refine .loopR (σ := Nat) [(1, some _), (3, some _)] (fun k => [(4, some (.int .i64 (k : Int)))]) (fun k H' => H1 = H' ∧ (k : Int) ≤ c.obj ∧ ∀ x, x < k → c.src.getD (c.idn.getD x 0).toNat 0 = x ∧ c.tgt.getD (c.idn.getD x 0).toNat 0 = x) (fun k => c.idn.length - k) (0) ⟨rfl, rfl, trivial⟩ ⟨rfl, trivial⟩ ?_ ?_
  ·
   refine ⟨rfl, ?_⟩
   exact ⟨by omega, fun x hx => by omega⟩
  rintro k _ ⟨rfl, hI⟩ KL1 a9
  refine .forget (fr' := [(4, some (.int .i64 (k : Int))), (1, some _), (3, some _)]) ⟨rfl, rfl, rfl, trivial⟩ ?_
  obtain ⟨hk1, f4⟩ := hI
  refine .seq (fun K16 c6 => .seq (fun K17 d1 => .region (.mv rfl (.q rfl (.fieldAddr fo_29_0_B rfl) ?_))))
  refine .q rfl (.load on_2_A rfl (by assumption)) ?_
  refine .q rfl (.cmp rfl rfl rfl) (.nil (d1 _ _ ?_))
  refine .cond rfl (fun e2 => ?_) (fun e2 => ?_)
  ·
   simp only [decide_eq_true_eq] at e2
   have q1 := t k (by omega)
   refine .skip ?_
   refine c6 _ _ (.seq (fun K18 d7 => ?_))
   refine .block ?_
   refine .seq (fun K19 a2 => ?_)
   refine .regionD mo_B (.q 0 (.q 1 (.q 2 (.q 3 (.q 4 (.q 5 (.q 6 (.q 7 (.q 8 (.q 9 (.q 10 (.q 11 (.q 12 (.q 13 (.q 14 (.q 15 (.q 16 (.q 17 (.q 18 (.q 19 (.q 20 (.q 21 (.q 22 (.q 23 (.done))))))))))))))))))))))))) (by kernel_rfl) ?_
   refine .q rfl (.fieldAddr fo_29_1_B rfl) ?_
   refine .q rfl (.load on_22_B rfl (by assumption)) ?_
   refine .q rfl (.fieldAddr fo_29_3_B rfl) ?_
   refine .q rfl (.load on_22_B rfl (by assumption)) ?_
   refine .mv rfl rfl ?_
   refine .q rfl (.idxN sl_22_A (by assumption) rfl rfl (by omega)) ?_
   refine .q rfl (.loadI on_2_A (by assumption) rfl (by omega)) ?_
   refine .q rfl (.idx1 sl_22_A (by assumption) rfl rfl (by omega) (by omega)) ?_
   refine .q rfl (.loadI on_2_A (by assumption) rfl (by omega)) ?_
   refine .mv rfl rfl (.q rfl (.cmp rfl rfl rfl) (.mv rfl rfl ?_))
   refine .split (fun a4 => ?_) (fun a4 => ?_)
   ·
    try simp only [sps] at a4
    refine .z rfl (.z rfl (.z rfl (.z rfl (.z rfl (.z rfl (.z rfl (.z rfl (.z rfl (.z rfl (.z rfl (.q rfl (.pickT rfl rfl) ?_)))))))))))
    refine .done ?_
    refine a2 _ _ ?_
    refine .condT rfl ?_
    refine .seq (fun K20 d0 => .region (.mv rfl (.nil (d0 _ _ ?_))))
    refine .ret ?_
    refine a _ _ ?_
    refine ⟨_, rfl, ?_⟩
    exact ⟨congrArg _ (B_false fun hS => a4 (hS.ids k (by omega)).1), i⟩
   try simp only [sps] at a4
   refine .qg rfl (.fieldAddr fo_29_2_B rfl) ?_
   refine .qg rfl (.load on_22_B rfl (by assumption)) ?_
   refine .qg rfl (.fieldAddr fo_29_3_B rfl) ?_
   refine .qg rfl (.load on_22_B rfl (by assumption)) ?_
   refine .qg rfl (.move rfl) ?_
   refine .qg rfl (.idxN sl_22_A (by assumption) rfl rfl (by omega)) ?_
   refine .qg rfl (.loadI on_2_A (by assumption) rfl (by omega)) ?_
   refine .qg rfl (.idx1 sl_22_A (by assumption) rfl rfl (by omega) (by omega)) ?_
   refine .qg rfl (.loadI on_2_A (by assumption) rfl (by omega)) ?_
   refine .qg rfl (.move rfl) (.qg rfl (.cmp rfl rfl rfl) (.q rfl (.pickF rfl rfl) ?_))
   refine .done ?_
   refine a2 _ _ ?_
   refine .cond rfl (fun a5 => ?_) (fun a5 => ?_)
   ·
    try simp only [sps] at a5
    refine .seq (fun K21 b9 => .region (.mv rfl (.nil (b9 _ _ ?_))))
    refine .ret ?_
    refine a _ _ ?_
    refine ⟨_, rfl, ?_⟩
    exact ⟨congrArg _ (B_false fun hS => a5 (hS.ids k (by omega)).2), i⟩
   try simp only [sps] at a5
   refine .skip ?_
   refine d7 _ _ (.region (.mv rfl ?_))
   refine .q rfl (.add rfl rfl rfl (by omega) (by omega)) ?_
   refine .mv rfl (.nil ?_)
   refine a9 (k + 1) _ _ ?_ ?_ ⟨rfl, rfl, rfl, trivial⟩
   ·
    refine ⟨rfl, ?_⟩
    refine ⟨by omega, fun x hx => ?_⟩
    by_cases e : x < k
    · exact f4 x e
    · obtain rfl : x = k := by omega
      exact ⟨a4, a5⟩
   omega
  try simp only [sps] at e2
  refine .exit ?_
  refine e6 _ _ (.seq (fun K22 b2 => .seq (fun K23 e3 => .region (.mv rfl (.nil (e3 _ _ ?_))))))
  refine .block ?_
  refine .loopR (σ := Nat) [(1, some _), (3, some _)] (fun k => [(5, some (.int .i64 (k : Int)))]) (fun k H' => H1 = H' ∧ k ≤ c.comp.length ∧ ∀ f, f < k → (c.comp.getD f []).length = c.src.length ∧ ∀ g, g < c.src.length → c.Cell f g) (fun k => c.comp.length - k) (0) ⟨rfl, rfl, trivial⟩ ⟨rfl, trivial⟩ ?_ ?_
  ·
   refine ⟨rfl, ?_⟩
   exact ⟨by omega, fun x hx => by omega⟩
  rintro k _ ⟨rfl, hI⟩ KL2 c5
  refine .forget (fr' := [(5, some (.int .i64 (k : Int))), (1, some _), (3, some _)]) ⟨rfl, rfl, rfl, trivial⟩ ?_
  obtain ⟨hk2, f1⟩ := hI
  refine .seq (fun K24 d6 => .seq (fun K25 e9 => .region (.mv rfl (.mv rfl (.q rfl (.cmp rfl rfl rfl) (.nil (e9 _ _ ?_)))))))
  refine .cond rfl (fun c9 => ?_) (fun c9 => ?_)
  ·
   simp only [decide_eq_true_eq] at c9
   have i5 := i4.2 k (by omega)
   refine .skip ?_
   refine d6 _ _ (.seq (fun K26 f2 => ?_))
   refine .block ?_
   refine .seq (fun K27 d8 => .seq (fun K28 e4 => .region (.q rfl (.fieldAddr fo_29_4_B rfl) ?_)))
   refine .q rfl (.load on_23_B rfl (by assumption)) ?_
   refine .mv rfl ?_
   refine .q rfl (.idxN sl_23_B (Intss.sl (by assumption)) rfl rfl (by omega)) ?_
   refine .q rfl (.loadR on_22_B (by assumption) rfl (by omega)) ?_
   refine .q rfl (.len sl_22_A rfl) (.mv rfl (.q rfl (.cmp rfl rfl rfl) (.nil (e4 _ _ ?_))))
   refine .cond rfl (fun e5 => ?_) (fun e5 => ?_)
   ·
    try simp only [sps] at e5
    refine .seq (fun K29 e7 => .region (.mv rfl (.nil (e7 _ _ ?_))))
    refine .ret ?_
    refine a _ _ ?_
    refine ⟨_, rfl, ?_⟩
    exact ⟨congrArg _ (B_false fun hS => by have := hS.row k (by omega); omega), i⟩
   try simp only [sps] at e5
   refine .skip ?_
   refine d8 _ _ (.seq (fun K30 b5 => .region (.mv rfl (.nil (b5 _ _ ?_)))))
   refine .block ?_
   refine .loopR (σ := Nat) [(1, some _), (3, some _), (5, some _)] (fun j => [(6, some (.int .i64 (j : Int)))]) (fun j H' => H1 = H' ∧ j ≤ c.src.length ∧ ∀ g, g < j → c.Cell k g) (fun j => c.src.length - j) (0) ⟨rfl, rfl, rfl, trivial⟩ ⟨rfl, trivial⟩ ?_ ?_
   ·
    refine ⟨rfl, ?_⟩
    exact ⟨by omega, fun x hx => by omega⟩
   rintro j _ ⟨rfl, hI⟩ KL3 a0
   refine .forget (fr' := [(6, some (.int .i64 (j : Int))), (1, some _), (3, some _), (5, some _)]) ⟨rfl, rfl, rfl, rfl, trivial⟩ ?_
   obtain ⟨hk3, d4⟩ := hI
   refine .seq (fun K31 a8 => .seq (fun K32 c7 => .region (.mv rfl (.mv rfl (.q rfl (.cmp rfl rfl rfl) (.nil (c7 _ _ ?_)))))))
   refine .cond rfl (fun r => ?_) (fun r => ?_)
   ·
    try simp only [sps] at r
    refine .skip ?_
    refine a8 _ _ (.seq (fun K33 a3 => ?_))
    refine .block ?_
    refine .seq (fun K34 b7 => .region (.q rfl (.fieldAddr fo_29_4_B rfl) ?_))
    refine .q rfl (.load on_23_B rfl (by assumption)) ?_
    refine .mv rfl ?_
    refine .q rfl (.idxN sl_23_B (Intss.sl (by assumption)) rfl rfl (by omega)) ?_
    refine .q rfl (.loadR on_22_B (by assumption) rfl (by omega)) ?_
    refine .mv rfl ?_
    refine .q rfl (.idxN sl_22_A (by assumption) rfl rfl (by omega)) ?_
    refine .q rfl (.loadI on_2_A (by assumption) rfl (by omega)) ?_
    refine .mv rfl (.nil (b7 _ _ (.seq (fun K35 a7 => .seq (fun K36 b3 => ?_)))))
    refine .regionD mo_B (.q 0 (.q 1 (.q 2 (.q 3 (.q 4 (.q 5 (.q 6 (.q 7 (.q 8 (.q 9 (.q 10 (.done)))))))))))) (by kernel_rfl) ?_
    refine .q rfl (.fieldAddr fo_29_2_B rfl) ?_
    refine .q rfl (.load on_22_B rfl (by assumption)) ?_
    refine .mv rfl rfl ?_
    refine .q rfl (.idxN sl_22_A (by assumption) rfl rfl (by omega)) ?_
    refine .q rfl (.loadI on_2_A (by assumption) rfl (by omega)) ?_
    refine .q rfl (.fieldAddr fo_29_1_B rfl) ?_
    refine .q rfl (.load on_22_B rfl (by assumption)) ?_
    refine .mv rfl rfl ?_
    refine .q rfl (.idxN sl_22_A (by assumption) rfl rfl (by omega)) ?_
    refine .q rfl (.loadI on_2_A (by assumption) rfl (by omega)) ?_
    refine .q rfl (.cmp rfl rfl rfl) ?_
    refine .done ?_
    refine b3 _ _ ?_
    refine .cond rfl (fun b => ?_) (fun b => ?_)
    ·
     try simp only [sps] at b
     refine .seq (fun K37 d5 => .seq (fun K38 b4 => .region (.mv rfl (.q rfl (.cmp rfl rfl rfl) (.nil (b4 _ _ ?_))))))
     refine .cond rfl (fun l => ?_) (fun l => ?_)
     ·
      try simp only [sps] at l
      refine .seq (fun K39 e1 => .region (.mv rfl (.nil (e1 _ _ ?_))))
      refine .ret ?_
      refine a _ _ ?_
      refine ⟨_, rfl, ?_⟩
      exact ⟨congrArg _ (B_false fun hS => l ((Cat.Cell.neg b).1 (hS.cell k (by omega) j (by omega)))), i⟩
     try simp only [sps] at l
     refine .skip ?_
     refine d5 _ _ ?_
     refine .exit ?_
     refine a3 _ _ (.region (.mv rfl ?_))
     refine .q rfl (.add rfl rfl rfl (by omega) (by omega)) ?_
     refine .mv rfl (.nil ?_)
     refine a0 (j + 1) _ _ ?_ ?_ ⟨rfl, rfl, rfl, rfl, trivial⟩
     ·
      refine ⟨rfl, ?_⟩
      refine ⟨by omega, fun x hx => ?_⟩
      by_cases e : x < j
      · exact d4 x e
      · obtain rfl : x = j := by omega
        exact (Cat.Cell.neg b).2 l
     omega
    try simp only [sps] at b
    refine .skip ?_
    refine a7 _ _ (.seq (fun K40 n => ?_))
    refine .regionD mo_B (.q 0 (.q 1 (.q 2 (.q 3 (.q 4 (.q 5 (.q 6 (.q 7 (.q 8 (.q 9 (.q 10 (.q 11 (.q 12 (.q 13 (.q 14 (.q 15 (.q 16 (.q 17 (.q 18 (.q 19 (.q 20 (.q 21 (.q 22 (.q 23 (.q 24 (.q 25 (.q 26 (.q 27 (.q 28 (.q 29 (.q 30 (.q 31 (.q 32 (.done)))))))))))))))))))))))))))))))))) (by kernel_rfl) ?_
    refine .mv rfl rfl (.q rfl (.cmp rfl rfl rfl) (.mv rfl rfl ?_))
    refine .split (fun u => ?_) (fun u => ?_)
    ·
     try simp only [sps] at u
     refine .z rfl (.z rfl (.z rfl (.q rfl (.pickT rfl rfl) (.mv rfl rfl (.z rfl (.z rfl (.z rfl (.z rfl (.z rfl (.z rfl (.z rfl (.z rfl (.z rfl (.z rfl (.z rfl ?_)))))))))))))))
     refine .q rfl (.pickT rfl rfl) (.mv rfl rfl (.z rfl (.z rfl (.z rfl (.z rfl (.z rfl (.z rfl (.z rfl (.z rfl (.z rfl (.z rfl (.z rfl (.q rfl (.pickT rfl rfl) ?_)))))))))))))
     refine .done ?_
     refine n _ _ ?_
     refine .condT rfl ?_
     refine .seq (fun K41 d2 => .region (.mv rfl (.nil (d2 _ _ ?_))))
     refine .ret ?_
     refine a _ _ ?_
     refine ⟨_, rfl, ?_⟩
     exact ⟨congrArg _ (B_false fun hS => by have := (Cat.Cell.pos b).1 (hS.cell k (by omega) j (by omega)); omega), i⟩
    try simp only [sps] at u
    refine .qg rfl (.move rfl) (.qg rfl (.move rfl) (.qg rfl (.cmp rfl rfl rfl) (.q rfl (.pickF rfl rfl) (.mv rfl rfl ?_))))
    refine .split (fun s => ?_) (fun s => ?_)
    ·
     try simp only [sps] at s
     refine .z rfl (.z rfl (.z rfl (.z rfl (.z rfl (.z rfl (.z rfl (.z rfl (.z rfl (.z rfl (.z rfl (.q rfl (.pickT rfl rfl) (.mv rfl rfl (.z rfl (.z rfl (.z rfl ?_)))))))))))))))
     refine .z rfl (.z rfl (.z rfl (.z rfl (.z rfl (.z rfl (.z rfl (.z rfl (.q rfl (.pickT rfl rfl) ?_))))))))
     refine .done ?_
     refine n _ _ ?_
     refine .condT rfl ?_
     refine .seq (fun K42 d9 => .region (.mv rfl (.nil (d9 _ _ ?_))))
     refine .ret ?_
     refine a _ _ ?_
     refine ⟨_, rfl, ?_⟩
     exact ⟨congrArg _ (B_false fun hS => by have := (Cat.Cell.pos b).1 (hS.cell k (by omega) j (by omega)); omega), i⟩
    try simp only [sps] at s
    refine .qg rfl (.fieldAddr fo_29_1_B rfl) ?_
    refine .qg rfl (.load on_22_B rfl (by assumption)) ?_
    refine .qg rfl (.move rfl) ?_
    refine .qg rfl (.idx1 sl_22_A (by assumption) rfl rfl (by omega) (by omega)) ?_
    refine .qg rfl (.loadI on_2_A (by assumption) rfl (by omega)) ?_
    refine .qg rfl (.fieldAddr fo_29_1_B rfl) ?_
    refine .qg rfl (.load on_22_B rfl (by assumption)) ?_
    refine .qg rfl (.move rfl) ?_
    refine .qg rfl (.idxN sl_22_A (by assumption) rfl rfl (by omega)) ?_
    refine .qg rfl (.loadI on_2_A (by assumption) rfl (by omega)) ?_
    refine .qg rfl (.cmp rfl rfl rfl) (.q rfl (.pickF rfl rfl) (.mv rfl rfl ?_))
    refine .split (fun o => ?_) (fun o => ?_)
    ·
     try simp only [sps] at o
     refine .z rfl (.z rfl (.z rfl (.z rfl (.z rfl (.z rfl (.z rfl (.z rfl (.z rfl (.z rfl (.z rfl (.q rfl (.pickT rfl rfl) ?_)))))))))))
     refine .done ?_
     refine n _ _ ?_
     refine .condT rfl ?_
     refine .seq (fun K43 c8 => .region (.mv rfl (.nil (c8 _ _ ?_))))
     refine .ret ?_
     refine a _ _ ?_
     refine ⟨_, rfl, ?_⟩
     exact ⟨congrArg _ (B_false fun hS => o ((Cat.Cell.pos b).1 (hS.cell k (by omega) j (by omega))).2.2.1), i⟩
    try simp only [sps] at o
    refine .qg rfl (.fieldAddr fo_29_2_B rfl) ?_
    refine .qg rfl (.load on_22_B rfl (by assumption)) ?_
    refine .qg rfl (.move rfl) ?_
    refine .qg rfl (.idx1 sl_22_A (by assumption) rfl rfl (by omega) (by omega)) ?_
    refine .qg rfl (.loadI on_2_A (by assumption) rfl (by omega)) ?_
    refine .qg rfl (.fieldAddr fo_29_2_B rfl) ?_
    refine .qg rfl (.load on_22_B rfl (by assumption)) ?_
    refine .qg rfl (.move rfl) ?_
    refine .qg rfl (.idxN sl_22_A (by assumption) rfl rfl (by omega)) ?_
    refine .qg rfl (.loadI on_2_A (by assumption) rfl (by omega)) ?_
    refine .qg rfl (.cmp rfl rfl rfl) (.q rfl (.pickF rfl rfl) ?_)
    refine .done ?_
    refine n _ _ ?_
    refine .cond rfl (fun m => ?_) (fun m => ?_)
    ·
     try simp only [sps] at m
     refine .seq (fun K44 b6 => .region (.mv rfl (.nil (b6 _ _ ?_))))
     refine .ret ?_
     refine a _ _ ?_
     refine ⟨_, rfl, ?_⟩
     exact ⟨congrArg _ (B_false fun hS => m ((Cat.Cell.pos b).1 (hS.cell k (by omega) j (by omega))).2.2.2), i⟩
    try simp only [sps] at m
    refine .skip ?_
    refine a3 _ _ (.region (.mv rfl ?_))
    refine .q rfl (.add rfl rfl rfl (by omega) (by omega)) ?_
    refine .mv rfl (.nil ?_)
    refine a0 (j + 1) _ _ ?_ ?_ ⟨rfl, rfl, rfl, rfl, trivial⟩
    ·
     refine ⟨rfl, ?_⟩
     refine ⟨by omega, fun x hx => ?_⟩
     by_cases e : x < j
     · exact d4 x e
     · obtain rfl : x = j := by omega
       exact (Cat.Cell.pos b).2 ⟨by omega, by omega, by assumption, by assumption⟩
    omega
   try simp only [sps] at r
   refine .exit ?_
   refine f2 _ _ (.region (.mv rfl ?_))
   refine .q rfl (.add rfl rfl rfl (by omega) (by omega)) ?_
   refine .mv rfl (.nil ?_)
   refine c5 (k + 1) _ _ ?_ ?_ ⟨rfl, rfl, rfl, trivial⟩
   ·
    refine ⟨rfl, ?_⟩
    refine ⟨by omega, fun x hx => ?_⟩
    by_cases e : x < k
    · exact f1 x e
    · obtain rfl : x = k := by omega
      exact ⟨by omega, fun g hg => d4 g (by omega)⟩
   omega
  try simp only [sps] at c9
  refine .exit ?_
  refine b2 _ _ (.seq (fun K45 b0 => .region (.mv rfl (.nil (b0 _ _ ?_)))))
  refine .ret ?_
  refine a _ _ ?_
  refine ⟨_, rfl, ?_⟩
  exact ⟨congrArg _ (B_true ⟨a6, by omega, v.1, a1.2, v.2, by omega, t, by omega, fun x hx => f4 x (by omega), fun f hf => (f1 f (by omega)).1, fun f hf => (f1 f (by omega)).2⟩), i⟩
def FaultN (c : Cat) (H : GHeap) : Value → GHeap → Prop := fun v H' => H.Le H' ∧ ∃ kd b1 b2 b3 : Int, v = .tuple #[.int .i64 kd, .int .i64 b1, .int .i64 b2, .int .i64 b3] ∧ (kd = 0 ↔ c.Laws)
theorem l02Fault_c {c : Cat} {p : CatP} {H : GHeap} (hin : c.In H p := by assumption) (hS : c.Shape := by assumption) : GCalls Tryd.prog 47 [.agg (c.cells p).toArray] H (FaultR c H) := by
  refine (GCalls.quiet (φ := fun v => ∃ kd b1 b2 b3 : Int, v = .tuple #[.int .i64 kd, .int .i64 b1, .int .i64 b2, .int .i64 b3] ∧ (kd = 0 ↔ c.Laws)) (GCalls.mono (Q := FaultN c H) ?_ fun v H' ⟨h1, kd, b1, b2, b3, h2, h3⟩ => ⟨⟨kd, b1, b2, b3, h2, h3⟩, by rw [h2]; rfl, h1⟩)).mono fun v H' ⟨h1, h2⟩ => ⟨h2.symm, h1⟩
  refine GCalls.body (N := 131) (rs := [.tmp 2, .tmp 3, .tmp 4, .tmp 5]) Tryd.func47 rfl rfl rfl rfl (fun Qx b hend => ?_)
  refine .fg [0] rfl ?_
  refine .seq (fun K1 d5 => .region (.d rfl rfl rfl (.box rfl sz_29_D rfl CIs.mk) ?_))
  show GRun _ _ _ _ _ _ (H.push (.row (c.cells p) 29 true))
  have s := GHeap.le_push H (.row (c.cells p) 29 true)
  have hb : Cat.At (H.push (.row (c.cells p) 29 true)) H.next 0 c p := ⟨Mem.new _ _ _ _, hin.mono s⟩
  generalize H.push (.row (c.cells p) 29 true) = H1 at *
  generalize H.next = g at *
  obtain ⟨-, c1, c2, c3, c4, i1, i2, i3, i4⟩ := hb.get
  have e1 := hS.tl
  have e2 := hS.n40
  have e3 := hS.il
  have e5 := hS.cl
  refine .mv rfl (.mv rfl (.mv rfl (.mv rfl (.nil (d5 _ _ (.seq (fun K2 d8 => .region (.q rfl (.fieldAddr fo_29_1_B rfl) ?_))))))))
  refine .q rfl (.load on_22_B rfl (by assumption)) ?_
  refine .q rfl (.len sl_22_A rfl) (.mv rfl (.nil (d8 _ _ (.seq (fun K3 d7 => .seq (fun K4 d6 => .region (.mv rfl (.nil (d6 _ _ ?_)))))))))
  refine .block ?_
  refine .loopR (σ := Nat) [(1, some _), (6, some _)] (fun k => [(7, some (.int .i64 (k : Int)))]) (fun k H' => H1 = H' ∧ k ≤ c.src.length ∧ ∀ x, x < k → c.IdOk x) (fun k => c.src.length - k) (0) ⟨rfl, rfl, trivial⟩ ⟨rfl, trivial⟩ ?_ ?_
  ·
   refine ⟨rfl, ?_⟩
   exact ⟨by omega, fun x hx => by omega⟩
  rintro k _ ⟨rfl, hI⟩ KL1 d0
  refine .forget (fr' := [(7, some (.int .i64 (k : Int))), (1, some _), (6, some _)]) ⟨rfl, rfl, rfl, trivial⟩ ?_
  obtain ⟨hk1, d1⟩ := hI
  refine .seq (fun K5 e0 => .seq (fun K6 e4 => .region (.mv rfl (.mv rfl (.q rfl (.cmp rfl rfl rfl) (.nil (e4 _ _ ?_)))))))
  refine .cond rfl (fun b5 => ?_) (fun b5 => ?_)
  ·
   simp only [decide_eq_true_eq] at b5
   have q1 := hS.src k (by omega)
   have q2 := hS.tgt k (by omega)
   have q3 := hS.idn_lt q1.1 q1.2
   have q4 := hS.idn_lt q2.1 q2.2
   have r1 := i4.2 (c.idn.getD (c.src.getD k 0).toNat 0).toNat (by omega)
   have r1l := hS.row (c.idn.getD (c.src.getD k 0).toNat 0).toNat (by omega)
   have r2 := i4.2 k (by omega)
   have r2l := hS.row k (by omega)
   refine .skip ?_
   refine e0 _ _ (.seq (fun K7 d9 => ?_))
   refine .block ?_
   refine .seq (fun K8 d2 => ?_)
   refine .regionD mo_B (.q 0 (.q 1 (.q 2 (.q 3 (.q 4 (.q 5 (.q 6 (.q 7 (.q 8 (.q 9 (.q 10 (.q 11 (.q 12 (.q 13 (.q 14 (.q 15 (.q 16 (.q 17 (.q 18 (.q 19 (.q 20 (.q 21 (.q 22 (.q 23 (.q 24 (.q 25 (.q 26 (.q 27 (.q 28 (.q 29 (.q 30 (.q 31 (.q 32 (.q 33 (.q 34 (.q 35 (.q 36 (.q 37 (.done))))))))))))))))))))))))))))))))))))))) (by kernel_rfl) ?_
   refine .q rfl (.fieldAddr fo_29_4_B rfl) ?_
   refine .q rfl (.load on_23_B rfl (by assumption)) ?_
   refine .q rfl (.fieldAddr fo_29_3_B rfl) ?_
   refine .q rfl (.load on_22_B rfl (by assumption)) ?_
   refine .q rfl (.fieldAddr fo_29_1_B rfl) ?_
   refine .q rfl (.load on_22_B rfl (by assumption)) ?_
   refine .mv rfl rfl ?_
   refine .q rfl (.idxN sl_22_A (by assumption) rfl rfl (by omega)) ?_
   refine .q rfl (.loadI on_2_A (by assumption) rfl (by omega)) ?_
   refine .q rfl (.idx1 sl_22_A (by assumption) rfl rfl (by omega) (by omega)) ?_
   refine .q rfl (.loadI on_2_A (by assumption) rfl (by omega)) ?_
   refine .q rfl (.idx1 sl_23_B (Intss.sl (by assumption)) rfl rfl (by omega) (by omega)) ?_
   refine .q rfl (.loadR on_22_B (by assumption) rfl (by omega)) ?_
   refine .mv rfl rfl ?_
   refine .q rfl (.idxN sl_22_A (by assumption) rfl rfl (by omega)) ?_
   refine .q rfl (.loadI on_2_A (by assumption) rfl (by omega)) ?_
   refine .mv rfl rfl (.q rfl (.cmp rfl rfl rfl) (.mv rfl rfl ?_))
   refine .split (fun r => ?_) (fun r => ?_)
   ·
    try simp only [sps] at r
    refine .z rfl (.z rfl (.z rfl (.z rfl (.z rfl (.z rfl (.z rfl (.z rfl (.z rfl (.z rfl (.z rfl (.z rfl (.z rfl (.z rfl (.z rfl (.z rfl ?_)))))))))))))))
    refine .z rfl (.z rfl (.q rfl (.pickT rfl rfl) ?_))
    refine .done ?_
    refine d2 _ _ ?_
    refine .condT rfl ?_
    refine .seq (fun K9 d4 => .region (.mv rfl (.mv rfl (.mv rfl (.mv rfl (.mv rfl (.nil (d4 _ _ ?_))))))))
    refine .ret ?_
    refine b _ _ ?_
    refine ⟨_, _, _, _, rfl, rfl, rfl, rfl, ?_⟩
    exact ⟨s, _, _, _, _, rfl, fun e => by omega, fun hL => absurd (hL.ids k (by omega)).1 r⟩
   try simp only [sps] at r
   refine .qg rfl (.fieldAddr fo_29_4_B rfl) ?_
   refine .qg rfl (.load on_23_B rfl (by assumption)) ?_
   refine .qg rfl (.move rfl) ?_
   refine .qg rfl (.idxN sl_23_B (Intss.sl (by assumption)) rfl rfl (by omega)) ?_
   refine .qg rfl (.loadR on_22_B (by assumption) rfl (by omega)) ?_
   refine .qg rfl (.fieldAddr fo_29_3_B rfl) ?_
   refine .qg rfl (.load on_22_B rfl (by assumption)) ?_
   refine .qg rfl (.fieldAddr fo_29_2_B rfl) ?_
   refine .qg rfl (.load on_22_B rfl (by assumption)) ?_
   refine .qg rfl (.move rfl) ?_
   refine .qg rfl (.idxN sl_22_A (by assumption) rfl rfl (by omega)) ?_
   refine .qg rfl (.loadI on_2_A (by assumption) rfl (by omega)) ?_
   refine .qg rfl (.idx1 sl_22_A (by assumption) rfl rfl (by omega) (by omega)) ?_
   refine .qg rfl (.loadI on_2_A (by assumption) rfl (by omega)) ?_
   refine .qg rfl (.idx1 sl_22_A (by assumption) rfl rfl (by omega) (by omega)) ?_
   refine .qg rfl (.loadI on_2_A (by assumption) rfl (by omega)) ?_
   refine .qg rfl (.move rfl) (.qg rfl (.cmp rfl rfl rfl) (.q rfl (.pickF rfl rfl) ?_))
   refine .done ?_
   refine d2 _ _ ?_
   refine .cond rfl (fun u => ?_) (fun u => ?_)
   ·
    try simp only [sps] at u
    refine .seq (fun K10 a3 => .region (.mv rfl (.mv rfl (.mv rfl (.mv rfl (.mv rfl (.nil (a3 _ _ ?_))))))))
    refine .ret ?_
    refine b _ _ ?_
    refine ⟨_, _, _, _, rfl, rfl, rfl, rfl, ?_⟩
    exact ⟨s, _, _, _, _, rfl, fun e => by omega, fun hL => absurd (hL.ids k (by omega)).2 u⟩
   try simp only [sps] at u
   refine .skip ?_
   refine d9 _ _ (.region (.mv rfl ?_))
   refine .q rfl (.add rfl rfl rfl (by omega) (by omega)) ?_
   refine .mv rfl (.nil ?_)
   refine d0 (k + 1) _ _ ?_ ?_ ⟨rfl, rfl, rfl, trivial⟩
   ·
    refine ⟨rfl, ?_⟩
    refine ⟨by omega, fun x hx => ?_⟩
    by_cases e : x < k
    · exact d1 x e
    · obtain rfl : x = k := by omega
      exact ⟨r, u⟩
   omega
  try simp only [sps] at b5
  refine .exit ?_
  refine d7 _ _ (.seq (fun K11 a2 => .seq (fun K12 c9 => .region (.mv rfl (.nil (c9 _ _ ?_))))))
  refine .block ?_
  refine .loopR (σ := Nat) [(1, some _), (6, some _)] (fun k => [(8, some (.int .i64 (k : Int)))]) (fun k H' => H1 = H' ∧ k ≤ c.src.length ∧ ∀ f, f < k → ∀ g, g < c.src.length → c.tgt.getD f 0 = c.src.getD g 0 → ∀ h, h < c.src.length → c.tgt.getD g 0 = c.src.getD h 0 → c.th (c.th f g) h = c.th f (c.th g h)) (fun k => c.src.length - k) (0) ⟨rfl, rfl, trivial⟩ ⟨rfl, trivial⟩ ?_ ?_
  ·
   refine ⟨rfl, ?_⟩
   exact ⟨by omega, fun x hx => by omega⟩
  rintro k _ ⟨rfl, hI⟩ KL2 a8
  refine .forget (fr' := [(8, some (.int .i64 (k : Int))), (1, some _), (6, some _)]) ⟨rfl, rfl, rfl, trivial⟩ ?_
  obtain ⟨hk2, d3⟩ := hI
  refine .seq (fun K13 b9 => .seq (fun K14 c7 => .region (.mv rfl (.mv rfl (.q rfl (.cmp rfl rfl rfl) (.nil (c7 _ _ ?_)))))))
  refine .cond rfl (fun c0 => ?_) (fun c0 => ?_)
  ·
   try simp only [sps] at c0
   refine .skip ?_
   refine b9 _ _ (.seq (fun K15 a0 => ?_))
   refine .block ?_
   refine .seq (fun K16 a7 => .region (.mv rfl (.nil (a7 _ _ ?_))))
   refine .block ?_
   refine .loopR (σ := Nat) [(1, some _), (6, some _), (8, some _)] (fun j => [(9, some (.int .i64 (j : Int)))]) (fun j H' => H1 = H' ∧ j ≤ c.src.length ∧ ∀ g, g < j → c.tgt.getD k 0 = c.src.getD g 0 → ∀ h, h < c.src.length → c.tgt.getD g 0 = c.src.getD h 0 → c.th (c.th k g) h = c.th k (c.th g h)) (fun j => c.src.length - j) (0) ⟨rfl, rfl, rfl, trivial⟩ ⟨rfl, trivial⟩ ?_ ?_
   ·
    refine ⟨rfl, ?_⟩
    exact ⟨by omega, fun x hx => by omega⟩
   rintro j _ ⟨rfl, hI⟩ KL3 o
   refine .forget (fr' := [(9, some (.int .i64 (j : Int))), (1, some _), (6, some _), (8, some _)]) ⟨rfl, rfl, rfl, rfl, trivial⟩ ?_
   obtain ⟨hk3, b4⟩ := hI
   refine .seq (fun K17 b0 => .seq (fun K18 b6 => .region (.mv rfl (.mv rfl (.q rfl (.cmp rfl rfl rfl) (.nil (b6 _ _ ?_)))))))
   refine .cond rfl (fun c8 => ?_) (fun c8 => ?_)
   ·
    try simp only [sps] at c8
    refine .skip ?_
    refine b0 _ _ (.seq (fun K19 t => ?_))
    refine .block ?_
    refine .seq (fun K20 a9 => .seq (fun K21 a6 => ?_))
    refine .regionD mo_B (.q 0 (.q 1 (.q 2 (.q 3 (.q 4 (.q 5 (.q 6 (.q 7 (.q 8 (.q 9 (.q 10 (.done)))))))))))) (by kernel_rfl) ?_
    refine .q rfl (.fieldAddr fo_29_2_B rfl) ?_
    refine .q rfl (.load on_22_B rfl (by assumption)) ?_
    refine .mv rfl rfl ?_
    refine .q rfl (.idxN sl_22_A (by assumption) rfl rfl (by omega)) ?_
    refine .q rfl (.loadI on_2_A (by assumption) rfl (by omega)) ?_
    refine .q rfl (.fieldAddr fo_29_1_B rfl) ?_
    refine .q rfl (.load on_22_B rfl (by assumption)) ?_
    refine .mv rfl rfl ?_
    refine .q rfl (.idxN sl_22_A (by assumption) rfl rfl (by omega)) ?_
    refine .q rfl (.loadI on_2_A (by assumption) rfl (by omega)) ?_
    refine .q rfl (.cmp rfl rfl rfl) ?_
    refine .done ?_
    refine a6 _ _ ?_
    refine .cond rfl (fun l => ?_) (fun l => ?_)
    ·
     try simp only [sps] at l
     refine .exit ?_
     refine t _ _ (.region (.mv rfl ?_))
     refine .q rfl (.add rfl rfl rfl (by omega) (by omega)) ?_
     refine .mv rfl (.nil ?_)
     refine o (j + 1) _ _ ?_ ?_ ⟨rfl, rfl, rfl, rfl, trivial⟩
     ·
      refine ⟨rfl, ?_⟩
      refine ⟨by omega, fun x hx => ?_⟩
      by_cases e : x < j
      · exact b4 x e
      · obtain rfl : x = j := by omega
        exact fun e => absurd e l
     omega
    simp only [bne_eq_false_iff_eq] at l
    have q5 := (Cat.Cell.pos l).1 (hS.cell k (by omega) j (by omega))
    have r3 := i4.2 k (by omega)
    have r3l := hS.row k (by omega)
    have r4 := i4.2 j (by omega)
    have r4l := hS.row j (by omega)
    have r5 := i4.2 ((c.comp.getD k []).getD j 0).toNat (by omega)
    have r5l := hS.row ((c.comp.getD k []).getD j 0).toNat (by omega)
    refine .skip ?_
    refine a9 _ _ (.seq (fun K22 a1 => .region (.mv rfl (.nil (a1 _ _ ?_)))))
    refine .block ?_
    refine .loopR (σ := Nat) [(1, some _), (6, some _), (8, some _), (9, some _)] (fun i => [(10, some (.int .i64 (i : Int)))]) (fun i H' => H1 = H' ∧ i ≤ c.src.length ∧ ∀ h, h < i → c.tgt.getD j 0 = c.src.getD h 0 → c.th (c.th k j) h = c.th k (c.th j h)) (fun i => c.src.length - i) (0) ⟨rfl, rfl, rfl, rfl, trivial⟩ ⟨rfl, trivial⟩ ?_ ?_
    ·
     refine ⟨rfl, ?_⟩
     exact ⟨by omega, fun x hx => by omega⟩
    rintro i _ ⟨rfl, hI⟩ KL4 n
    refine .forget (fr' := [(10, some (.int .i64 (i : Int))), (1, some _), (6, some _), (8, some _), (9, some _)]) ⟨rfl, rfl, rfl, rfl, rfl, trivial⟩ ?_
    obtain ⟨hk4, a4⟩ := hI
    refine .seq (fun K23 c5 => .seq (fun K24 b7 => .region (.mv rfl (.mv rfl (.q rfl (.cmp rfl rfl rfl) (.nil (b7 _ _ ?_)))))))
    refine .cond rfl (fun a5 => ?_) (fun a5 => ?_)
    ·
     try simp only [sps] at a5
     refine .skip ?_
     refine c5 _ _ (.seq (fun K25 w => ?_))
     refine .block ?_
     refine .seq (fun K26 y => ?_)
     refine .regionD mo_B (.q 0 (.q 1 (.q 2 (.q 3 (.q 4 (.q 5 (.q 6 (.q 7 (.q 8 (.q 9 (.q 10 (.q 11 (.q 12 (.q 13 (.q 14 (.q 15 (.q 16 (.q 17 (.q 18 (.q 19 (.q 20 (.q 21 (.q 22 (.q 23 (.q 24 (.q 25 (.q 26 (.q 27 (.q 28 (.q 29 (.q 30 (.q 31 (.q 32 (.q 33 (.q 34 (.q 35 (.q 36 (.q 37 (.q 38 (.q 39 (.q 40 (.q 41 (.q 42 (.q 43 (.done))))))))))))))))))))))))))))))))))))))))))))) (by kernel_rfl) ?_
     refine .q rfl (.fieldAddr fo_29_2_B rfl) ?_
     refine .q rfl (.load on_22_B rfl (by assumption)) ?_
     refine .mv rfl rfl ?_
     refine .q rfl (.idxN sl_22_A (by assumption) rfl rfl (by omega)) ?_
     refine .q rfl (.loadI on_2_A (by assumption) rfl (by omega)) ?_
     refine .q rfl (.fieldAddr fo_29_1_B rfl) ?_
     refine .q rfl (.load on_22_B rfl (by assumption)) ?_
     refine .mv rfl rfl ?_
     refine .q rfl (.idxN sl_22_A (by assumption) rfl rfl (by omega)) ?_
     refine .q rfl (.loadI on_2_A (by assumption) rfl (by omega)) ?_
     refine .q rfl (.cmp rfl rfl rfl) (.mv rfl rfl ?_)
     refine .split (fun m => ?_) (fun m => ?_)
     ·
      simp only [beq_iff_eq] at m
      have q6 := (Cat.Cell.pos m).1 (hS.cell j (by omega) i (by omega))
      refine .qg rfl (.fieldAddr fo_29_4_B rfl) ?_
      refine .qg rfl (.load on_23_B rfl (by assumption)) ?_
      refine .qg rfl (.fieldAddr fo_29_4_B rfl) ?_
      refine .qg rfl (.load on_23_B rfl (by assumption)) ?_
      refine .qg rfl (.move rfl) ?_
      refine .qg rfl (.idxN sl_23_B (Intss.sl (by assumption)) rfl rfl (by omega)) ?_
      refine .qg rfl (.loadR on_22_B (by assumption) rfl (by omega)) ?_
      refine .qg rfl (.move rfl) ?_
      refine .qg rfl (.idxN sl_22_A (by assumption) rfl rfl (by omega)) ?_
      refine .qg rfl (.loadI on_2_A (by assumption) rfl (by omega)) ?_
      refine .qg rfl (.idx1 sl_23_B (Intss.sl (by assumption)) rfl rfl (by omega) (by omega)) ?_
      refine .qg rfl (.loadR on_22_B (by assumption) rfl (by omega)) ?_
      refine .qg rfl (.move rfl) ?_
      refine .qg rfl (.idxN sl_22_A (by assumption) rfl rfl (by omega)) ?_
      refine .qg rfl (.loadI on_2_A (by assumption) rfl (by omega)) ?_
      refine .qg rfl (.fieldAddr fo_29_4_B rfl) ?_
      refine .qg rfl (.load on_23_B rfl (by assumption)) ?_
      refine .qg rfl (.move rfl) ?_
      refine .qg rfl (.idxN sl_23_B (Intss.sl (by assumption)) rfl rfl (by omega)) ?_
      refine .qg rfl (.loadR on_22_B (by assumption) rfl (by omega)) ?_
      refine .qg rfl (.fieldAddr fo_29_4_B rfl) ?_
      refine .qg rfl (.load on_23_B rfl (by assumption)) ?_
      refine .qg rfl (.move rfl) ?_
      refine .qg rfl (.idxN sl_23_B (Intss.sl (by assumption)) rfl rfl (by omega)) ?_
      refine .qg rfl (.loadR on_22_B (by assumption) rfl (by omega)) ?_
      refine .qg rfl (.move rfl) ?_
      refine .qg rfl (.idxN sl_22_A (by assumption) rfl rfl (by omega)) ?_
      refine .qg rfl (.loadI on_2_A (by assumption) rfl (by omega)) ?_
      refine .qg rfl (.idx1 sl_22_A (by assumption) rfl rfl (by omega) (by omega)) ?_
      refine .qg rfl (.loadI on_2_A (by assumption) rfl (by omega)) ?_
      refine .qg rfl (.cmp rfl rfl rfl) (.q rfl (.pickT rfl rfl) ?_)
      refine .done ?_
      refine y _ _ ?_
      refine .cond rfl (fun a => ?_) (fun a => ?_)
      ·
       try simp only [sps] at a
       refine .seq (fun K27 b8 => .region (.mv rfl (.mv rfl (.mv rfl (.mv rfl (.mv rfl (.mv rfl (.mv rfl (.nil (b8 _ _ ?_))))))))))
       refine .ret ?_
       refine b _ _ ?_
       refine ⟨_, _, _, _, rfl, rfl, rfl, rfl, ?_⟩
       exact ⟨s, _, _, _, _, rfl, fun e => by omega, fun hL => absurd (hL.as k (by omega) j (by omega) l i (by omega) m) a⟩
      try simp only [sps] at a
      refine .skip ?_
      refine w _ _ (.region (.mv rfl ?_))
      refine .q rfl (.add rfl rfl rfl (by omega) (by omega)) ?_
      refine .mv rfl (.nil ?_)
      refine n (i + 1) _ _ ?_ ?_ ⟨rfl, rfl, rfl, rfl, rfl, trivial⟩
      ·
       refine ⟨rfl, ?_⟩
       refine ⟨by omega, fun x hx => ?_⟩
       by_cases e : x < i
       · exact a4 x e
       · obtain rfl : x = i := by omega
         exact fun _ => a
      omega
     try simp only [sps] at m
     refine .z rfl (.z rfl (.z rfl (.z rfl (.z rfl (.z rfl (.z rfl (.z rfl (.z rfl (.z rfl (.z rfl (.z rfl (.z rfl (.z rfl (.z rfl (.z rfl ?_)))))))))))))))
     refine .z rfl (.z rfl (.z rfl (.z rfl (.z rfl (.z rfl (.z rfl (.z rfl (.z rfl (.z rfl (.z rfl (.z rfl (.z rfl (.z rfl (.z rfl (.q rfl (.pickF rfl rfl) ?_)))))))))))))))
     refine .done ?_
     refine y _ _ ?_
     refine .condF rfl ?_
     refine .skip ?_
     refine w _ _ (.region (.mv rfl ?_))
     refine .q rfl (.add rfl rfl rfl (by omega) (by omega)) ?_
     refine .mv rfl (.nil ?_)
     refine n (i + 1) _ _ ?_ ?_ ⟨rfl, rfl, rfl, rfl, rfl, trivial⟩
     ·
      refine ⟨rfl, ?_⟩
      refine ⟨by omega, fun x hx => ?_⟩
      by_cases e : x < i
      · exact a4 x e
      · obtain rfl : x = i := by omega
        exact fun e => absurd e m
     omega
    try simp only [sps] at a5
    refine .exit ?_
    refine t _ _ (.region (.mv rfl ?_))
    refine .q rfl (.add rfl rfl rfl (by omega) (by omega)) ?_
    refine .mv rfl (.nil ?_)
    refine o (j + 1) _ _ ?_ ?_ ⟨rfl, rfl, rfl, rfl, trivial⟩
    ·
     refine ⟨rfl, ?_⟩
     refine ⟨by omega, fun x hx => ?_⟩
     by_cases e : x < j
     · exact b4 x e
     · obtain rfl : x = j := by omega
       exact fun _ h hh => a4 h (by omega)
    omega
   try simp only [sps] at c8
   refine .exit ?_
   refine a0 _ _ (.region (.mv rfl ?_))
   refine .q rfl (.add rfl rfl rfl (by omega) (by omega)) ?_
   refine .mv rfl (.nil ?_)
   refine a8 (k + 1) _ _ ?_ ?_ ⟨rfl, rfl, rfl, trivial⟩
   ·
    refine ⟨rfl, ?_⟩
    refine ⟨by omega, fun x hx => ?_⟩
    by_cases e : x < k
    · exact d3 x e
    · obtain rfl : x = k := by omega
      exact fun g hg => b4 g (by omega)
   omega
  try simp only [sps] at c0
  refine .exit ?_
  refine a2 _ _ (.seq (fun K28 c6 => .region (.mv rfl (.mv rfl (.mv rfl (.mv rfl (.nil (c6 _ _ ?_))))))))
  refine .ret ?_
  refine b _ _ ?_
  refine ⟨_, _, _, _, rfl, rfl, rfl, rfl, ?_⟩
  exact ⟨s, _, _, _, _, rfl, fun _ => ⟨fun f hf => d1 f (by omega), fun f hf => d3 f (by omega)⟩, fun _ => rfl⟩
theorem l02Is_c {c : Cat} {p : CatP} {H : GHeap} (hin : c.In H p := by assumption) (hs : c.Small := by assumption) : GCalls Tryd.prog 23 [.agg (c.cells p).toArray] H (Ret (.bool (B c.Is)) H) := by
  refine GCalls.ret rfl ?_
  refine GCalls.body (N := 19) (rs := [.tmp 2]) Tryd.func23 rfl rfl rfl rfl (fun Qx a hend => ?_)
  refine .fg [0] rfl ?_
  refine .seq (fun K1 i => .region (.d rfl rfl rfl (.box rfl sz_29_D rfl CIs.mk) ?_))
  show GRun _ _ _ _ _ _ (H.push (.row (c.cells p) 29 true))
  have b := GHeap.le_push H (.row (c.cells p) 29 true)
  have hb : Cat.At (H.push (.row (c.cells p) 29 true)) H.next 0 c p := ⟨Mem.new _ _ _ _, hin.mono b⟩
  generalize H.push (.row (c.cells p) 29 true) = H1 at *
  generalize H.next = g at *
  have hm : MemN _ _ _ _ _ := ⟨rfl, hb.1⟩
  have hin1 := hb.2
  refine .mv rfl (.nil (i _ _ (.seq (fun K2 e => .seq (fun K3 l => .region ?_)))))
  refine .q rfl (.loadM ag_29_D rfl (by assumption)) ?_
  refine .callQ rfl rfl rfl rfl @Tryd.call46 rfl (specShape_c) ?_
  refine .q rfl (.not rfl) (.nil (l _ _ ?_))
  refine .cond rfl (fun h9 => ?_) (fun h9 => ?_)
  ·
   try simp only [sps] at h9
   refine .seq (fun K4 j => .region (.mv rfl (.nil (j _ _ ?_))))
   refine .ret ?_
   refine a _ _ ?_
   refine ⟨_, rfl, ?_⟩
   exact ⟨congrArg _ (B_false fun hI => h9 hI.1), b⟩
  try simp only [sps] at h9
  refine .skip ?_
  refine e _ _ (.seq (fun K5 f => .region ?_))
  refine .q rfl (.loadM ag_29_D rfl (by assumption)) ?_
  refine .call rfl rfl rfl rfl @Tryd.call47 rfl (l02Fault_c) ?_
  rintro _ _ ⟨rfl, kd, b1, b2, b3, rfl, hkd⟩
  refine .mv rfl (.q rfl (.extract rfl rfl) (.q rfl (.extract rfl rfl) (.q rfl (.extract rfl rfl) (.q rfl (.extract rfl rfl) (.mv rfl (.mv rfl (.mv rfl (.mv rfl (.nil (f _ _ (.seq (fun K6 k => .region (.mv rfl (.q rfl (.cmp rfl rfl rfl) (.mv rfl ?_)))))))))))))))
  refine .nil (k _ _ ?_)
  refine .ret ?_
  refine a _ _ ?_
  refine ⟨_, rfl, ?_⟩
  exact ⟨congrArg _ (by rw [Bool.eq_iff_iff, B_iff, beq_iff_eq, hkd]; exact ⟨fun h => h.2, fun h => ⟨h9, h⟩⟩), b⟩
end Go.Proofs.YtlfnclhkhmkklaaDoor
