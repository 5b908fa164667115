/- The smallest functions of the program, of the reference and of the laws' file: what each hands back. No condition but those of each statement. -/
import Derived.Test.YtfanjkbaemhbmaaZ5
import Derived.Test.YtfanjkbaemhbmaaProg
namespace Go.Proofs.Ytfanjkbaemhbmaa
open Go Go.GL Go.RowKit Go.Proofs
theorem sl_24_A : sliceT Try.prog 24 = some (2, 1) := by kernel_rfl
theorem on_2_A : oneT Try.prog 2 = true := by kernel_rfl
theorem aggEq_100 (a0 a1 b0 b1 : Int) : ∀ w, (Op.equal 100 (.agg #[.int .i64 a0, .int .i64 a1]) (.agg #[.int .i64 b0, .int .i64 b1])).run Try.prog w = .ok (a0 == b0 && a1 == b1) w := by
  intro w
  unfold Op.equal Op.maxDepth
  simp [go_sem, run_equalIn_agg]
  (repeat' split) <;> simp_all
theorem inRange_c {n lo hi : Int} {H : GHeap} : GCalls Try.prog 76 [.int .i64 n, .int .i64 lo, .int .i64 hi] H (Ret (.bool (inR n lo hi)) H) := by
  refine GCalls.body (N := 15) (rs := [.tmp 6]) Try.func76 rfl rfl rfl rfl (fun Qx a hend => ?_)
  refine .fg [0, 1, 2] rfl ?_
  refine .seq (fun K1 d => .region (.mv rfl (.nil (d _ _ (.seq (fun K2 c => .region (.mv rfl (.mv rfl (.q rfl (.cmp rfl rfl rfl) (.mv rfl ?_))))))))))
  refine .split (fun b => ?_) (fun b => ?_)
  ·
   try simp only [sps] at b
   refine .qg rfl (.move rfl) (.qg rfl (.move rfl) (.qg rfl (.cmp rfl rfl rfl) (.q rfl (.pickT rfl rfl) (.mv rfl (.nil (c _ _ ?_))))))
   refine .ret ?_
   refine a _ _ ?_
   refine ⟨_, rfl, ?_⟩
   exact .of (by simp [inR]; omega)
  try simp only [sps] at b
  refine .z rfl (.z rfl (.z rfl (.q rfl (.pickF rfl rfl) (.mv rfl (.nil (c _ _ ?_))))))
  refine .ret ?_
  refine a _ _ ?_
  refine ⟨_, rfl, ?_⟩
  exact .of (by simp [inR]; omega)
theorem l01In_c {n lo hi : Int} {H : GHeap} : GCalls Try.prog 87 [.int .i64 n, .int .i64 lo, .int .i64 hi] H (Ret (.bool (inR n lo hi)) H) := by
  refine GCalls.body (N := 15) (rs := [.tmp 6]) Try.func87 rfl rfl rfl rfl (fun Qx a hend => ?_)
  refine .fg [0, 1, 2] rfl ?_
  refine .seq (fun K1 d => .region (.mv rfl (.nil (d _ _ (.seq (fun K2 c => .region (.mv rfl (.mv rfl (.q rfl (.cmp rfl rfl rfl) (.mv rfl ?_))))))))))
  refine .split (fun b => ?_) (fun b => ?_)
  ·
   try simp only [sps] at b
   refine .qg rfl (.move rfl) (.qg rfl (.move rfl) (.qg rfl (.cmp rfl rfl rfl) (.q rfl (.pickT rfl rfl) (.mv rfl (.nil (c _ _ ?_))))))
   refine .ret ?_
   refine a _ _ ?_
   refine ⟨_, rfl, ?_⟩
   exact .of (by simp [inR]; omega)
  try simp only [sps] at b
  refine .z rfl (.z rfl (.z rfl (.q rfl (.pickF rfl rfl) (.mv rfl (.nil (c _ _ ?_))))))
  refine .ret ?_
  refine a _ _ ?_
  refine ⟨_, rfl, ?_⟩
  exact .of (by simp [inR]; omega)
theorem within_c {a : Option Addr} {xs : List Int} {n : Int} {H : GHeap} (h : Ints H a xs := by assumption) (hn : -9223372036854775808 < n := by omega) (hn' : n ≤ 9223372036854775807 := by omega) (hl : xs.length ≤ 1048576 := by omega) :
    GCalls Try.prog 85 [.slice a xs.length xs.length, .int .i64 n] H (Ret (.bool (allIn xs n)) H) := by
  refine GCalls.body (N := 19) (rs := [.tmp 4]) Try.func85 rfl rfl rfl rfl (fun Qx d hend => ?_)
  refine .fg [0, 1] rfl ?_
  refine .seq (fun K1 o => .region (.mv rfl (.nil (o _ _ (.seq (fun K2 m => .seq (fun K3 v => .region (.mv rfl (.q rfl (.len sl_24_A rfl) (.mv rfl (.nil (v _ _ ?_))))))))))))
  refine .block ?_
  refine .loopR (σ := Nat) [(1, some _), (7, some _), (8, some _)] (fun k => [(9, some (.int .i64 (k : Int)))]) (fun k H' => H = H' ∧ k ≤ xs.length ∧ ∀ i, i < k → inR (xs.getD i 0) 0 (n - 1) = true) (fun k => xs.length - k) (0) ⟨rfl, rfl, rfl, trivial⟩ ⟨rfl, trivial⟩ ?_ ?_
  ·
   refine ⟨rfl, ?_⟩
   exact ⟨by omega, fun i hi => by omega⟩
  rintro k _ ⟨rfl, hI⟩ KL1 f
  refine .forget (fr' := [(9, some (.int .i64 (k : Int))), (1, some _), (7, some _), (8, some _)]) ⟨rfl, rfl, rfl, rfl, trivial⟩ ?_
  obtain ⟨hk, b⟩ := hI
  refine .seq (fun K4 u => .region (.q rfl (.cmp rfl rfl rfl) (.nil (u _ _ (.seq (fun K5 p => ?_))))))
  refine .cond rfl (fun j => ?_) (fun j => ?_)
  ·
   try simp only [sps] at j
   refine .skip ?_
   refine p _ _ (.seq (fun K6 s => ?_))
   refine .block ?_
   refine .seq (fun K7 r => .region ?_)
   refine .q rfl (.idxN sl_24_A (by assumption) rfl rfl (by omega)) ?_
   refine .q rfl (.loadI on_2_A (by assumption) rfl (by omega)) ?_
   refine .mv rfl (.nil (r _ _ (.seq (fun K8 t => .region (.mv rfl (.mv rfl ?_))))))
   refine .q rfl (.sub rfl rfl rfl (by omega) (by omega)) ?_
   refine .callQ rfl rfl rfl rfl @Try.call76 rfl (inRange_c) ?_
   refine .q rfl (.not rfl) (.nil (t _ _ ?_))
   refine .cond rfl (fun c => ?_) (fun c => ?_)
   ·
    try simp only [sps] at c
    refine .seq (fun K9 l => .region (.mv rfl (.nil (l _ _ ?_))))
    refine .ret ?_
    refine d _ _ ?_
    refine ⟨_, rfl, ?_⟩
    exact .of (congrArg _ (allN_not (i := k) (by omega) (inR_not.2 c)))
   try simp only [sps] at c
   refine .skip ?_
   refine s _ _ (.region ?_)
   refine .q rfl (.add rfl rfl rfl (by omega) (by omega)) ?_
   refine .mv rfl (.nil ?_)
   refine f (k + 1) _ _ ?_ ?_ ⟨rfl, rfl, rfl, rfl, trivial⟩
   ·
    refine ⟨rfl, ?_⟩
    refine ⟨by omega, fun i hi => ?_⟩
    by_cases e : i < k
    · exact b i e
    · obtain rfl : i = k := by omega
      exact inR_iff.2 c
   omega
  try simp only [sps] at j
  refine .exit ?_
  refine m _ _ (.seq (fun K10 g => .region (.mv rfl (.nil (g _ _ ?_)))))
  refine .ret ?_
  refine d _ _ ?_
  refine ⟨_, rfl, ?_⟩
  exact .of (congrArg _ (allN_of fun i hi => b i (by omega)))
theorem l01Map_c {a : Option Addr} {xs : List Int} {n : Int} {H : GHeap} (h : Ints H a xs := by assumption) (hl : xs.length ≤ 1048576 := by omega) :
    GCalls Try.prog 89 [.int .i64 n, .slice a xs.length xs.length] H (Ret (.bool (allIn xs n)) H) := by
  refine GCalls.body (N := 25) (rs := [.tmp 4]) Try.func89 rfl rfl rfl rfl (fun Qx b hend => ?_)
  refine .fg [0, 1] rfl ?_
  refine .seq (fun K1 p => .region (.mv rfl (.nil (p _ _ (.seq (fun K2 o => .seq (fun K3 v => .region (.mv rfl (.nil (v _ _ ?_))))))))))
  refine .block ?_
  refine .loopR (σ := Nat) [(0, some _), (1, some _)] (fun k => [(5, some (.int .i64 (k : Int)))]) (fun k H' => H = H' ∧ k ≤ xs.length ∧ ∀ i, i < k → inR (xs.getD i 0) 0 (n - 1) = true) (fun k => xs.length - k) (0) ⟨rfl, rfl, trivial⟩ ⟨rfl, trivial⟩ ?_ ?_
  ·
   refine ⟨rfl, ?_⟩
   exact ⟨by omega, fun i hi => by omega⟩
  rintro k _ ⟨rfl, hI⟩ KL1 g
  refine .forget (fr' := [(5, some (.int .i64 (k : Int))), (0, some _), (1, some _)]) ⟨rfl, rfl, rfl, trivial⟩ ?_
  obtain ⟨hk, c⟩ := hI
  refine .seq (fun K4 u => .seq (fun K5 r => .region (.mv rfl (.mv rfl (.q rfl (.len sl_24_A rfl) (.q rfl (.cmp rfl rfl rfl) (.nil (r _ _ ?_))))))))
  refine .cond rfl (fun h9 => ?_) (fun h9 => ?_)
  ·
   try simp only [sps] at h9
   refine .skip ?_
   refine u _ _ (.seq (fun K6 s => ?_))
   refine .block ?_
   refine .seq (fun K7 l => .region (.mv rfl (.mv rfl ?_)))
   refine .q rfl (.idxN sl_24_A (by assumption) rfl rfl (by omega)) ?_
   refine .q rfl (.loadI on_2_A (by assumption) rfl (by omega)) ?_
   refine .q rfl (.cmp rfl rfl rfl) (.mv rfl ?_)
   refine .split (fun d => ?_) (fun d => ?_)
   ·
    try simp only [sps] at d
    refine .z rfl (.z rfl (.z rfl (.z rfl (.z rfl (.z rfl (.q rfl (.pickT rfl rfl) (.nil (l _ _ ?_))))))))
    refine .condT rfl ?_
    refine .seq (fun K8 t => .region (.mv rfl (.nil (t _ _ ?_))))
    refine .ret ?_
    refine b _ _ ?_
    refine ⟨_, rfl, ?_⟩
    exact .of (congrArg _ (allN_not (i := k) (by omega) (inR_not.2 (.inl d))))
   try simp only [sps] at d
   refine .qg rfl (.move rfl) (.qg rfl (.move rfl) ?_)
   refine .qg rfl (.idxN sl_24_A (by assumption) rfl rfl (by omega)) ?_
   refine .qg rfl (.loadI on_2_A (by assumption) rfl (by omega)) ?_
   refine .qg rfl (.move rfl) (.qg rfl (.cmp rfl rfl rfl) (.q rfl (.pickF rfl rfl) (.nil (l _ _ ?_))))
   refine .cond rfl (fun f => ?_) (fun f => ?_)
   ·
    try simp only [sps] at f
    refine .seq (fun K9 m => .region (.mv rfl (.nil (m _ _ ?_))))
    refine .ret ?_
    refine b _ _ ?_
    refine ⟨_, rfl, ?_⟩
    exact .of (congrArg _ (allN_not (i := k) (by omega) (inR_not.2 (.inr (by simp at f ⊢; omega)))))
   try simp only [sps] at f
   refine .skip ?_
   refine s _ _ (.region (.mv rfl ?_))
   refine .q rfl (.add rfl rfl rfl (by omega) (by omega)) ?_
   refine .mv rfl (.nil ?_)
   refine g (k + 1) _ _ ?_ ?_ ⟨rfl, rfl, rfl, trivial⟩
   ·
    refine ⟨rfl, ?_⟩
    refine ⟨by omega, fun i hi => ?_⟩
    by_cases e : i < k
    · exact c i e
    · obtain rfl : i = k := by omega
      exact inR_iff.2 ⟨d, by omega⟩
   omega
  try simp only [sps] at h9
  refine .exit ?_
  refine o _ _ (.seq (fun K10 j => .region (.mv rfl (.nil (j _ _ ?_)))))
  refine .ret ?_
  refine b _ _ ?_
  refine ⟨_, rfl, ?_⟩
  exact .of (congrArg _ (allN_of fun i hi => c i (by omega)))
end Go.Proofs.Ytfanjkbaemhbmaa
namespace Go.Proofs.Ytfanjkbaemhbmaa
open Go Go.GL Go.RowKit Go.Proofs
theorem fo_27_1_B : fieldOff Try.prog 27 1 = some 1 := by kernel_rfl
theorem on_24_B : oneT Try.prog 24 = true := by kernel_rfl
theorem ze_100_B : zeroT Try.prog 100 = some ([.int .i64 0, .int .i64 0], 2) := by kernel_rfl
theorem mo_B : Try.prog.follows .mixedOrders = true := by kernel_rfl
theorem fo_27_2_B : fieldOff Try.prog 27 2 = some 2 := by kernel_rfl
theorem bt_100_B : buildT Try.prog 100 = some ([.int .i64 0, .int .i64 0], [(0, 1), (1, 1)]) := by kernel_rfl
theorem sz_100_B : (Try.prog.info? 100).map (·.size) = some 2 := by kernel_rfl
theorem ag_100_B : aggT Try.prog 100 = some 2 := by kernel_rfl
theorem fo_27_4_B : fieldOff Try.prog 27 4 = some 4 := by kernel_rfl
theorem on_25_B : oneT Try.prog 25 = true := by kernel_rfl
theorem sl_25_B : sliceT Try.prog 25 = some (24, 1) := by kernel_rfl
theorem fo_27_0_B : fieldOff Try.prog 27 0 = some 0 := by kernel_rfl
theorem fo_27_3_B : fieldOff Try.prog 27 3 = some 3 := by kernel_rfl
theorem eg_100_B : Try.prog.eqGuardType Try.prog.depth 100 = false := by kernel_rfl
theorem arrows_c {g o : Nat} {c : Cat} {p : CatP} {H : GHeap} (h : Cat.At H g o c p := by assumption) : GCalls Try.prog 67 [.pointer (some ⟨g, o, none⟩)] H (Ret (.int .i64 c.src.length) H) := by
  refine GCalls.body (N := 8) (rs := [.tmp 2]) Try.func67 rfl rfl rfl rfl (fun Qx a hend => ?_)
  refine .fg [0] rfl ?_
  obtain ⟨c0, c1, c2, c3, c4, i1, i2, i3, i4⟩ := h.get
  refine .seq (fun K1 d => .region (.mv rfl (.nil (d _ _ (.seq (fun K2 b => .region (.mv rfl (.q rfl (.nilCheck rfl) (.q rfl (.fieldAddr fo_27_1_B rfl) ?_)))))))))
  refine .q rfl (.load on_24_B rfl (by assumption)) ?_
  refine .q rfl (.len sl_24_A rfl) (.mv rfl (.nil (b _ _ ?_)))
  refine .ret ?_
  refine a _ _ ?_
  refine ⟨_, rfl, ?_⟩
  exact .mk
theorem ends_c {g o : Nat} {c : Cat} {p : CatP} {f : Int} {H : GHeap} (h : Cat.At H g o c p := by assumption) (h0 : 0 ≤ f := by omega) (h1 : f < c.src.length := by omega) (h2 : f < c.tgt.length := by omega) :
    GCalls Try.prog 86 [.pointer (some ⟨g, o, none⟩), .int .i64 f] H (Ret (.agg #[.int .i64 (c.src.getD f.toNat 0), .int .i64 (c.tgt.getD f.toNat 0)]) H) := by
  refine GCalls.ret rfl ?_
  refine GCalls.body (N := 20) (rs := [.cell 4 100]) Try.func86 rfl rfl rfl rfl (fun Qx a hend => ?_)
  refine .fg [0, 1] rfl ?_
  refine .seq (fun K1 e => .region (.d rfl rfl rfl (.alloc rfl ze_100_B rfl CIs.mk) ?_))
  replace h := h.mono (GHeap.le_push H (.row [.int .i64 0, .int .i64 0] 100 true))
  have i := GHeap.le_push H (.row [.int .i64 0, .int .i64 0] 100 true)
  have hn := GHeap.get_push_new H (.row [.int .i64 0, .int .i64 0] 100 true)
  generalize H.push (.row [.int .i64 0, .int .i64 0] 100 true) = H1 at *
  obtain ⟨-, c1, c2, -, -, i1, i2, -, -⟩ := h.get
  refine .nil (e _ _ (.seq (fun K2 b => ?_)))
  refine .regionD mo_B (.q 0 (.q 1 (.q 2 (.q 3 (.q 4 (.q 5 (.q 6 (.q 7 (.q 8 (.q 9 (.q 10 (.q 11 (.q 12 (.q 13 (.q 14 (.c 15 0 (.done))))))))))))))))) (by kernel_rfl) ?_
  refine .mv rfl rfl (.q rfl (.nilCheck rfl) (.q rfl (.fieldAddr fo_27_1_B rfl) ?_))
  refine .q rfl (.load on_24_B rfl (by assumption)) ?_
  refine .mv rfl rfl ?_
  refine .q rfl (.idx1 sl_24_A (by assumption) rfl rfl (by omega) (by omega)) ?_
  refine .q rfl (.loadI on_2_A (by assumption) rfl (by omega)) ?_
  refine .mv rfl rfl (.q rfl (.nilCheck rfl) (.q rfl (.fieldAddr fo_27_2_B rfl) ?_))
  refine .q rfl (.load on_24_B rfl (by assumption)) ?_
  refine .mv rfl rfl ?_
  refine .q rfl (.idx1 sl_24_A (by assumption) rfl rfl (by omega) (by omega)) ?_
  refine .q rfl (.loadI on_2_A (by assumption) rfl (by omega)) ?_
  refine .q rfl (.build bt_100_B rfl rfl rfl) ?_
  refine .s0 rfl rfl rfl (.storeN rfl sz_100_B rfl rfl rfl rfl (by assumption) (by simp) CIs.mk) ?_
  refine .done ?_
  refine b _ _ ?_
  refine .ret ?_
  refine a _ _ ?_
  refine ⟨_, _, _, _, rfl, ag_100_B, (by rfl), (Mem.of_get (GHeap.get_set_eq (GHeap.ltg hn))), ?_⟩
  exact ⟨rfl, i.set_new (Nat.le_refl _)⟩
theorem then_c {g o : Nat} {c : Cat} {p : CatP} {f k : Int} {H : GHeap} (h : Cat.At H g o c p := by assumption) (h0 : 0 ≤ f := by omega) (h1 : f < c.comp.length := by omega) (h2 : 0 ≤ k := by omega) (h3 : k < (c.comp.getD f.toNat []).length := by omega) :
    GCalls Try.prog 79 [.pointer (some ⟨g, o, none⟩), .int .i64 f, .int .i64 k] H (Ret (.int .i64 ((c.comp.getD f.toNat []).getD k.toNat 0)) H) := by
  refine GCalls.body (N := 17) (rs := [.tmp 6]) Try.func79 rfl rfl rfl rfl (fun Qx a hend => ?_)
  refine .fg [0, 1, 2] rfl ?_
  obtain ⟨c0, c1, c2, c3, c4, i1, i2, i3, i4⟩ := h.get
  have hrow := i4.2 f.toNat (by omega)
  have hi4 := i4
  refine .seq (fun K1 d => .region (.mv rfl (.nil (d _ _ (.seq (fun K2 b => .region (.mv rfl (.q rfl (.nilCheck rfl) (.q rfl (.fieldAddr fo_27_4_B rfl) ?_)))))))))
  refine .q rfl (.load on_25_B rfl (by assumption)) ?_
  refine .mv rfl ?_
  refine .q rfl (.idx1 sl_25_B (Intss.sl (by assumption)) rfl rfl (by omega) (by omega)) ?_
  refine .q rfl (.loadR on_24_B (by assumption) rfl (by omega)) ?_
  refine .mv rfl ?_
  refine .q rfl (.idx1 sl_24_A (by assumption) rfl rfl (by omega) (by omega)) ?_
  refine .q rfl (.loadI on_2_A (by assumption) rfl (by omega)) ?_
  refine .mv rfl (.nil (b _ _ ?_))
  refine .ret ?_
  refine a _ _ ?_
  refine ⟨_, rfl, ?_⟩
  exact .mk
theorem isShape_c {g o : Nat} {c : Cat} {p : CatP} {H : GHeap} (h : Cat.At H g o c p := by assumption) (hs : c.Small := by assumption) : GCalls Try.prog 51 [.pointer (some ⟨g, o, none⟩)] H (Ret (.bool (B c.Shape)) H) := by
  refine GCalls.body (N := 167) (rs := [.tmp 2]) Try.func51 rfl rfl rfl rfl (fun Qx a hend => ?_)
  refine .fg [0] rfl ?_
  obtain ⟨c0, c1, c2, c3, c4, i1, i2, i3, i4⟩ := h.get
  obtain ⟨s1, s2, s3, -, -, s6⟩ := hs
  refine .seq (fun K1 f2 => .region (.mv rfl (.nil (f2 _ _ (.seq (fun K2 f5 => .region (.mv rfl ?_)))))))
  refine .callQ rfl rfl rfl rfl @Try.call67 rfl (arrows_c) ?_
  refine .mv rfl (.nil (f5 _ _ (.seq (fun K3 f6 => .seq (fun K4 y => ?_)))))
  refine .regionD mo_B (.q 0 (.q 1 (.q 2 (.q 3 (.c 4 0 (.q 5 (.q 6 (.q 7 (.q 8 (.q 9 (.q 10 (.q 11 (.q 12 (.q 13 (.q 14 (.q 15 (.q 16 (.q 17 (.q 18 (.q 19 (.q 20 (.q 21 (.q 22 (.q 23 (.q 24 (.q 25 (.q 26 (.q 27 (.c 28 0 (.q 29 (.q 30 (.q 31 (.q 32 (.q 33 (.q 34 (.q 35 (.q 36 (.q 37 (.q 38 (.q 39 (.c 40 0 (.q 41 (.q 42 (.done)))))))))))))))))))))))))))))))))))))))))))) (by kernel_rfl) ?_
  refine .mv rfl rfl (.q rfl (.nilCheck rfl) (.q rfl (.fieldAddr fo_27_0_B rfl) ?_))
  refine .q rfl (.load on_2_A rfl (by assumption)) ?_
  refine .callQ0 rfl rfl rfl rfl rfl @Try.call76 rfl (inRange_c) ?_
  refine .q rfl (.not rfl) (.mv rfl rfl ?_)
  refine .split (fun a3 => ?_) (fun a3 => ?_)
  ·
   try simp only [sps] at a3
   refine .z rfl (.z rfl (.q rfl (.pickT rfl rfl) (.mv rfl rfl (.z rfl (.z rfl (.z rfl (.z rfl (.z rfl (.z rfl (.z rfl (.q rfl (.pickT rfl rfl) (.mv rfl rfl (.z rfl (.z rfl (.z rfl ?_)))))))))))))))
   refine .z rfl (.z rfl (.z rfl (.z rfl (.z rfl (.sgc rfl rfl rfl rfl rfl rfl (.z rfl (.q rfl (.pickT rfl rfl) (.mv rfl rfl (.z rfl (.z rfl (.z rfl (.z rfl (.z rfl (.z rfl (.z rfl ?_)))))))))))))))
   refine .z rfl (.sgc rfl rfl rfl rfl rfl rfl (.z rfl (.q rfl (.pickT rfl rfl) ?_)))
   refine .done ?_
   refine y _ _ ?_
   refine .condT rfl ?_
   refine .seq (fun K5 f8 => .region (.mv rfl (.nil (f8 _ _ ?_))))
   refine .ret ?_
   refine a _ _ ?_
   refine ⟨_, rfl, ?_⟩
   exact .of (congrArg _ (B_false fun hS => by have q1 := hS.obj; have q2 := hS.n40; have q3 := hS.tl; have q4 := hS.il; have q5 := hS.cl; omega))
  try simp only [sps] at a3
  refine .qg rfl (.move rfl) (.qg rfl (.cmp rfl rfl rfl) (.q rfl (.pickF rfl rfl) (.mv rfl rfl ?_)))
  refine .split (fun e6 => ?_) (fun e6 => ?_)
  ·
   try simp only [sps] at e6
   refine .z rfl (.z rfl (.z rfl (.z rfl (.z rfl (.z rfl (.z rfl (.q rfl (.pickT rfl rfl) (.mv rfl rfl (.z rfl (.z rfl (.z rfl (.z rfl (.z rfl (.z rfl (.z rfl ?_)))))))))))))))
   refine .z rfl (.sgc rfl rfl rfl rfl rfl rfl (.z rfl (.q rfl (.pickT rfl rfl) (.mv rfl rfl (.z rfl (.z rfl (.z rfl (.z rfl (.z rfl (.z rfl (.z rfl (.z rfl (.sgc rfl rfl rfl rfl rfl rfl (.z rfl (.q rfl (.pickT rfl rfl) ?_)))))))))))))))
   refine .done ?_
   refine y _ _ ?_
   refine .condT rfl ?_
   refine .seq (fun K6 f3 => .region (.mv rfl (.nil (f3 _ _ ?_))))
   refine .ret ?_
   refine a _ _ ?_
   refine ⟨_, rfl, ?_⟩
   exact .of (congrArg _ (B_false fun hS => by have q1 := hS.obj; have q2 := hS.n40; have q3 := hS.tl; have q4 := hS.il; have q5 := hS.cl; omega))
  try simp only [sps] at e6
  refine .qg rfl (.move rfl) (.qg rfl (.nilCheck rfl) (.qg rfl (.fieldAddr fo_27_2_B rfl) ?_))
  refine .qg rfl (.load on_24_B rfl (by assumption)) ?_
  refine .qg rfl (.len sl_24_A rfl) (.qg rfl (.move rfl) (.qg rfl (.cmp rfl rfl rfl) (.q rfl (.pickF rfl rfl) (.mv rfl rfl ?_))))
  refine .split (fun e1 => ?_) (fun e1 => ?_)
  ·
   try simp only [sps] at e1
   refine .z rfl (.z rfl (.z rfl (.z rfl (.z rfl (.z rfl (.z rfl (.z rfl (.sgc rfl rfl rfl rfl rfl rfl (.z rfl (.q rfl (.pickT rfl rfl) (.mv rfl rfl (.z rfl (.z rfl (.z rfl (.z rfl ?_)))))))))))))))
   refine .z rfl (.z rfl (.z rfl (.z rfl (.sgc rfl rfl rfl rfl rfl rfl (.z rfl (.q rfl (.pickT rfl rfl) ?_))))))
   refine .done ?_
   refine y _ _ ?_
   refine .condT rfl ?_
   refine .seq (fun K7 f9 => .region (.mv rfl (.nil (f9 _ _ ?_))))
   refine .ret ?_
   refine a _ _ ?_
   refine ⟨_, rfl, ?_⟩
   exact .of (congrArg _ (B_false fun hS => by have q1 := hS.obj; have q2 := hS.n40; have q3 := hS.tl; have q4 := hS.il; have q5 := hS.cl; omega))
  try simp only [sps] at e1
  refine .qg rfl (.move rfl) (.qg rfl (.nilCheck rfl) (.qg rfl (.fieldAddr fo_27_1_B rfl) ?_))
  refine .qg rfl (.load on_24_B rfl (by assumption)) ?_
  refine .qg rfl (.move rfl) (.qg rfl (.nilCheck rfl) (.qg rfl (.fieldAddr fo_27_0_B rfl) ?_))
  refine .qg rfl (.load on_2_A rfl (by assumption)) ?_
  refine .callQ0g rfl rfl rfl rfl rfl rfl rfl @Try.call85 rfl (within_c) ?_
  refine .qg rfl (.not rfl) (.q rfl (.pickF rfl rfl) (.mv rfl rfl ?_))
  refine .split (fun u => ?_) (fun u => ?_)
  ·
   try simp only [sps] at u
   refine .z rfl (.z rfl (.z rfl (.z rfl (.z rfl (.z rfl (.z rfl (.z rfl (.sgc rfl rfl rfl rfl rfl rfl (.z rfl (.q rfl (.pickT rfl rfl) ?_))))))))))
   refine .done ?_
   refine y _ _ ?_
   refine .condT rfl ?_
   refine .seq (fun K8 f4 => .region (.mv rfl (.nil (f4 _ _ ?_))))
   refine .ret ?_
   refine a _ _ ?_
   refine ⟨_, rfl, ?_⟩
   exact .of (congrArg _ (B_false fun hS => by rw [allIn_iff.2 hS.src] at u; cases u))
  try simp only [sps] at u
  refine .qg rfl (.move rfl) (.qg rfl (.nilCheck rfl) (.qg rfl (.fieldAddr fo_27_2_B rfl) ?_))
  refine .qg rfl (.load on_24_B rfl (by assumption)) ?_
  refine .qg rfl (.move rfl) (.qg rfl (.nilCheck rfl) (.qg rfl (.fieldAddr fo_27_0_B rfl) ?_))
  refine .qg rfl (.load on_2_A rfl (by assumption)) ?_
  refine .callQ0g rfl rfl rfl rfl rfl rfl rfl @Try.call85 rfl (within_c) ?_
  refine .qg rfl (.not rfl) (.q rfl (.pickF rfl rfl) ?_)
  refine .done ?_
  refine y _ _ ?_
  refine .cond rfl (fun v => ?_) (fun v => ?_)
  ·
   try simp only [sps] at v
   refine .seq (fun K9 f7 => .region (.mv rfl (.nil (f7 _ _ ?_))))
   refine .ret ?_
   refine a _ _ ?_
   refine ⟨_, rfl, ?_⟩
   exact .of (congrArg _ (B_false fun hS => by rw [allIn_iff.2 hS.tgt] at v; cases v))
  try simp only [sps] at v
  refine .skip ?_
  refine f6 _ _ (.seq (fun K10 d1 => .seq (fun K11 m => ?_)))
  refine .regionD mo_B (.q 0 (.q 1 (.q 2 (.q 3 (.q 4 (.q 5 (.q 6 (.q 7 (.q 8 (.q 9 (.q 10 (.q 11 (.q 12 (.q 13 (.q 14 (.q 15 (.c 16 0 (.q 17 (.q 18 (.q 19 (.q 20 (.q 21 (.q 22 (.q 23 (.q 24 (.q 25 (.q 26 (.q 27 (.done))))))))))))))))))))))))))))) (by kernel_rfl) ?_
  refine .mv rfl rfl (.q rfl (.nilCheck rfl) (.q rfl (.fieldAddr fo_27_3_B rfl) ?_))
  refine .q rfl (.load on_24_B rfl (by assumption)) ?_
  refine .q rfl (.len sl_24_A rfl) (.mv rfl rfl (.q rfl (.nilCheck rfl) (.q rfl (.fieldAddr fo_27_0_B rfl) ?_)))
  refine .q rfl (.load on_2_A rfl (by assumption)) ?_
  refine .q rfl (.cmp rfl rfl rfl) (.mv rfl rfl ?_)
  refine .split (fun d3 => ?_) (fun d3 => ?_)
  ·
   try simp only [sps] at d3
   refine .z rfl (.z rfl (.z rfl (.z rfl (.z rfl (.sgc rfl rfl rfl rfl rfl rfl (.z rfl (.q rfl (.pickT rfl rfl) (.mv rfl rfl (.z rfl (.z rfl (.z rfl (.z rfl (.z rfl (.z rfl (.z rfl ?_)))))))))))))))
   refine .q rfl (.pickT rfl rfl) ?_
   refine .done ?_
   refine m _ _ ?_
   refine .condT rfl ?_
   refine .seq (fun K12 d9 => .region (.mv rfl (.nil (d9 _ _ ?_))))
   refine .ret ?_
   refine a _ _ ?_
   refine ⟨_, rfl, ?_⟩
   exact .of (congrArg _ (B_false fun hS => by have q1 := hS.obj; have q2 := hS.n40; have q3 := hS.tl; have q4 := hS.il; have q5 := hS.cl; omega))
  try simp only [sps] at d3
  refine .qg rfl (.move rfl) (.qg rfl (.nilCheck rfl) (.qg rfl (.fieldAddr fo_27_3_B rfl) ?_))
  refine .qg rfl (.load on_24_B rfl (by assumption)) ?_
  refine .qg rfl (.move rfl) ?_
  refine .callQ0g rfl rfl rfl rfl rfl rfl rfl @Try.call85 rfl (within_c) ?_
  refine .qg rfl (.not rfl) (.q rfl (.pickF rfl rfl) (.mv rfl rfl ?_))
  refine .split (fun s => ?_) (fun s => ?_)
  ·
   try simp only [sps] at s
   refine .z rfl (.z rfl (.z rfl (.z rfl (.z rfl (.z rfl (.z rfl (.q rfl (.pickT rfl rfl) ?_)))))))
   refine .done ?_
   refine m _ _ ?_
   refine .condT rfl ?_
   refine .seq (fun K13 a4 => .region (.mv rfl (.nil (a4 _ _ ?_))))
   refine .ret ?_
   refine a _ _ ?_
   refine ⟨_, rfl, ?_⟩
   exact .of (congrArg _ (B_false fun hS => by rw [allIn_iff.2 hS.idn] at s; cases s))
  try simp only [sps] at s
  refine .qg rfl (.move rfl) (.qg rfl (.nilCheck rfl) (.qg rfl (.fieldAddr fo_27_4_B rfl) ?_))
  refine .qg rfl (.load on_25_B rfl (by assumption)) ?_
  refine .qg rfl (.len sl_25_B rfl) (.qg rfl (.move rfl) (.qg rfl (.cmp rfl rfl rfl) (.q rfl (.pickF rfl rfl) ?_)))
  refine .done ?_
  refine m _ _ ?_
  refine .cond rfl (fun a5 => ?_) (fun a5 => ?_)
  ·
   try simp only [sps] at a5
   refine .seq (fun K14 c7 => .region (.mv rfl (.nil (c7 _ _ ?_))))
   refine .ret ?_
   refine a _ _ ?_
   refine ⟨_, rfl, ?_⟩
   exact .of (congrArg _ (B_false fun hS => by have q1 := hS.obj; have q2 := hS.n40; have q3 := hS.tl; have q4 := hS.il; have q5 := hS.cl; omega))
  try simp only [sps] at a5
  refine .skip ?_
  refine d1 _ _ (.seq (fun K15 b1 => .seq (fun K16 b6 => .region (.mv rfl (.q rfl (.nilCheck rfl) (.q rfl (.fieldAddr fo_27_3_B rfl) ?_))))))
  refine .q rfl (.load on_24_B rfl (by assumption)) ?_
  refine .q rfl (.len sl_24_A rfl) (.mv rfl (.nil (b6 _ _ ?_)))
  refine .block ?_
  refine .loopR (σ := Nat) [(0, some _), (3, some _), (86, some _), (87, some _)] (fun k => [(88, some (.int .i64 (k : Int)))]) (fun k H' => H = H' ∧ k ≤ c.idn.length ∧ ∀ x, x < k → c.src.getD (c.idn.getD x 0).toNat 0 = x ∧ c.tgt.getD (c.idn.getD x 0).toNat 0 = x) (fun k => c.idn.length - k) (0) ⟨rfl, rfl, rfl, rfl, trivial⟩ ⟨rfl, trivial⟩ ?_ ?_
  ·
   refine ⟨rfl, ?_⟩
   exact ⟨by omega, fun x hx => by omega⟩
  rintro k _ ⟨rfl, hI⟩ KL1 c9
  refine .forget (fr' := [(88, some (.int .i64 (k : Int))), (0, some _), (3, some _), (86, some _), (87, some _)]) ⟨rfl, rfl, rfl, rfl, rfl, trivial⟩ ?_
  obtain ⟨hk1, f1⟩ := hI
  refine .seq (fun K17 a7 => .region (.q rfl (.cmp rfl rfl rfl) (.nil (a7 _ _ (.seq (fun K18 e5 => ?_))))))
  refine .cond rfl (fun e7 => ?_) (fun e7 => ?_)
  ·
   simp only [decide_eq_true_eq] at e7
   have q1 := s k (by omega)
   refine .skip ?_
   refine e5 _ _ (.seq (fun K19 d0 => ?_))
   refine .block ?_
   refine .seq (fun K20 e3 => .region (.mv rfl ?_))
   refine .q rfl (.idxN sl_24_A (by assumption) rfl rfl (by omega)) ?_
   refine .q rfl (.loadI on_2_A (by assumption) rfl (by omega)) ?_
   refine .mv rfl (.mv rfl (.nil (e3 _ _ (.seq (fun K21 e0 => .region (.mv rfl (.mv rfl ?_)))))))
   refine .callQ rfl rfl rfl rfl @Try.call86 rfl (ends_c) ?_
   refine .mv rfl (.mv rfl (.q rfl (.build bt_100_B rfl rfl rfl) (.q rfl (.aggNe eg_100_B rfl rfl rfl rfl (aggEq_100 _ _ _ _)) (.nil (e0 _ _ ?_)))))
   refine .cond rfl (fun a2 => ?_) (fun a2 => ?_)
   ·
    try simp only [sps] at a2
    refine .seq (fun K22 d8 => .region (.mv rfl (.nil (d8 _ _ ?_))))
    refine .ret ?_
    refine a _ _ ?_
    refine ⟨_, rfl, ?_⟩
    exact .of (congrArg _ (B_false fun hS => by have := hS.ids k (by omega); omega))
   try simp only [sps] at a2
   refine .skip ?_
   refine d0 _ _ (.region ?_)
   refine .q rfl (.add rfl rfl rfl (by omega) (by omega)) ?_
   refine .mv rfl (.nil ?_)
   refine c9 (k + 1) _ _ ?_ ?_ ⟨rfl, rfl, rfl, rfl, rfl, trivial⟩
   ·
    refine ⟨rfl, ?_⟩
    refine ⟨by omega, fun x hx => ?_⟩
    by_cases e : x < k
    · exact f1 x e
    · obtain rfl : x = k := by omega
      exact a2
   omega
  try simp only [sps] at e7
  refine .exit ?_
  refine b1 _ _ (.seq (fun K23 a6 => .seq (fun K24 b9 => .region (.mv rfl (.q rfl (.nilCheck rfl) (.q rfl (.fieldAddr fo_27_4_B rfl) ?_))))))
  refine .q rfl (.load on_25_B rfl (by assumption)) ?_
  refine .q rfl (.len sl_25_B rfl) (.mv rfl (.nil (b9 _ _ ?_)))
  refine .block ?_
  refine .loopR (σ := Nat) [(0, some _), (3, some _), (104, some _), (105, some _)] (fun k => [(106, some (.int .i64 (k : Int)))]) (fun k H' => H = H' ∧ k ≤ c.comp.length ∧ ∀ f, f < k → (c.comp.getD f []).length = c.src.length ∧ ∀ g, g < c.src.length → c.Cell f g) (fun k => c.comp.length - k) (0) ⟨rfl, rfl, rfl, rfl, trivial⟩ ⟨rfl, trivial⟩ ?_ ?_
  ·
   refine ⟨rfl, ?_⟩
   exact ⟨by omega, fun x hx => by omega⟩
  rintro k _ ⟨rfl, hI⟩ KL2 f0
  refine .forget (fr' := [(106, some (.int .i64 (k : Int))), (0, some _), (3, some _), (104, some _), (105, some _)]) ⟨rfl, rfl, rfl, rfl, rfl, trivial⟩ ?_
  obtain ⟨hk2, e4⟩ := hI
  refine .seq (fun K25 e2 => .region (.q rfl (.cmp rfl rfl rfl) (.nil (e2 _ _ (.seq (fun K26 c6 => ?_))))))
  refine .cond rfl (fun n => ?_) (fun n => ?_)
  ·
   simp only [decide_eq_true_eq] at n
   have i5 := i4.2 k (by omega)
   refine .skip ?_
   refine c6 _ _ (.seq (fun K27 e9 => ?_))
   refine .block ?_
   refine .seq (fun K28 d6 => .region (.mv rfl ?_))
   refine .q rfl (.idxN sl_25_B (Intss.sl (by assumption)) rfl rfl (by omega)) ?_
   refine .q rfl (.loadR on_24_B (by assumption) rfl (by omega)) ?_
   refine .mv rfl (.mv rfl (.nil (d6 _ _ (.seq (fun K29 b2 => .seq (fun K30 d5 => .region (.mv rfl (.q rfl (.len sl_24_A rfl) (.mv rfl (.q rfl (.cmp rfl rfl rfl) (.nil (d5 _ _ ?_))))))))))))
   refine .cond rfl (fun t => ?_) (fun t => ?_)
   ·
    try simp only [sps] at t
    refine .seq (fun K31 d2 => .region (.mv rfl (.nil (d2 _ _ ?_))))
    refine .ret ?_
    refine a _ _ ?_
    refine ⟨_, rfl, ?_⟩
    exact .of (congrArg _ (B_false fun hS => by have := hS.row k (by omega); omega))
   try simp only [sps] at t
   refine .skip ?_
   refine b2 _ _ (.seq (fun K32 c8 => .region (.mv rfl (.q rfl (.len sl_24_A rfl) (.mv rfl (.nil (c8 _ _ ?_)))))))
   refine .block ?_
   refine .loopR (σ := Nat) [(0, some _), (3, some _), (6, some _), (104, some _), (105, some _), (106, some _), (115, some _), (116, some _)] (fun j => [(117, some (.int .i64 (j : Int)))]) (fun j H' => H = H' ∧ j ≤ (c.comp.getD k []).length ∧ ∀ g, g < j → c.Cell k g) (fun j => (c.comp.getD k []).length - j) (0) ⟨rfl, rfl, rfl, rfl, rfl, rfl, rfl, rfl, trivial⟩ ⟨rfl, trivial⟩ ?_ ?_
   ·
    refine ⟨rfl, ?_⟩
    exact ⟨by omega, fun x hx => by omega⟩
   rintro j _ ⟨rfl, hI⟩ KL3 a0
   refine .forget (fr' := [(117, some (.int .i64 (j : Int))), (0, some _), (3, some _), (6, some _), (104, some _), (105, some _), (106, some _), (115, some _), (116, some _)]) ⟨rfl, rfl, rfl, rfl, rfl, rfl, rfl, rfl, rfl, trivial⟩ ?_
   obtain ⟨hk3, c5⟩ := hI
   refine .seq (fun K33 b7 => .region (.q rfl (.cmp rfl rfl rfl) (.nil (b7 _ _ (.seq (fun K34 d4 => ?_))))))
   refine .cond rfl (fun r => ?_) (fun r => ?_)
   ·
    try simp only [sps] at r
    refine .skip ?_
    refine d4 _ _ (.seq (fun K35 w => ?_))
    refine .block ?_
    refine .seq (fun K36 b4 => .region (.mv rfl ?_))
    refine .q rfl (.idxN sl_24_A (by assumption) rfl rfl (by omega)) ?_
    refine .q rfl (.loadI on_2_A (by assumption) rfl (by omega)) ?_
    refine .mv rfl (.mv rfl (.nil (b4 _ _ (.seq (fun K37 e8 => .seq (fun K38 b0 => ?_))))))
    refine .regionD mo_B (.q 0 (.q 1 (.q 2 (.q 3 (.q 4 (.q 5 (.q 6 (.q 7 (.q 8 (.q 9 (.q 10 (.q 11 (.q 12 (.q 13 (.q 14 (.done)))))))))))))))) (by kernel_rfl) ?_
    refine .mv rfl rfl (.q rfl (.nilCheck rfl) (.q rfl (.fieldAddr fo_27_2_B rfl) ?_))
    refine .q rfl (.load on_24_B rfl (by assumption)) ?_
    refine .mv rfl rfl ?_
    refine .q rfl (.idxN sl_24_A (by assumption) rfl rfl (by omega)) ?_
    refine .q rfl (.loadI on_2_A (by assumption) rfl (by omega)) ?_
    refine .mv rfl rfl (.q rfl (.nilCheck rfl) (.q rfl (.fieldAddr fo_27_1_B rfl) ?_))
    refine .q rfl (.load on_24_B rfl (by assumption)) ?_
    refine .mv rfl rfl ?_
    refine .q rfl (.idxN sl_24_A (by assumption) rfl rfl (by omega)) ?_
    refine .q rfl (.loadI on_2_A (by assumption) rfl (by omega)) ?_
    refine .q rfl (.cmp rfl rfl rfl) ?_
    refine .done ?_
    refine b0 _ _ ?_
    refine .cond rfl (fun b => ?_) (fun b => ?_)
    ·
     try simp only [sps] at b
     refine .seq (fun K39 d7 => .seq (fun K40 a8 => .region (.mv rfl (.q rfl (.cmp rfl rfl rfl) (.nil (a8 _ _ ?_))))))
     refine .cond rfl (fun d => ?_) (fun d => ?_)
     ·
      try simp only [sps] at d
      refine .seq (fun K41 b5 => .region (.mv rfl (.nil (b5 _ _ ?_))))
      refine .ret ?_
      refine a _ _ ?_
      refine ⟨_, rfl, ?_⟩
      exact .of (congrArg _ (B_false fun hS => d ((Cat.Cell.neg b).1 (hS.cell k (by omega) j (by omega)))))
     try simp only [sps] at d
     refine .skip ?_
     refine d7 _ _ ?_
     refine .exit ?_
     refine w _ _ (.region ?_)
     refine .q rfl (.add rfl rfl rfl (by omega) (by omega)) ?_
     refine .mv rfl (.nil ?_)
     refine a0 (j + 1) _ _ ?_ ?_ ⟨rfl, rfl, rfl, rfl, rfl, rfl, rfl, rfl, rfl, trivial⟩
     ·
      refine ⟨rfl, ?_⟩
      refine ⟨by omega, fun x hx => ?_⟩
      by_cases e : x < j
      · exact c5 x e
      · obtain rfl : x = j := by omega
        first
          | exact (Cat.Cell.neg b).2 d
          | exact (Cat.Cell.pos b).2 ⟨l.1, by omega, i⟩
     omega
    try simp only [sps] at b
    refine .skip ?_
    refine e8 _ _ (.seq (fun K42 a1 => ?_))
    refine .regionD mo_B (.q 0 (.q 1 (.q 2 (.c 3 0 (.q 4 (.q 5 (.q 6 (.q 7 (.q 9 (.q 10 (.q 11 (.q 12 (.q 13 (.q 14 (.q 15 (.q 16 (.q 17 (.q 18 (.q 19 (.q 20 (.q 21 (.q 22 (.q 23 (.c 8 1 (.q 24 (.q 25 (.done))))))))))))))))))))))))))) (by kernel_rfl) ?_
    refine .mv rfl rfl (.mv rfl rfl ?_)
    refine .q rfl (.sub rfl rfl rfl (by omega) (by omega)) ?_
    refine .callQ0 rfl rfl rfl rfl rfl @Try.call76 rfl (inRange_c) ?_
    refine .q rfl (.not rfl) (.mv rfl rfl ?_)
    refine .split (fun l => ?_) (fun l => ?_)
    ·
     try simp only [sps] at l
     refine .z rfl (.z rfl (.z rfl (.z rfl (.z rfl (.z rfl (.z rfl (.z rfl (.z rfl (.z rfl (.z rfl (.z rfl (.z rfl (.z rfl (.z rfl (.z rfl ?_)))))))))))))))
     refine .z rfl (.sgc rfl rfl rfl rfl rfl rfl (.z rfl (.q rfl (.pickT rfl rfl) ?_)))
     refine .done ?_
     refine a1 _ _ ?_
     refine .condT rfl ?_
     refine .seq (fun K43 b8 => .region (.mv rfl (.nil (b8 _ _ ?_))))
     refine .ret ?_
     refine a _ _ ?_
     refine ⟨_, rfl, ?_⟩
     exact .of (congrArg _ (B_false fun hS => by have := (Cat.Cell.pos b).1 (hS.cell k (by omega) j (by omega)); omega))
    try simp only [sps] at l
    refine .qg rfl (.move rfl) (.qg rfl (.move rfl) (.qg rfl (.move rfl) (.qg rfl (.nilCheck rfl) (.qg rfl (.fieldAddr fo_27_1_B rfl) ?_))))
    refine .qg rfl (.load on_24_B rfl (by assumption)) ?_
    refine .qg rfl (.move rfl) ?_
    refine .qg rfl (.idxN sl_24_A (by assumption) rfl rfl (by omega)) ?_
    refine .qg rfl (.loadI on_2_A (by assumption) rfl (by omega)) ?_
    refine .qg rfl (.move rfl) (.qg rfl (.nilCheck rfl) (.qg rfl (.fieldAddr fo_27_2_B rfl) ?_))
    refine .qg rfl (.load on_24_B rfl (by assumption)) ?_
    refine .qg rfl (.move rfl) ?_
    refine .qg rfl (.idxN sl_24_A (by assumption) rfl rfl (by omega)) ?_
    refine .qg rfl (.loadI on_2_A (by assumption) rfl (by omega)) ?_
    refine .qg rfl (.build bt_100_B rfl rfl rfl) ?_
    refine .callQ1g rfl rfl rfl rfl rfl rfl rfl @Try.call86 rfl (ends_c) (.refl _) ?_
    refine .qg rfl (.aggNe eg_100_B rfl rfl rfl rfl (aggEq_100 _ _ _ _)) (.q rfl (.pickF rfl rfl) ?_)
    refine .done ?_
    refine a1 _ _ ?_
    refine .cond rfl (fun i => ?_) (fun i => ?_)
    ·
     try simp only [sps] at i
     refine .seq (fun K44 a9 => .region (.mv rfl (.nil (a9 _ _ ?_))))
     refine .ret ?_
     refine a _ _ ?_
     refine ⟨_, rfl, ?_⟩
     exact .of (congrArg _ (B_false fun hS => by have := (Cat.Cell.pos b).1 (hS.cell k (by omega) j (by omega)); omega))
    try simp only [sps] at i
    refine .skip ?_
    refine w _ _ (.region ?_)
    refine .q rfl (.add rfl rfl rfl (by omega) (by omega)) ?_
    refine .mv rfl (.nil ?_)
    refine a0 (j + 1) _ _ ?_ ?_ ⟨rfl, rfl, rfl, rfl, rfl, rfl, rfl, rfl, rfl, trivial⟩
    ·
     refine ⟨rfl, ?_⟩
     refine ⟨by omega, fun x hx => ?_⟩
     by_cases e : x < j
     · exact c5 x e
     · obtain rfl : x = j := by omega
       first
         | exact (Cat.Cell.neg b).2 d
         | exact (Cat.Cell.pos b).2 ⟨l.1, by omega, i⟩
    omega
   try simp only [sps] at r
   refine .exit ?_
   refine e9 _ _ (.region ?_)
   refine .q rfl (.add rfl rfl rfl (by omega) (by omega)) ?_
   refine .mv rfl (.nil ?_)
   refine f0 (k + 1) _ _ ?_ ?_ ⟨rfl, rfl, rfl, rfl, rfl, trivial⟩
   ·
    refine ⟨rfl, ?_⟩
    refine ⟨by omega, fun x hx => ?_⟩
    by_cases e : x < k
    · exact e4 x e
    · obtain rfl : x = k := by omega
      exact ⟨by omega, fun g hg => c5 g (by omega)⟩
   omega
  try simp only [sps] at n
  refine .exit ?_
  refine a6 _ _ (.seq (fun K45 b3 => .region (.mv rfl (.nil (b3 _ _ ?_)))))
  refine .ret ?_
  refine a _ _ ?_
  refine ⟨_, rfl, ?_⟩
  exact .of (congrArg _ (B_true ⟨a3, by omega, by omega, u, v, by omega, s, by omega, fun x hx => f1 x (by omega), fun f hf => (e4 f (by omega)).1, fun f hf => (e4 f (by omega)).2⟩))
end Go.Proofs.Ytfanjkbaemhbmaa
namespace Go.Proofs.Ytfanjkbaemhbmaa
open Go Go.GL Go.RowKit Go.Proofs
theorem then_s {g o : Nat} {c : Cat} {p : CatP} {f k : Int} {H : GHeap} (h : Cat.At H g o c p := by assumption) (hS : c.Shape := by assumption) (h0 : 0 ≤ f := by omega) (h1 : f < c.src.length := by omega) (h2 : 0 ≤ k := by omega) (h3 : k < c.src.length := by omega) :
    GCalls Try.prog 79 [.pointer (some ⟨g, o, none⟩), .int .i64 f, .int .i64 k] H (Ret (.int .i64 (c.th f k)) H) := by
  have e1 := hS.cl
  have e2 := hS.row f.toNat (by omega)
  exact then_c
def FaultR (c : Cat) (H : GHeap) : Value → GHeap → Prop := fun v H' => H = H' ∧ ∃ kd b1 b2 b3 : Int, v = .tuple #[.int .i64 kd, .int .i64 b1, .int .i64 b2, .int .i64 b3] ∧ (kd = 0 ↔ c.Laws)
theorem fault_c {g o : Nat} {c : Cat} {p : CatP} {H : GHeap} (h : Cat.At H g o c p := by assumption) (hS : c.Shape := by assumption) : GCalls Try.prog 52 [.pointer (some ⟨g, o, none⟩)] H (FaultR c H) := by
  refine GCalls.body (N := 102) (rs := [.tmp 2, .tmp 3, .tmp 4, .tmp 5]) Try.func52 rfl rfl rfl rfl (fun Qx a hend => ?_)
  refine .fg [0] rfl ?_
  obtain ⟨-, c1, c2, c3, -, i1, i2, i3, -⟩ := h.get
  have e1 := hS.tl
  have e2 := hS.n40
  have e3 := hS.il
  refine .seq (fun K1 c8 => .region (.mv rfl (.mv rfl (.mv rfl (.mv rfl (.nil (c8 _ _ (.seq (fun K2 d0 => .region (.mv rfl ?_))))))))))
  refine .callQ rfl rfl rfl rfl @Try.call67 rfl (arrows_c) ?_
  refine .mv rfl (.nil (d0 _ _ (.seq (fun K3 d1 => .seq (fun K4 d2 => .region (.mv rfl (.nil (d2 _ _ ?_))))))))
  refine .block ?_
  refine .loopR (σ := Nat) [(0, some _), (6, some _)] (fun k => [(7, some (.int .i64 (k : Int)))]) (fun k H' => H = H' ∧ k ≤ c.src.length ∧ ∀ x, x < k → c.IdOk x) (fun k => c.src.length - k) (0) ⟨rfl, rfl, trivial⟩ ⟨rfl, trivial⟩ ?_ ?_
  ·
   refine ⟨rfl, ?_⟩
   exact ⟨by omega, fun x hx => by omega⟩
  rintro k _ ⟨rfl, hI⟩ KL1 a8
  refine .forget (fr' := [(7, some (.int .i64 (k : Int))), (0, some _), (6, some _)]) ⟨rfl, rfl, rfl, trivial⟩ ?_
  obtain ⟨hk1, c6⟩ := hI
  refine .seq (fun K5 d4 => .seq (fun K6 c9 => .region (.mv rfl (.mv rfl (.q rfl (.cmp rfl rfl rfl) (.nil (c9 _ _ ?_)))))))
  refine .cond rfl (fun b1 => ?_) (fun b1 => ?_)
  ·
   simp only [decide_eq_true_eq] at b1
   have q1 := hS.src k (by omega)
   have q2 := hS.tgt k (by omega)
   have q3 := hS.idn_lt q1.1 q1.2
   have q4 := hS.idn_lt q2.1 q2.2
   refine .skip ?_
   refine d4 _ _ (.seq (fun K7 d5 => ?_))
   refine .block ?_
   refine .seq (fun K8 c5 => ?_)
   refine .regionD mo_B (.q 0 (.q 1 (.q 2 (.q 3 (.q 4 (.q 5 (.q 6 (.q 7 (.q 8 (.q 9 (.q 10 (.q 11 (.q 12 (.q 13 (.q 14 (.q 16 (.c 15 1 (.q 17 (.q 18 (.q 19 (.q 20 (.q 21 (.q 22 (.q 23 (.q 24 (.q 25 (.q 26 (.q 27 (.q 28 (.q 29 (.q 30 (.q 31 (.q 32 (.q 33 (.q 35 (.c 34 1 (.q 36 (.q 37 (.done))))))))))))))))))))))))))))))))))))))) (by kernel_rfl) ?_
   refine .mv rfl rfl (.mv rfl rfl (.q rfl (.nilCheck rfl) (.q rfl (.fieldAddr fo_27_3_B rfl) ?_)))
   refine .q rfl (.load on_24_B rfl (by assumption)) ?_
   refine .mv rfl rfl (.q rfl (.nilCheck rfl) (.q rfl (.fieldAddr fo_27_1_B rfl) ?_))
   refine .q rfl (.load on_24_B rfl (by assumption)) ?_
   refine .mv rfl rfl ?_
   refine .q rfl (.idxN sl_24_A (by assumption) rfl rfl (by omega)) ?_
   refine .q rfl (.loadI on_2_A (by assumption) rfl (by omega)) ?_
   refine .q rfl (.idx1 sl_24_A (by assumption) rfl rfl (by omega) (by omega)) ?_
   refine .q rfl (.loadI on_2_A (by assumption) rfl (by omega)) ?_
   refine .mv rfl rfl (.mv rfl rfl ?_)
   refine .callQ1 rfl rfl rfl rfl rfl @Try.call79 rfl (then_s) (.refl _) ?_
   refine .q rfl (.cmp rfl rfl rfl) (.mv rfl rfl ?_)
   refine .split (fun n => ?_) (fun n => ?_)
   ·
    try simp only [sps] at n
    refine .z rfl (.z rfl (.z rfl (.z rfl (.z rfl (.z rfl (.z rfl (.z rfl (.z rfl (.z rfl (.z rfl (.z rfl (.z rfl (.z rfl (.z rfl (.z rfl ?_)))))))))))))))
    refine .sgc rfl rfl rfl rfl rfl rfl (.z rfl (.q rfl (.pickT rfl rfl) ?_))
    refine .done ?_
    refine c5 _ _ ?_
    refine .condT rfl ?_
    refine .seq (fun K9 d3 => .region (.mv rfl (.mv rfl (.mv rfl (.mv rfl (.mv rfl (.nil (d3 _ _ ?_))))))))
    refine .ret ?_
    refine a _ _ ?_
    refine ⟨_, _, _, _, rfl, rfl, rfl, rfl, ?_⟩
    exact ⟨rfl, _, _, _, _, rfl, fun e => by omega, fun hL => absurd (hL.ids k (by omega)).1 n⟩
   try simp only [sps] at n
   refine .qg rfl (.move rfl) (.qg rfl (.move rfl) (.qg rfl (.move rfl) (.qg rfl (.nilCheck rfl) (.qg rfl (.fieldAddr fo_27_3_B rfl) ?_))))
   refine .qg rfl (.load on_24_B rfl (by assumption)) ?_
   refine .qg rfl (.move rfl) (.qg rfl (.nilCheck rfl) (.qg rfl (.fieldAddr fo_27_2_B rfl) ?_))
   refine .qg rfl (.load on_24_B rfl (by assumption)) ?_
   refine .qg rfl (.move rfl) ?_
   refine .qg rfl (.idxN sl_24_A (by assumption) rfl rfl (by omega)) ?_
   refine .qg rfl (.loadI on_2_A (by assumption) rfl (by omega)) ?_
   refine .qg rfl (.idx1 sl_24_A (by assumption) rfl rfl (by omega) (by omega)) ?_
   refine .qg rfl (.loadI on_2_A (by assumption) rfl (by omega)) ?_
   refine .qg rfl (.move rfl) ?_
   refine .callQ1g rfl rfl rfl rfl rfl rfl rfl @Try.call79 rfl (then_s) (.refl _) ?_
   refine .qg rfl (.cmp rfl rfl rfl) (.q rfl (.pickF rfl rfl) ?_)
   refine .done ?_
   refine c5 _ _ ?_
   refine .cond rfl (fun l => ?_) (fun l => ?_)
   ·
    try simp only [sps] at l
    refine .seq (fun K10 a9 => .region (.mv rfl (.mv rfl (.mv rfl (.mv rfl (.mv rfl (.nil (a9 _ _ ?_))))))))
    refine .ret ?_
    refine a _ _ ?_
    refine ⟨_, _, _, _, rfl, rfl, rfl, rfl, ?_⟩
    exact ⟨rfl, _, _, _, _, rfl, fun e => by omega, fun hL => absurd (hL.ids k (by omega)).2 l⟩
   try simp only [sps] at l
   refine .skip ?_
   refine d5 _ _ (.region (.mv rfl ?_))
   refine .q rfl (.add rfl rfl rfl (by omega) (by omega)) ?_
   refine .mv rfl (.nil ?_)
   refine a8 (k + 1) _ _ ?_ ?_ ⟨rfl, rfl, rfl, trivial⟩
   ·
    refine ⟨rfl, ?_⟩
    refine ⟨by omega, fun x hx => ?_⟩
    by_cases e : x < k
    · exact c6 x e
    · obtain rfl : x = k := by omega
      exact ⟨n, l⟩
   omega
  try simp only [sps] at b1
  refine .exit ?_
  refine d1 _ _ (.seq (fun K11 w => .seq (fun K12 b6 => .region (.mv rfl (.nil (b6 _ _ ?_))))))
  refine .block ?_
  refine .loopR (σ := Nat) [(0, some _), (6, some _)] (fun k => [(8, some (.int .i64 (k : Int)))]) (fun k H' => H = H' ∧ k ≤ c.src.length ∧ ∀ f, f < k → ∀ g, g < c.src.length → c.tgt.getD f 0 = c.src.getD g 0 → ∀ h, h < c.src.length → c.tgt.getD g 0 = c.src.getD h 0 → c.th (c.th f g) h = c.th f (c.th g h)) (fun k => c.src.length - k) (0) ⟨rfl, rfl, trivial⟩ ⟨rfl, trivial⟩ ?_ ?_
  ·
   refine ⟨rfl, ?_⟩
   exact ⟨by omega, fun x hx => by omega⟩
  rintro k _ ⟨rfl, hI⟩ KL2 c4
  refine .forget (fr' := [(8, some (.int .i64 (k : Int))), (0, some _), (6, some _)]) ⟨rfl, rfl, rfl, trivial⟩ ?_
  obtain ⟨hk2, c7⟩ := hI
  refine .seq (fun K13 v => .seq (fun K14 a7 => .region (.mv rfl (.mv rfl (.q rfl (.cmp rfl rfl rfl) (.nil (a7 _ _ ?_)))))))
  refine .cond rfl (fun b4 => ?_) (fun b4 => ?_)
  ·
   try simp only [sps] at b4
   refine .skip ?_
   refine v _ _ (.seq (fun K15 a2 => ?_))
   refine .block ?_
   refine .seq (fun K16 a4 => .region (.mv rfl (.nil (a4 _ _ ?_))))
   refine .block ?_
   refine .loopR (σ := Nat) [(0, some _), (6, some _), (8, some _)] (fun j => [(9, some (.int .i64 (j : Int)))]) (fun j H' => H = H' ∧ j ≤ c.src.length ∧ ∀ g, g < j → c.tgt.getD k 0 = c.src.getD g 0 → ∀ h, h < c.src.length → c.tgt.getD g 0 = c.src.getD h 0 → c.th (c.th k g) h = c.th k (c.th g h)) (fun j => c.src.length - j) (0) ⟨rfl, rfl, rfl, trivial⟩ ⟨rfl, trivial⟩ ?_ ?_
   ·
    refine ⟨rfl, ?_⟩
    exact ⟨by omega, fun x hx => by omega⟩
   rintro j _ ⟨rfl, hI⟩ KL3 r
   refine .forget (fr' := [(9, some (.int .i64 (j : Int))), (0, some _), (6, some _), (8, some _)]) ⟨rfl, rfl, rfl, rfl, trivial⟩ ?_
   obtain ⟨hk3, a6⟩ := hI
   refine .seq (fun K17 a1 => .seq (fun K18 b9 => .region (.mv rfl (.mv rfl (.q rfl (.cmp rfl rfl rfl) (.nil (b9 _ _ ?_)))))))
   refine .cond rfl (fun b0 => ?_) (fun b0 => ?_)
   ·
    try simp only [sps] at b0
    refine .skip ?_
    refine a1 _ _ (.seq (fun K19 m => ?_))
    refine .block ?_
    refine .seq (fun K20 b8 => .seq (fun K21 b7 => .region (.mv rfl (.mv rfl (.mv rfl ?_)))))
    refine .callQ rfl rfl rfl rfl @Try.call79 rfl (then_s) ?_
    refine .q rfl (.cmp rfl rfl rfl) (.nil (b7 _ _ ?_))
    refine .cond rfl (fun a3 => ?_) (fun a3 => ?_)
    ·
     try simp only [sps] at a3
     refine .exit ?_
     refine m _ _ (.region (.mv rfl ?_))
     refine .q rfl (.add rfl rfl rfl (by omega) (by omega)) ?_
     refine .mv rfl (.nil ?_)
     refine r (j + 1) _ _ ?_ ?_ ⟨rfl, rfl, rfl, rfl, trivial⟩
     ·
      refine ⟨rfl, ?_⟩
      refine ⟨by omega, fun x hx => ?_⟩
      by_cases e : x < j
      · exact a6 x e
      · obtain rfl : x = j := by omega
        first
          | exact fun e => absurd ((hS.th_ge (by omega) (by omega)).2 e) (by omega)
          | exact fun _ h hh => u h (by omega)
     omega
    simp only [decide_eq_false_iff_not] at a3
    have q5 := hS.th_lt (f := k) (g := j) (by omega) (by omega)
    have q6 := (hS.th_ge (f := k) (g := j) (by omega) (by omega)).1 (by omega)
    refine .skip ?_
    refine b8 _ _ (.seq (fun K22 b5 => .region (.mv rfl (.nil (b5 _ _ ?_)))))
    refine .block ?_
    refine .loopR (σ := Nat) [(0, some _), (6, some _), (8, some _), (9, some _)] (fun i => [(10, some (.int .i64 (i : Int)))]) (fun i H' => H = H' ∧ i ≤ c.src.length ∧ ∀ h, h < i → c.tgt.getD j 0 = c.src.getD h 0 → c.th (c.th k j) h = c.th k (c.th j h)) (fun i => c.src.length - i) (0) ⟨rfl, rfl, rfl, rfl, trivial⟩ ⟨rfl, trivial⟩ ?_ ?_
    ·
     refine ⟨rfl, ?_⟩
     exact ⟨by omega, fun x hx => by omega⟩
    rintro i _ ⟨rfl, hI⟩ KL4 t
    refine .forget (fr' := [(10, some (.int .i64 (i : Int))), (0, some _), (6, some _), (8, some _), (9, some _)]) ⟨rfl, rfl, rfl, rfl, rfl, trivial⟩ ?_
    obtain ⟨hk4, u⟩ := hI
    refine .seq (fun K23 a0 => .seq (fun K24 a5 => .region (.mv rfl (.mv rfl (.q rfl (.cmp rfl rfl rfl) (.nil (a5 _ _ ?_)))))))
    refine .cond rfl (fun b2 => ?_) (fun b2 => ?_)
    ·
     try simp only [sps] at b2
     refine .skip ?_
     refine a0 _ _ (.seq (fun K25 s => ?_))
     refine .block ?_
     refine .seq (fun K26 d => .region (.mv rfl (.mv rfl (.mv rfl ?_))))
     refine .callQ rfl rfl rfl rfl @Try.call79 rfl (then_s) ?_
     refine .q rfl (.cmp rfl rfl rfl) (.mv rfl ?_)
     refine .split (fun y => ?_) (fun y => ?_)
     ·
      simp only [decide_eq_true_eq, ge_iff_le] at y
      have q7 := hS.th_lt (f := j) (g := i) (by omega) (by omega)
      have q8 := (hS.th_ge (f := j) (g := i) (by omega) (by omega)).1 (by omega)
      refine .qg rfl (.move rfl) (.qg rfl (.move rfl) (.qg rfl (.move rfl) (.qg rfl (.move rfl) ?_)))
      refine .callQg rfl rfl rfl rfl rfl rfl @Try.call79 rfl (then_s) ?_
      refine .qg rfl (.move rfl) ?_
      refine .callQg rfl rfl rfl rfl rfl rfl @Try.call79 rfl (then_s) ?_
      refine .qg rfl (.move rfl) (.qg rfl (.move rfl) (.qg rfl (.move rfl) (.qg rfl (.move rfl) (.qg rfl (.move rfl) ?_))))
      refine .callQg rfl rfl rfl rfl rfl rfl @Try.call79 rfl (then_s) ?_
      refine .callQg rfl rfl rfl rfl rfl rfl @Try.call79 rfl (then_s) ?_
      refine .qg rfl (.cmp rfl rfl rfl) (.q rfl (.pickT rfl rfl) (.nil (d _ _ ?_)))
      refine .cond rfl (fun b => ?_) (fun b => ?_)
      ·
       try simp only [sps] at b
       refine .seq (fun K27 c0 => .region (.mv rfl (.mv rfl (.mv rfl (.mv rfl (.mv rfl (.mv rfl (.mv rfl (.nil (c0 _ _ ?_))))))))))
       refine .ret ?_
       refine a _ _ ?_
       refine ⟨_, _, _, _, rfl, rfl, rfl, rfl, ?_⟩
       exact ⟨rfl, _, _, _, _, rfl, fun e => by omega, fun hL => absurd (hL.as k (by omega) j (by omega) q6 i (by omega) q8) b⟩
      try simp only [sps] at b
      refine .skip ?_
      refine s _ _ (.region (.mv rfl ?_))
      refine .q rfl (.add rfl rfl rfl (by omega) (by omega)) ?_
      refine .mv rfl (.nil ?_)
      refine t (i + 1) _ _ ?_ ?_ ⟨rfl, rfl, rfl, rfl, rfl, trivial⟩
      ·
       refine ⟨rfl, ?_⟩
       refine ⟨by omega, fun x hx => ?_⟩
       by_cases e : x < i
       · exact u x e
       · obtain rfl : x = i := by omega
         first
           | exact fun e => absurd ((hS.th_ge (by omega) (by omega)).2 e) (by omega)
           | exact fun _ => b
      omega
     try simp only [sps] at y
     refine .z rfl (.z rfl (.z rfl (.z rfl (.z rfl (.z rfl (.z rfl (.z rfl (.z rfl (.z rfl (.z rfl (.z rfl (.z rfl (.z rfl (.z rfl (.q rfl (.pickF rfl rfl) ?_)))))))))))))))
     refine .nil (d _ _ ?_)
     refine .condF rfl ?_
     refine .skip ?_
     refine s _ _ (.region (.mv rfl ?_))
     refine .q rfl (.add rfl rfl rfl (by omega) (by omega)) ?_
     refine .mv rfl (.nil ?_)
     refine t (i + 1) _ _ ?_ ?_ ⟨rfl, rfl, rfl, rfl, rfl, trivial⟩
     ·
      refine ⟨rfl, ?_⟩
      refine ⟨by omega, fun x hx => ?_⟩
      by_cases e : x < i
      · exact u x e
      · obtain rfl : x = i := by omega
        first
          | exact fun e => absurd ((hS.th_ge (by omega) (by omega)).2 e) (by omega)
          | exact fun _ => b
     omega
    try simp only [sps] at b2
    refine .exit ?_
    refine m _ _ (.region (.mv rfl ?_))
    refine .q rfl (.add rfl rfl rfl (by omega) (by omega)) ?_
    refine .mv rfl (.nil ?_)
    refine r (j + 1) _ _ ?_ ?_ ⟨rfl, rfl, rfl, rfl, trivial⟩
    ·
     refine ⟨rfl, ?_⟩
     refine ⟨by omega, fun x hx => ?_⟩
     by_cases e : x < j
     · exact a6 x e
     · obtain rfl : x = j := by omega
       first
         | exact fun e => absurd ((hS.th_ge (by omega) (by omega)).2 e) (by omega)
         | exact fun _ h hh => u h (by omega)
    omega
   try simp only [sps] at b0
   refine .exit ?_
   refine a2 _ _ (.region (.mv rfl ?_))
   refine .q rfl (.add rfl rfl rfl (by omega) (by omega)) ?_
   refine .mv rfl (.nil ?_)
   refine c4 (k + 1) _ _ ?_ ?_ ⟨rfl, rfl, rfl, trivial⟩
   ·
    refine ⟨rfl, ?_⟩
    refine ⟨by omega, fun x hx => ?_⟩
    by_cases e : x < k
    · exact c7 x e
    · obtain rfl : x = k := by omega
      exact fun g hg => a6 g (by omega)
   omega
  try simp only [sps] at b4
  refine .exit ?_
  refine w _ _ (.seq (fun K28 b3 => .region (.mv rfl (.mv rfl (.mv rfl (.mv rfl (.nil (b3 _ _ ?_))))))))
  refine .ret ?_
  refine a _ _ ?_
  refine ⟨_, _, _, _, rfl, rfl, rfl, rfl, ?_⟩
  exact ⟨rfl, _, _, _, _, rfl, fun _ => ⟨fun f hf => c6 f (by omega), fun f hf => c7 f (by omega)⟩, fun _ => rfl⟩
theorem isCategory_c {g o : Nat} {c : Cat} {p : CatP} {H : GHeap} (h : Cat.At H g o c p := by assumption) (hs : c.Small := by assumption) : GCalls Try.prog 34 [.pointer (some ⟨g, o, none⟩)] H (Ret (.bool (B c.Is)) H) := by
  refine GCalls.body (N := 19) (rs := [.tmp 2]) Try.func34 rfl rfl rfl rfl (fun Qx a hend => ?_)
  refine .fg [0] rfl ?_
  refine .seq (fun K1 b => .region (.mv rfl (.nil (b _ _ (.seq (fun K2 f => .seq (fun K3 j => .region (.mv rfl ?_))))))))
  refine .callQ rfl rfl rfl rfl @Try.call51 rfl (isShape_c) ?_
  refine .q rfl (.not rfl) (.nil (j _ _ ?_))
  refine .cond rfl (fun h9 => ?_) (fun h9 => ?_)
  ·
   try simp only [sps] at h9
   refine .seq (fun K4 i => .region (.mv rfl (.nil (i _ _ ?_))))
   refine .ret ?_
   refine a _ _ ?_
   refine ⟨_, rfl, ?_⟩
   exact .of (congrArg _ (B_false fun hI => h9 hI.1))
  try simp only [sps] at h9
  refine .skip ?_
  refine f _ _ (.seq (fun K5 d => .region (.mv rfl ?_)))
  refine .call rfl rfl rfl rfl @Try.call52 rfl (fault_c) ?_
  rintro _ _ ⟨rfl, kd, b1, b2, b3, rfl, hkd⟩
  refine .mv rfl (.q rfl (.extract rfl rfl) (.q rfl (.extract rfl rfl) (.q rfl (.extract rfl rfl) (.q rfl (.extract rfl rfl) (.mv rfl (.mv rfl (.mv rfl (.mv rfl (.nil (d _ _ (.seq (fun K6 e => .region (.mv rfl (.q rfl (.cmp rfl rfl rfl) (.mv rfl ?_)))))))))))))))
  refine .nil (e _ _ ?_)
  refine .ret ?_
  refine a _ _ ?_
  refine ⟨_, rfl, ?_⟩
  exact .of (congrArg _ (by rw [Bool.eq_iff_iff, B_iff, beq_iff_eq, hkd]; exact ⟨fun h => h.2, fun h => ⟨h9, h⟩⟩))
end Go.Proofs.Ytfanjkbaemhbmaa
namespace Go.Proofs.Ytfanjkbaemhbmaa
open Go Go.GL Go.RowKit Go.Proofs
theorem sz_27_D : (Try.prog.info? 27).map (·.size) = some 5 := by kernel_rfl
theorem l02Ends_c {a : Option Addr} {xs : List Int} {n : Nat} {m : Int} {H : GHeap} (h : Ints H a xs := by assumption) (hl : xs.length ≤ 1048576 := by omega) :
    GCalls Try.prog 88 [.slice a xs.length xs.length, .int .i64 (n : Int), .int .i64 m] H (Ret (.bool (decide (xs.length = n) && allIn xs m)) H) := by
  refine GCalls.body (N := 16) (rs := [.tmp 6]) Try.func88 rfl rfl rfl rfl (fun Qx b hend => ?_)
  refine .fg [0, 1, 2] rfl ?_
  refine .seq (fun K1 e => .region (.mv rfl (.nil (e _ _ (.seq (fun K2 d => .region (.mv rfl (.q rfl (.len sl_24_A rfl) (.mv rfl (.q rfl (.cmp rfl rfl rfl) (.mv rfl ?_)))))))))))
  refine .split (fun c => ?_) (fun c => ?_)
  ·
   simp only [beq_iff_eq, beq_eq_false_iff_ne, ne_eq] at c
   refine .qg rfl (.move rfl) (.qg rfl (.move rfl) ?_)
   refine .callQg rfl rfl rfl rfl rfl rfl @Try.call89 rfl (l01Map_c) ?_
   refine .q rfl (.pickT rfl rfl) (.mv rfl (.nil (d _ _ ?_)))
   refine .ret ?_
   refine b _ _ ?_
   refine ⟨_, rfl, ?_⟩
   exact .of (congrArg _ (by rw [decide_eq_true (by omega : xs.length = n), Bool.true_and]))
  simp only [beq_iff_eq, beq_eq_false_iff_ne, ne_eq] at c
  refine .z rfl (.z rfl (.z rfl (.q rfl (.pickF rfl rfl) (.mv rfl (.nil (d _ _ ?_))))))
  refine .ret ?_
  refine b _ _ ?_
  refine ⟨_, rfl, ?_⟩
  exact .of (congrArg _ (by rw [decide_eq_false (by omega : ¬ xs.length = n), Bool.false_and]))
theorem specShape_c {c : Cat} {p : CatP} {H : GHeap} (hin : c.In H p := by assumption) (hs : c.Small := by assumption) : GCalls Try.prog 53 [.agg (c.cells p).toArray] H (Ret (.bool (B c.Shape)) H) := by
  refine GCalls.ret rfl ?_
  refine GCalls.body (N := 159) (rs := [.tmp 2]) Try.func53 rfl rfl rfl rfl (fun Qx a hend => ?_)
  refine .fg [0] rfl ?_
  refine .seq (fun K1 f5 => .region (.d rfl rfl rfl (.box rfl sz_27_D rfl CIs.mk) ?_))
  show GRun _ _ _ _ _ _ (H.push (.row (c.cells p) 27 true))
  have i := GHeap.le_push H (.row (c.cells p) 27 true)
  have hb : Cat.At (H.push (.row (c.cells p) 27 true)) H.next 0 c p := ⟨Mem.new _ _ _ _, hin.mono i⟩
  generalize H.push (.row (c.cells p) 27 true) = H1 at *
  generalize H.next = g at *
  obtain ⟨c0, c1, c2, c3, c4, i1, i2, i3, i4⟩ := hb.get
  obtain ⟨s1, s2, s3, -, -, s6⟩ := hs
  refine .mv rfl (.nil (f5 _ _ (.seq (fun K2 f8 => .region (.q rfl (.fieldAddr fo_27_1_B rfl) ?_)))))
  refine .q rfl (.load on_24_B rfl (by assumption)) ?_
  refine .q rfl (.len sl_24_A rfl) (.mv rfl (.nil (f8 _ _ (.seq (fun K3 f9 => .seq (fun K4 a4 => .region (.q rfl (.fieldAddr fo_27_0_B rfl) ?_)))))))
  refine .q rfl (.load on_2_A rfl (by assumption)) ?_
  refine .callQ rfl rfl rfl rfl @Try.call87 rfl (l01In_c) ?_
  refine .q rfl (.not rfl) (.mv rfl ?_)
  refine .split (fun a6 => ?_) (fun a6 => ?_)
  ·
   try simp only [sps] at a6
   refine .z rfl (.z rfl (.q rfl (.pickT rfl rfl) (.mv rfl (.z rfl (.z rfl (.z rfl (.z rfl (.z rfl (.z rfl (.z rfl (.q rfl (.pickT rfl rfl) (.mv rfl (.z rfl (.z rfl (.z rfl ?_)))))))))))))))
   refine .z rfl (.z rfl (.z rfl (.z rfl (.q rfl (.pickT rfl rfl) (.mv rfl (.z rfl (.z rfl (.z rfl (.z rfl (.z rfl (.q rfl (.pickT rfl rfl) (.nil (a4 _ _ ?_)))))))))))))
   refine .condT rfl ?_
   refine .seq (fun K5 g1 => .region (.mv rfl (.nil (g1 _ _ ?_))))
   refine .ret ?_
   refine a _ _ ?_
   refine ⟨_, rfl, ?_⟩
   exact ⟨congrArg _ (B_false fun hS => by have q1 := hS.obj; have q2 := hS.n40; have q3 := hS.tl; have q4 := hS.il; have q5 := hS.cl; omega), i⟩
  try simp only [sps] at a6
  refine .qg rfl (.move rfl) (.qg rfl (.cmp rfl rfl rfl) (.q rfl (.pickF rfl rfl) (.mv rfl ?_)))
  refine .split (fun e5 => ?_) (fun e5 => ?_)
  ·
   try simp only [sps] at e5
   refine .z rfl (.z rfl (.z rfl (.z rfl (.z rfl (.z rfl (.z rfl (.q rfl (.pickT rfl rfl) (.mv rfl (.z rfl (.z rfl (.z rfl (.z rfl (.z rfl (.z rfl (.z rfl ?_)))))))))))))))
   refine .q rfl (.pickT rfl rfl) (.mv rfl (.z rfl (.z rfl (.z rfl (.z rfl (.z rfl (.q rfl (.pickT rfl rfl) (.nil (a4 _ _ ?_)))))))))
   refine .condT rfl ?_
   refine .seq (fun K6 f6 => .region (.mv rfl (.nil (f6 _ _ ?_))))
   refine .ret ?_
   refine a _ _ ?_
   refine ⟨_, rfl, ?_⟩
   exact ⟨congrArg _ (B_false fun hS => by have q1 := hS.obj; have q2 := hS.n40; have q3 := hS.tl; have q4 := hS.il; have q5 := hS.cl; omega), i⟩
  try simp only [sps] at e5
  refine .qg rfl (.fieldAddr fo_27_1_B rfl) ?_
  refine .qg rfl (.load on_24_B rfl (by assumption)) ?_
  refine .qg rfl (.move rfl) (.qg rfl (.fieldAddr fo_27_0_B rfl) ?_)
  refine .qg rfl (.load on_2_A rfl (by assumption)) ?_
  refine .callQg rfl rfl rfl rfl rfl rfl @Try.call88 rfl (l02Ends_c) ?_
  refine .qg rfl (.not rfl) (.q rfl (.pickF rfl rfl) (.mv rfl ?_))
  refine .split (fun a1 => ?_) (fun a1 => ?_)
  ·
   try simp only [sps] at a1
   refine .z rfl (.z rfl (.z rfl (.z rfl (.z rfl (.z rfl (.z rfl (.q rfl (.pickT rfl rfl) (.mv rfl (.z rfl (.z rfl (.z rfl (.z rfl (.z rfl (.q rfl (.pickT rfl rfl) (.nil ?_)))))))))))))))
   refine a4 _ _ ?_
   refine .condT rfl ?_
   refine .seq (fun K7 g2 => .region (.mv rfl (.nil (g2 _ _ ?_))))
   refine .ret ?_
   refine a _ _ ?_
   refine ⟨_, rfl, ?_⟩
   exact ⟨congrArg _ (B_false fun hS => a1.elim (fun h => h trivial) (fun h => by rw [allIn_iff.2 hS.src] at h; cases h)), i⟩
  try simp only [sps] at a1
  refine .qg rfl (.fieldAddr fo_27_2_B rfl) ?_
  refine .qg rfl (.load on_24_B rfl (by assumption)) ?_
  refine .qg rfl (.move rfl) (.qg rfl (.fieldAddr fo_27_0_B rfl) ?_)
  refine .qg rfl (.load on_2_A rfl (by assumption)) ?_
  refine .callQg rfl rfl rfl rfl rfl rfl @Try.call88 rfl (l02Ends_c) ?_
  refine .qg rfl (.not rfl) (.q rfl (.pickF rfl rfl) (.mv rfl ?_))
  refine .split (fun v => ?_) (fun v => ?_)
  ·
   try simp only [sps] at v
   refine .z rfl (.z rfl (.z rfl (.z rfl (.z rfl (.q rfl (.pickT rfl rfl) (.nil (a4 _ _ ?_)))))))
   refine .condT rfl ?_
   refine .seq (fun K8 f7 => .region (.mv rfl (.nil (f7 _ _ ?_))))
   refine .ret ?_
   refine a _ _ ?_
   refine ⟨_, rfl, ?_⟩
   exact ⟨congrArg _ (B_false fun hS => v.elim (fun h => h hS.tl) (fun h => by rw [allIn_iff.2 hS.tgt] at h; cases h)), i⟩
  try simp only [sps] at v
  refine .qg rfl (.fieldAddr fo_27_4_B rfl) ?_
  refine .qg rfl (.load on_25_B rfl (by assumption)) ?_
  refine .qg rfl (.len sl_25_B rfl) (.qg rfl (.move rfl) (.qg rfl (.cmp rfl rfl rfl) (.q rfl (.pickF rfl rfl) (.nil (a4 _ _ ?_)))))
  refine .cond rfl (fun e8 => ?_) (fun e8 => ?_)
  ·
   try simp only [sps] at e8
   refine .seq (fun K9 g0 => .region (.mv rfl (.nil (g0 _ _ ?_))))
   refine .ret ?_
   refine a _ _ ?_
   refine ⟨_, rfl, ?_⟩
   exact ⟨congrArg _ (B_false fun hS => by have q1 := hS.obj; have q2 := hS.n40; have q3 := hS.tl; have q4 := hS.il; have q5 := hS.cl; omega), i⟩
  try simp only [sps] at e8
  refine .skip ?_
  refine f9 _ _ (.seq (fun K10 d4 => .seq (fun K11 w => .region (.q rfl (.fieldAddr fo_27_3_B rfl) ?_))))
  refine .q rfl (.load on_24_B rfl (by assumption)) ?_
  refine .q rfl (.len sl_24_A rfl) (.q rfl (.fieldAddr fo_27_0_B rfl) ?_)
  refine .q rfl (.load on_2_A rfl (by assumption)) ?_
  refine .q rfl (.cmp rfl rfl rfl) (.mv rfl ?_)
  refine .split (fun b7 => ?_) (fun b7 => ?_)
  ·
   try simp only [sps] at b7
   refine .z rfl (.z rfl (.z rfl (.z rfl (.z rfl (.q rfl (.pickT rfl rfl) (.nil (w _ _ ?_)))))))
   refine .condT rfl ?_
   refine .seq (fun K12 e1 => .region (.mv rfl (.nil (e1 _ _ ?_))))
   refine .ret ?_
   refine a _ _ ?_
   refine ⟨_, rfl, ?_⟩
   exact ⟨congrArg _ (B_false fun hS => by have q1 := hS.obj; have q2 := hS.n40; have q3 := hS.tl; have q4 := hS.il; have q5 := hS.cl; omega), i⟩
  try simp only [sps] at b7
  refine .qg rfl (.move rfl) (.qg rfl (.fieldAddr fo_27_3_B rfl) ?_)
  refine .qg rfl (.load on_24_B rfl (by assumption)) ?_
  refine .callQg rfl rfl rfl rfl rfl rfl @Try.call89 rfl (l01Map_c) ?_
  refine .qg rfl (.not rfl) (.q rfl (.pickF rfl rfl) (.nil (w _ _ ?_)))
  refine .cond rfl (fun u => ?_) (fun u => ?_)
  ·
   try simp only [sps] at u
   refine .seq (fun K13 a7 => .region (.mv rfl (.nil (a7 _ _ ?_))))
   refine .ret ?_
   refine a _ _ ?_
   refine ⟨_, rfl, ?_⟩
   exact ⟨congrArg _ (B_false fun hS => by rw [allIn_iff.2 hS.idn] at u; cases u), i⟩
  try simp only [sps] at u
  refine .skip ?_
  refine d4 _ _ (.seq (fun K14 c8 => .seq (fun K15 b4 => .region (.mv rfl (.nil (b4 _ _ ?_))))))
  refine .block ?_
  refine .loopR (σ := Nat) [(1, some _), (3, some _)] (fun k => [(4, some (.int .i64 (k : Int)))]) (fun k H' => H1 = H' ∧ (k : Int) ≤ c.obj ∧ ∀ x, x < k → c.src.getD (c.idn.getD x 0).toNat 0 = x ∧ c.tgt.getD (c.idn.getD x 0).toNat 0 = x) (fun k => c.idn.length - k) (0) ⟨rfl, rfl, trivial⟩ ⟨rfl, trivial⟩ ?_ ?_
  ·
   refine ⟨rfl, ?_⟩
   exact ⟨by omega, fun x hx => by omega⟩
  rintro k _ ⟨rfl, hI⟩ KL1 d3
  refine .forget (fr' := [(4, some (.int .i64 (k : Int))), (1, some _), (3, some _)]) ⟨rfl, rfl, rfl, trivial⟩ ?_
  obtain ⟨hk1, f4⟩ := hI
  refine .seq (fun K16 c5 => .seq (fun K17 a9 => .region (.mv rfl (.q rfl (.fieldAddr fo_27_0_B rfl) ?_))))
  refine .q rfl (.load on_2_A rfl (by assumption)) ?_
  refine .q rfl (.cmp rfl rfl rfl) (.nil (a9 _ _ ?_))
  refine .cond rfl (fun b0 => ?_) (fun b0 => ?_)
  ·
   simp only [decide_eq_true_eq] at b0
   have q1 := u k (by omega)
   refine .skip ?_
   refine c5 _ _ (.seq (fun K18 e9 => ?_))
   refine .block ?_
   refine .seq (fun K19 a2 => ?_)
   refine .regionD mo_B (.q 0 (.q 1 (.q 2 (.q 3 (.q 4 (.q 5 (.q 6 (.q 7 (.q 8 (.q 9 (.q 10 (.q 11 (.q 12 (.q 13 (.q 14 (.q 15 (.q 16 (.q 17 (.q 18 (.q 19 (.q 20 (.q 21 (.q 22 (.q 23 (.done))))))))))))))))))))))))) (by kernel_rfl) ?_
   refine .q rfl (.fieldAddr fo_27_1_B rfl) ?_
   refine .q rfl (.load on_24_B rfl (by assumption)) ?_
   refine .q rfl (.fieldAddr fo_27_3_B rfl) ?_
   refine .q rfl (.load on_24_B rfl (by assumption)) ?_
   refine .mv rfl rfl ?_
   refine .q rfl (.idxN sl_24_A (by assumption) rfl rfl (by omega)) ?_
   refine .q rfl (.loadI on_2_A (by assumption) rfl (by omega)) ?_
   refine .q rfl (.idx1 sl_24_A (by assumption) rfl rfl (by omega) (by omega)) ?_
   refine .q rfl (.loadI on_2_A (by assumption) rfl (by omega)) ?_
   refine .mv rfl rfl (.q rfl (.cmp rfl rfl rfl) (.mv rfl rfl ?_))
   refine .split (fun a3 => ?_) (fun a3 => ?_)
   ·
    try simp only [sps] at a3
    refine .z rfl (.z rfl (.z rfl (.z rfl (.z rfl (.z rfl (.z rfl (.z rfl (.z rfl (.z rfl (.z rfl (.q rfl (.pickT rfl rfl) ?_)))))))))))
    refine .done ?_
    refine a2 _ _ ?_
    refine .condT rfl ?_
    refine .seq (fun K20 e6 => .region (.mv rfl (.nil (e6 _ _ ?_))))
    refine .ret ?_
    refine a _ _ ?_
    refine ⟨_, rfl, ?_⟩
    exact ⟨congrArg _ (B_false fun hS => a3 (hS.ids k (by omega)).1), i⟩
   try simp only [sps] at a3
   refine .qg rfl (.fieldAddr fo_27_2_B rfl) ?_
   refine .qg rfl (.load on_24_B rfl (by assumption)) ?_
   refine .qg rfl (.fieldAddr fo_27_3_B rfl) ?_
   refine .qg rfl (.load on_24_B rfl (by assumption)) ?_
   refine .qg rfl (.move rfl) ?_
   refine .qg rfl (.idxN sl_24_A (by assumption) rfl rfl (by omega)) ?_
   refine .qg rfl (.loadI on_2_A (by assumption) rfl (by omega)) ?_
   refine .qg rfl (.idx1 sl_24_A (by assumption) rfl rfl (by omega) (by omega)) ?_
   refine .qg rfl (.loadI on_2_A (by assumption) rfl (by omega)) ?_
   refine .qg rfl (.move rfl) (.qg rfl (.cmp rfl rfl rfl) (.q rfl (.pickF rfl rfl) ?_))
   refine .done ?_
   refine a2 _ _ ?_
   refine .cond rfl (fun a0 => ?_) (fun a0 => ?_)
   ·
    try simp only [sps] at a0
    refine .seq (fun K21 e2 => .region (.mv rfl (.nil (e2 _ _ ?_))))
    refine .ret ?_
    refine a _ _ ?_
    refine ⟨_, rfl, ?_⟩
    exact ⟨congrArg _ (B_false fun hS => a0 (hS.ids k (by omega)).2), i⟩
   try simp only [sps] at a0
   refine .skip ?_
   refine e9 _ _ (.region (.mv rfl ?_))
   refine .q rfl (.add rfl rfl rfl (by omega) (by omega)) ?_
   refine .mv rfl (.nil ?_)
   refine d3 (k + 1) _ _ ?_ ?_ ⟨rfl, rfl, rfl, trivial⟩
   ·
    refine ⟨rfl, ?_⟩
    refine ⟨by omega, fun x hx => ?_⟩
    by_cases e : x < k
    · exact f4 x e
    · obtain rfl : x = k := by omega
      exact ⟨a3, a0⟩
   omega
  try simp only [sps] at b0
  refine .exit ?_
  refine c8 _ _ (.seq (fun K22 e0 => .seq (fun K23 a8 => .region (.mv rfl (.nil (a8 _ _ ?_))))))
  refine .block ?_
  refine .loopR (σ := Nat) [(1, some _), (3, some _)] (fun k => [(5, some (.int .i64 (k : Int)))]) (fun k H' => H1 = H' ∧ k ≤ c.comp.length ∧ ∀ f, f < k → (c.comp.getD f []).length = c.src.length ∧ ∀ g, g < c.src.length → c.Cell f g) (fun k => c.comp.length - k) (0) ⟨rfl, rfl, trivial⟩ ⟨rfl, trivial⟩ ?_ ?_
  ·
   refine ⟨rfl, ?_⟩
   exact ⟨by omega, fun x hx => by omega⟩
  rintro k _ ⟨rfl, hI⟩ KL2 f2
  refine .forget (fr' := [(5, some (.int .i64 (k : Int))), (1, some _), (3, some _)]) ⟨rfl, rfl, rfl, trivial⟩ ?_
  obtain ⟨hk2, e7⟩ := hI
  refine .seq (fun K24 c7 => .seq (fun K25 e3 => .region (.mv rfl (.mv rfl (.q rfl (.cmp rfl rfl rfl) (.nil (e3 _ _ ?_)))))))
  refine .cond rfl (fun f0 => ?_) (fun f0 => ?_)
  ·
   simp only [decide_eq_true_eq] at f0
   have i5 := i4.2 k (by omega)
   refine .skip ?_
   refine c7 _ _ (.seq (fun K26 d1 => ?_))
   refine .block ?_
   refine .seq (fun K27 f1 => .seq (fun K28 d8 => .region (.q rfl (.fieldAddr fo_27_4_B rfl) ?_)))
   refine .q rfl (.load on_25_B rfl (by assumption)) ?_
   refine .mv rfl ?_
   refine .q rfl (.idxN sl_25_B (Intss.sl (by assumption)) rfl rfl (by omega)) ?_
   refine .q rfl (.loadR on_24_B (by assumption) rfl (by omega)) ?_
   refine .q rfl (.len sl_24_A rfl) (.mv rfl (.q rfl (.cmp rfl rfl rfl) (.nil (d8 _ _ ?_))))
   refine .cond rfl (fun b2 => ?_) (fun b2 => ?_)
   ·
    try simp only [sps] at b2
    refine .seq (fun K29 b5 => .region (.mv rfl (.nil (b5 _ _ ?_))))
    refine .ret ?_
    refine a _ _ ?_
    refine ⟨_, rfl, ?_⟩
    exact ⟨congrArg _ (B_false fun hS => by have := hS.row k (by omega); omega), i⟩
   try simp only [sps] at b2
   refine .skip ?_
   refine f1 _ _ (.seq (fun K30 d7 => .region (.mv rfl (.nil (d7 _ _ ?_)))))
   refine .block ?_
   refine .loopR (σ := Nat) [(1, some _), (3, some _), (5, some _)] (fun j => [(6, some (.int .i64 (j : Int)))]) (fun j H' => H1 = H' ∧ j ≤ c.src.length ∧ ∀ g, g < j → c.Cell k g) (fun j => c.src.length - j) (0) ⟨rfl, rfl, rfl, trivial⟩ ⟨rfl, trivial⟩ ?_ ?_
   ·
    refine ⟨rfl, ?_⟩
    exact ⟨by omega, fun x hx => by omega⟩
   rintro j _ ⟨rfl, hI⟩ KL3 a5
   refine .forget (fr' := [(6, some (.int .i64 (j : Int))), (1, some _), (3, some _), (5, some _)]) ⟨rfl, rfl, rfl, rfl, trivial⟩ ?_
   obtain ⟨hk3, d0⟩ := hI
   refine .seq (fun K31 d5 => .seq (fun K32 c9 => .region (.mv rfl (.mv rfl (.q rfl (.cmp rfl rfl rfl) (.nil (c9 _ _ ?_)))))))
   refine .cond rfl (fun s => ?_) (fun s => ?_)
   ·
    try simp only [sps] at s
    refine .skip ?_
    refine d5 _ _ (.seq (fun K33 y => ?_))
    refine .block ?_
    refine .seq (fun K34 d6 => .region (.q rfl (.fieldAddr fo_27_4_B rfl) ?_))
    refine .q rfl (.load on_25_B rfl (by assumption)) ?_
    refine .mv rfl ?_
    refine .q rfl (.idxN sl_25_B (Intss.sl (by assumption)) rfl rfl (by omega)) ?_
    refine .q rfl (.loadR on_24_B (by assumption) rfl (by omega)) ?_
    refine .mv rfl ?_
    refine .q rfl (.idxN sl_24_A (by assumption) rfl rfl (by omega)) ?_
    refine .q rfl (.loadI on_2_A (by assumption) rfl (by omega)) ?_
    refine .mv rfl (.nil (d6 _ _ (.seq (fun K35 d2 => .seq (fun K36 b8 => ?_)))))
    refine .regionD mo_B (.q 0 (.q 1 (.q 2 (.q 3 (.q 4 (.q 5 (.q 6 (.q 7 (.q 8 (.q 9 (.q 10 (.done)))))))))))) (by kernel_rfl) ?_
    refine .q rfl (.fieldAddr fo_27_2_B rfl) ?_
    refine .q rfl (.load on_24_B rfl (by assumption)) ?_
    refine .mv rfl rfl ?_
    refine .q rfl (.idxN sl_24_A (by assumption) rfl rfl (by omega)) ?_
    refine .q rfl (.loadI on_2_A (by assumption) rfl (by omega)) ?_
    refine .q rfl (.fieldAddr fo_27_1_B rfl) ?_
    refine .q rfl (.load on_24_B rfl (by assumption)) ?_
    refine .mv rfl rfl ?_
    refine .q rfl (.idxN sl_24_A (by assumption) rfl rfl (by omega)) ?_
    refine .q rfl (.loadI on_2_A (by assumption) rfl (by omega)) ?_
    refine .q rfl (.cmp rfl rfl rfl) ?_
    refine .done ?_
    refine b8 _ _ ?_
    refine .cond rfl (fun b => ?_) (fun b => ?_)
    ·
     try simp only [sps] at b
     refine .seq (fun K37 f3 => .seq (fun K38 b3 => .region (.mv rfl (.q rfl (.cmp rfl rfl rfl) (.nil (b3 _ _ ?_))))))
     refine .cond rfl (fun l => ?_) (fun l => ?_)
     ·
      try simp only [sps] at l
      refine .seq (fun K39 d9 => .region (.mv rfl (.nil (d9 _ _ ?_))))
      refine .ret ?_
      refine a _ _ ?_
      refine ⟨_, rfl, ?_⟩
      exact ⟨congrArg _ (B_false fun hS => l ((Cat.Cell.neg b).1 (hS.cell k (by omega) j (by omega)))), i⟩
     try simp only [sps] at l
     refine .skip ?_
     refine f3 _ _ ?_
     refine .exit ?_
     refine y _ _ (.region (.mv rfl ?_))
     refine .q rfl (.add rfl rfl rfl (by omega) (by omega)) ?_
     refine .mv rfl (.nil ?_)
     refine a5 (j + 1) _ _ ?_ ?_ ⟨rfl, rfl, rfl, rfl, trivial⟩
     ·
      refine ⟨rfl, ?_⟩
      refine ⟨by omega, fun x hx => ?_⟩
      by_cases e : x < j
      · exact d0 x e
      · obtain rfl : x = j := by omega
        exact (Cat.Cell.neg b).2 l
     omega
    try simp only [sps] at b
    refine .skip ?_
    refine d2 _ _ (.seq (fun K40 n => ?_))
    refine .regionD mo_B (.q 0 (.q 1 (.q 2 (.q 3 (.q 4 (.q 5 (.q 6 (.q 7 (.q 8 (.q 9 (.q 10 (.q 11 (.q 12 (.q 13 (.q 14 (.q 15 (.q 16 (.q 17 (.q 18 (.q 19 (.q 20 (.q 21 (.q 22 (.q 23 (.q 24 (.q 25 (.q 26 (.q 27 (.q 28 (.q 29 (.q 30 (.q 31 (.q 32 (.done)))))))))))))))))))))))))))))))))) (by kernel_rfl) ?_
    refine .mv rfl rfl (.q rfl (.cmp rfl rfl rfl) (.mv rfl rfl ?_))
    refine .split (fun r => ?_) (fun r => ?_)
    ·
     try simp only [sps] at r
     refine .z rfl (.z rfl (.z rfl (.q rfl (.pickT rfl rfl) (.mv rfl rfl (.z rfl (.z rfl (.z rfl (.z rfl (.z rfl (.z rfl (.z rfl (.z rfl (.z rfl (.z rfl (.z rfl ?_)))))))))))))))
     refine .q rfl (.pickT rfl rfl) (.mv rfl rfl (.z rfl (.z rfl (.z rfl (.z rfl (.z rfl (.z rfl (.z rfl (.z rfl (.z rfl (.z rfl (.z rfl (.q rfl (.pickT rfl rfl) ?_)))))))))))))
     refine .done ?_
     refine n _ _ ?_
     refine .condT rfl ?_
     refine .seq (fun K41 b9 => .region (.mv rfl (.nil (b9 _ _ ?_))))
     refine .ret ?_
     refine a _ _ ?_
     refine ⟨_, rfl, ?_⟩
     exact ⟨congrArg _ (B_false fun hS => by have := (Cat.Cell.pos b).1 (hS.cell k (by omega) j (by omega)); omega), i⟩
    try simp only [sps] at r
    refine .qg rfl (.move rfl) (.qg rfl (.move rfl) (.qg rfl (.cmp rfl rfl rfl) (.q rfl (.pickF rfl rfl) (.mv rfl rfl ?_))))
    refine .split (fun t => ?_) (fun t => ?_)
    ·
     try simp only [sps] at t
     refine .z rfl (.z rfl (.z rfl (.z rfl (.z rfl (.z rfl (.z rfl (.z rfl (.z rfl (.z rfl (.z rfl (.q rfl (.pickT rfl rfl) (.mv rfl rfl (.z rfl (.z rfl (.z rfl ?_)))))))))))))))
     refine .z rfl (.z rfl (.z rfl (.z rfl (.z rfl (.z rfl (.z rfl (.z rfl (.q rfl (.pickT rfl rfl) ?_))))))))
     refine .done ?_
     refine n _ _ ?_
     refine .condT rfl ?_
     refine .seq (fun K42 e4 => .region (.mv rfl (.nil (e4 _ _ ?_))))
     refine .ret ?_
     refine a _ _ ?_
     refine ⟨_, rfl, ?_⟩
     exact ⟨congrArg _ (B_false fun hS => by have := (Cat.Cell.pos b).1 (hS.cell k (by omega) j (by omega)); omega), i⟩
    try simp only [sps] at t
    refine .qg rfl (.fieldAddr fo_27_1_B rfl) ?_
    refine .qg rfl (.load on_24_B rfl (by assumption)) ?_
    refine .qg rfl (.move rfl) ?_
    refine .qg rfl (.idx1 sl_24_A (by assumption) rfl rfl (by omega) (by omega)) ?_
    refine .qg rfl (.loadI on_2_A (by assumption) rfl (by omega)) ?_
    refine .qg rfl (.fieldAddr fo_27_1_B rfl) ?_
    refine .qg rfl (.load on_24_B rfl (by assumption)) ?_
    refine .qg rfl (.move rfl) ?_
    refine .qg rfl (.idxN sl_24_A (by assumption) rfl rfl (by omega)) ?_
    refine .qg rfl (.loadI on_2_A (by assumption) rfl (by omega)) ?_
    refine .qg rfl (.cmp rfl rfl rfl) (.q rfl (.pickF rfl rfl) (.mv rfl rfl ?_))
    refine .split (fun m => ?_) (fun m => ?_)
    ·
     try simp only [sps] at m
     refine .z rfl (.z rfl (.z rfl (.z rfl (.z rfl (.z rfl (.z rfl (.z rfl (.z rfl (.z rfl (.z rfl (.q rfl (.pickT rfl rfl) ?_)))))))))))
     refine .done ?_
     refine n _ _ ?_
     refine .condT rfl ?_
     refine .seq (fun K43 c6 => .region (.mv rfl (.nil (c6 _ _ ?_))))
     refine .ret ?_
     refine a _ _ ?_
     refine ⟨_, rfl, ?_⟩
     exact ⟨congrArg _ (B_false fun hS => m ((Cat.Cell.pos b).1 (hS.cell k (by omega) j (by omega))).2.2.1), i⟩
    try simp only [sps] at m
    refine .qg rfl (.fieldAddr fo_27_2_B rfl) ?_
    refine .qg rfl (.load on_24_B rfl (by assumption)) ?_
    refine .qg rfl (.move rfl) ?_
    refine .qg rfl (.idx1 sl_24_A (by assumption) rfl rfl (by omega) (by omega)) ?_
    refine .qg rfl (.loadI on_2_A (by assumption) rfl (by omega)) ?_
    refine .qg rfl (.fieldAddr fo_27_2_B rfl) ?_
    refine .qg rfl (.load on_24_B rfl (by assumption)) ?_
    refine .qg rfl (.move rfl) ?_
    refine .qg rfl (.idxN sl_24_A (by assumption) rfl rfl (by omega)) ?_
    refine .qg rfl (.loadI on_2_A (by assumption) rfl (by omega)) ?_
    refine .qg rfl (.cmp rfl rfl rfl) (.q rfl (.pickF rfl rfl) ?_)
    refine .done ?_
    refine n _ _ ?_
    refine .cond rfl (fun o => ?_) (fun o => ?_)
    ·
     try simp only [sps] at o
     refine .seq (fun K44 b1 => .region (.mv rfl (.nil (b1 _ _ ?_))))
     refine .ret ?_
     refine a _ _ ?_
     refine ⟨_, rfl, ?_⟩
     exact ⟨congrArg _ (B_false fun hS => o ((Cat.Cell.pos b).1 (hS.cell k (by omega) j (by omega))).2.2.2), i⟩
    try simp only [sps] at o
    refine .skip ?_
    refine y _ _ (.region (.mv rfl ?_))
    refine .q rfl (.add rfl rfl rfl (by omega) (by omega)) ?_
    refine .mv rfl (.nil ?_)
    refine a5 (j + 1) _ _ ?_ ?_ ⟨rfl, rfl, rfl, rfl, trivial⟩
    ·
     refine ⟨rfl, ?_⟩
     refine ⟨by omega, fun x hx => ?_⟩
     by_cases e : x < j
     · exact d0 x e
     · obtain rfl : x = j := by omega
       exact (Cat.Cell.pos b).2 ⟨by omega, by omega, by assumption, by assumption⟩
    omega
   try simp only [sps] at s
   refine .exit ?_
   refine d1 _ _ (.region (.mv rfl ?_))
   refine .q rfl (.add rfl rfl rfl (by omega) (by omega)) ?_
   refine .mv rfl (.nil ?_)
   refine f2 (k + 1) _ _ ?_ ?_ ⟨rfl, rfl, rfl, trivial⟩
   ·
    refine ⟨rfl, ?_⟩
    refine ⟨by omega, fun x hx => ?_⟩
    by_cases e : x < k
    · exact e7 x e
    · obtain rfl : x = k := by omega
      exact ⟨by omega, fun g hg => d0 g (by omega)⟩
   omega
  try simp only [sps] at f0
  refine .exit ?_
  refine e0 _ _ (.seq (fun K45 b6 => .region (.mv rfl (.nil (b6 _ _ ?_)))))
  refine .ret ?_
  refine a _ _ ?_
  refine ⟨_, rfl, ?_⟩
  exact ⟨congrArg _ (B_true ⟨a6, by omega, v.1, a1.2, v.2, by omega, u, by omega, fun x hx => f4 x (by omega), fun f hf => (e7 f (by omega)).1, fun f hf => (e7 f (by omega)).2⟩), i⟩
end Go.Proofs.Ytfanjkbaemhbmaa
