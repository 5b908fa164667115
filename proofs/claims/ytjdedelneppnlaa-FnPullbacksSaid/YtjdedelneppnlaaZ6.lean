/- The smallest functions of the program, of the reference and of the laws' file: what each hands back. No condition but those of each statement. -/
import Derived.Test.YtjdedelneppnlaaZ5
import Derived.Test.YtjdedelneppnlaaProg
namespace Go.Proofs.Ytjdedelneppnlaa
open Go Go.GL Go.RowKit Go.Proofs
theorem sl_22_A : sliceT Try.prog 22 = some (2, 1) := by kernel_rfl
theorem on_2_A : oneT Try.prog 2 = true := by kernel_rfl
theorem aggEq_114 (a0 a1 b0 b1 : Int) : ∀ w, (Op.equal 114 (.agg #[.int .i64 a0, .int .i64 a1]) (.agg #[.int .i64 b0, .int .i64 b1])).run Try.prog w = .ok (a0 == b0 && a1 == b1) w := by
  intro w
  unfold Op.equal Op.maxDepth
  simp [go_sem, run_equalIn_agg]
  (repeat' split) <;> simp_all
theorem inRange_c {n lo hi : Int} {H : GHeap} : GCalls Try.prog 121 [.int .i64 n, .int .i64 lo, .int .i64 hi] H (Ret (.bool (inR n lo hi)) H) := by
  refine GCalls.body (N := 15) (rs := [.tmp 6]) Try.func121 rfl rfl rfl rfl (fun Qx hret hend => ?_)
  refine .fg [0, 1, 2] rfl ?_
  refine .seq (fun K1 hK1 => .region (.mv rfl (.nil (hK1 _ _ (.seq (fun K2 hK2 => .region (.mv rfl (.mv rfl (.q rfl (.cmp rfl rfl rfl) (.mv rfl ?_))))))))))
  refine .split (fun h10 => ?_) (fun h10 => ?_)
  ·
   try simp only [sps] at h10
   refine .qg rfl (.move rfl) (.qg rfl (.move rfl) (.qg rfl (.cmp rfl rfl rfl) (.q rfl (.pickT rfl rfl) (.mv rfl (.nil (hK2 _ _ ?_))))))
   refine .ret ?_
   refine hret _ _ ?_
   refine ⟨_, rfl, ?_⟩
   exact .of (by simp [inR]; omega)
  try simp only [sps] at h10
  refine .z rfl (.z rfl (.z rfl (.q rfl (.pickF rfl rfl) (.mv rfl (.nil (hK2 _ _ ?_))))))
  refine .ret ?_
  refine hret _ _ ?_
  refine ⟨_, rfl, ?_⟩
  exact .of (by simp [inR]; omega)
theorem l01In_c {n lo hi : Int} {H : GHeap} : GCalls Try.prog 125 [.int .i64 n, .int .i64 lo, .int .i64 hi] H (Ret (.bool (inR n lo hi)) H) := by
  refine GCalls.body (N := 15) (rs := [.tmp 6]) Try.func125 rfl rfl rfl rfl (fun Qx hret hend => ?_)
  refine .fg [0, 1, 2] rfl ?_
  refine .seq (fun K1 hK1 => .region (.mv rfl (.nil (hK1 _ _ (.seq (fun K2 hK2 => .region (.mv rfl (.mv rfl (.q rfl (.cmp rfl rfl rfl) (.mv rfl ?_))))))))))
  refine .split (fun h10 => ?_) (fun h10 => ?_)
  ·
   try simp only [sps] at h10
   refine .qg rfl (.move rfl) (.qg rfl (.move rfl) (.qg rfl (.cmp rfl rfl rfl) (.q rfl (.pickT rfl rfl) (.mv rfl (.nil (hK2 _ _ ?_))))))
   refine .ret ?_
   refine hret _ _ ?_
   refine ⟨_, rfl, ?_⟩
   exact .of (by simp [inR]; omega)
  try simp only [sps] at h10
  refine .z rfl (.z rfl (.z rfl (.q rfl (.pickF rfl rfl) (.mv rfl (.nil (hK2 _ _ ?_))))))
  refine .ret ?_
  refine hret _ _ ?_
  refine ⟨_, rfl, ?_⟩
  exact .of (by simp [inR]; omega)
theorem within_c {a : Option Addr} {xs : List Int} {n : Int} {H : GHeap} (h : Ints H a xs := by assumption) (hn : -9223372036854775808 < n := by omega) (hn' : n ≤ 9223372036854775807 := by omega) (hl : xs.length ≤ 1048576 := by omega) :
    GCalls Try.prog 103 [.slice a xs.length xs.length, .int .i64 n] H (Ret (.bool (allIn xs n)) H) := by
  refine GCalls.body (N := 19) (rs := [.tmp 4]) Try.func103 rfl rfl rfl rfl (fun Qx hret hend => ?_)
  refine .fg [0, 1] rfl ?_
  refine .seq (fun K1 hK1 => .region (.mv rfl (.nil (hK1 _ _ (.seq (fun K2 hK2 => .seq (fun K3 hK3 => .region (.mv rfl (.q rfl (.len sl_22_A rfl) (.mv rfl (.nil (hK3 _ _ ?_))))))))))))
  refine .block ?_
  refine .loopR (σ := Nat) [(1, some _), (7, some _), (8, some _)] (fun k => [(9, some (.int .i64 (k : Int)))]) (fun k H' => H = H' ∧ k ≤ xs.length ∧ ∀ i, i < k → inR (xs.getD i 0) 0 (n - 1) = true) (fun k => xs.length - k) (0) ⟨rfl, rfl, rfl, trivial⟩ ⟨rfl, trivial⟩ ?_ ?_
  ·
   refine ⟨rfl, ?_⟩
   exact ⟨by omega, fun i hi => by omega⟩
  rintro k _ ⟨rfl, hI⟩ KL1 hKL1
  refine .forget (fr' := [(9, some (.int .i64 (k : Int))), (1, some _), (7, some _), (8, some _)]) ⟨rfl, rfl, rfl, rfl, trivial⟩ ?_
  obtain ⟨hk, hall⟩ := hI
  refine .seq (fun K4 hK4 => .region (.q rfl (.cmp rfl rfl rfl) (.nil (hK4 _ _ (.seq (fun K5 hK5 => ?_))))))
  refine .cond rfl (fun h10 => ?_) (fun h10 => ?_)
  ·
   try simp only [sps] at h10
   refine .skip ?_
   refine hK5 _ _ (.seq (fun K6 hK6 => ?_))
   refine .block ?_
   refine .seq (fun K7 hK7 => .region ?_)
   refine .q rfl (.idxN sl_22_A (by assumption) rfl rfl (by omega)) ?_
   refine .q rfl (.loadI on_2_A (by assumption) rfl (by omega)) ?_
   refine .mv rfl (.nil (hK7 _ _ (.seq (fun K8 hK8 => .region (.mv rfl (.mv rfl ?_))))))
   refine .q rfl (.sub rfl rfl rfl (by omega) (by omega)) ?_
   refine .callQ rfl rfl rfl rfl @Try.call121 rfl (inRange_c) ?_
   refine .q rfl (.not rfl) (.nil (hK8 _ _ ?_))
   refine .cond rfl (fun h17 => ?_) (fun h17 => ?_)
   ·
    try simp only [sps] at h17
    refine .seq (fun K9 hK9 => .region (.mv rfl (.nil (hK9 _ _ ?_))))
    refine .ret ?_
    refine hret _ _ ?_
    refine ⟨_, rfl, ?_⟩
    exact .of (congrArg _ (allN_not (i := k) (by omega) (inR_not.2 h17)))
   try simp only [sps] at h17
   refine .skip ?_
   refine hK6 _ _ (.region ?_)
   refine .q rfl (.add rfl rfl rfl (by omega) (by omega)) ?_
   refine .mv rfl (.nil ?_)
   refine hKL1 (k + 1) _ _ ?_ ?_ ⟨rfl, rfl, rfl, rfl, trivial⟩
   ·
    refine ⟨rfl, ?_⟩
    refine ⟨by omega, fun i hi => ?_⟩
    by_cases e : i < k
    · exact hall i e
    · obtain rfl : i = k := by omega
      exact inR_iff.2 h17
   omega
  try simp only [sps] at h10
  refine .exit ?_
  refine hK2 _ _ (.seq (fun K10 hK10 => .region (.mv rfl (.nil (hK10 _ _ ?_)))))
  refine .ret ?_
  refine hret _ _ ?_
  refine ⟨_, rfl, ?_⟩
  exact .of (congrArg _ (allN_of fun i hi => hall i (by omega)))
theorem l01Map_c {a : Option Addr} {xs : List Int} {n : Int} {H : GHeap} (h : Ints H a xs := by assumption) (hl : xs.length ≤ 1048576 := by omega) :
    GCalls Try.prog 106 [.int .i64 n, .slice a xs.length xs.length] H (Ret (.bool (allIn xs n)) H) := by
  refine GCalls.body (N := 25) (rs := [.tmp 4]) Try.func106 rfl rfl rfl rfl (fun Qx hret hend => ?_)
  refine .fg [0, 1] rfl ?_
  refine .seq (fun K1 hK1 => .region (.mv rfl (.nil (hK1 _ _ (.seq (fun K2 hK2 => .seq (fun K3 hK3 => .region (.mv rfl (.nil (hK3 _ _ ?_))))))))))
  refine .block ?_
  refine .loopR (σ := Nat) [(0, some _), (1, some _)] (fun k => [(5, some (.int .i64 (k : Int)))]) (fun k H' => H = H' ∧ k ≤ xs.length ∧ ∀ i, i < k → inR (xs.getD i 0) 0 (n - 1) = true) (fun k => xs.length - k) (0) ⟨rfl, rfl, trivial⟩ ⟨rfl, trivial⟩ ?_ ?_
  ·
   refine ⟨rfl, ?_⟩
   exact ⟨by omega, fun i hi => by omega⟩
  rintro k _ ⟨rfl, hI⟩ KL1 hKL1
  refine .forget (fr' := [(5, some (.int .i64 (k : Int))), (0, some _), (1, some _)]) ⟨rfl, rfl, rfl, trivial⟩ ?_
  obtain ⟨hk, hall⟩ := hI
  refine .seq (fun K4 hK4 => .seq (fun K5 hK5 => .region (.mv rfl (.mv rfl (.q rfl (.len sl_22_A rfl) (.q rfl (.cmp rfl rfl rfl) (.nil (hK5 _ _ ?_))))))))
  refine .cond rfl (fun h9 => ?_) (fun h9 => ?_)
  ·
   try simp only [sps] at h9
   refine .skip ?_
   refine hK4 _ _ (.seq (fun K6 hK6 => ?_))
   refine .block ?_
   refine .seq (fun K7 hK7 => .region (.mv rfl (.mv rfl ?_)))
   refine .q rfl (.idxN sl_22_A (by assumption) rfl rfl (by omega)) ?_
   refine .q rfl (.loadI on_2_A (by assumption) rfl (by omega)) ?_
   refine .q rfl (.cmp rfl rfl rfl) (.mv rfl ?_)
   refine .split (fun h17 => ?_) (fun h17 => ?_)
   ·
    try simp only [sps] at h17
    refine .z rfl (.z rfl (.z rfl (.z rfl (.z rfl (.z rfl (.q rfl (.pickT rfl rfl) (.nil (hK7 _ _ ?_))))))))
    refine .condT rfl ?_
    refine .seq (fun K8 hK8 => .region (.mv rfl (.nil (hK8 _ _ ?_))))
    refine .ret ?_
    refine hret _ _ ?_
    refine ⟨_, rfl, ?_⟩
    exact .of (congrArg _ (allN_not (i := k) (by omega) (inR_not.2 (.inl h17))))
   try simp only [sps] at h17
   refine .qg rfl (.move rfl) (.qg rfl (.move rfl) ?_)
   refine .qg rfl (.idxN sl_22_A (by assumption) rfl rfl (by omega)) ?_
   refine .qg rfl (.loadI on_2_A (by assumption) rfl (by omega)) ?_
   refine .qg rfl (.move rfl) (.qg rfl (.cmp rfl rfl rfl) (.q rfl (.pickF rfl rfl) (.nil (hK7 _ _ ?_))))
   refine .cond rfl (fun h24 => ?_) (fun h24 => ?_)
   ·
    try simp only [sps] at h24
    refine .seq (fun K9 hK9 => .region (.mv rfl (.nil (hK9 _ _ ?_))))
    refine .ret ?_
    refine hret _ _ ?_
    refine ⟨_, rfl, ?_⟩
    exact .of (congrArg _ (allN_not (i := k) (by omega) (inR_not.2 (.inr (by simp at h24 ⊢; omega)))))
   try simp only [sps] at h24
   refine .skip ?_
   refine hK6 _ _ (.region (.mv rfl ?_))
   refine .q rfl (.add rfl rfl rfl (by omega) (by omega)) ?_
   refine .mv rfl (.nil ?_)
   refine hKL1 (k + 1) _ _ ?_ ?_ ⟨rfl, rfl, rfl, trivial⟩
   ·
    refine ⟨rfl, ?_⟩
    refine ⟨by omega, fun i hi => ?_⟩
    by_cases e : i < k
    · exact hall i e
    · obtain rfl : i = k := by omega
      exact inR_iff.2 ⟨h17, by omega⟩
   omega
  try simp only [sps] at h9
  refine .exit ?_
  refine hK2 _ _ (.seq (fun K10 hK10 => .region (.mv rfl (.nil (hK10 _ _ ?_)))))
  refine .ret ?_
  refine hret _ _ ?_
  refine ⟨_, rfl, ?_⟩
  exact .of (congrArg _ (allN_of fun i hi => hall i (by omega)))
end Go.Proofs.Ytjdedelneppnlaa
namespace Go.Proofs.Ytjdedelneppnlaa
open Go Go.GL Go.RowKit Go.Proofs
theorem fo_29_1_B : fieldOff Try.prog 29 1 = some 1 := by kernel_rfl
theorem on_22_B : oneT Try.prog 22 = true := by kernel_rfl
theorem ze_114_B : zeroT Try.prog 114 = some ([.int .i64 0, .int .i64 0], 2) := by kernel_rfl
theorem mo_B : Try.prog.follows .mixedOrders = true := by kernel_rfl
theorem fo_29_2_B : fieldOff Try.prog 29 2 = some 2 := by kernel_rfl
theorem bt_114_B : buildT Try.prog 114 = some ([.int .i64 0, .int .i64 0], [(0, 1), (1, 1)]) := by kernel_rfl
theorem sz_114_B : (Try.prog.info? 114).map (·.size) = some 2 := by kernel_rfl
theorem ag_114_B : aggT Try.prog 114 = some 2 := by kernel_rfl
theorem fo_29_4_B : fieldOff Try.prog 29 4 = some 4 := by kernel_rfl
theorem on_23_B : oneT Try.prog 23 = true := by kernel_rfl
theorem sl_23_B : sliceT Try.prog 23 = some (22, 1) := by kernel_rfl
theorem fo_29_0_B : fieldOff Try.prog 29 0 = some 0 := by kernel_rfl
theorem fo_29_3_B : fieldOff Try.prog 29 3 = some 3 := by kernel_rfl
theorem eg_114_B : Try.prog.eqGuardType Try.prog.depth 114 = false := by kernel_rfl
theorem arrows_c {g o : Nat} {c : Cat} {p : CatP} {H : GHeap} (h : Cat.At H g o c p := by assumption) : GCalls Try.prog 110 [.pointer (some ⟨g, o, none⟩)] H (Ret (.int .i64 c.src.length) H) := by
  refine GCalls.body (N := 8) (rs := [.tmp 2]) Try.func110 rfl rfl rfl rfl (fun Qx hret hend => ?_)
  refine .fg [0] rfl ?_
  obtain ⟨c0, c1, c2, c3, c4, i1, i2, i3, i4⟩ := h.get
  refine .seq (fun K1 hK1 => .region (.mv rfl (.nil (hK1 _ _ (.seq (fun K2 hK2 => .region (.mv rfl (.q rfl (.nilCheck rfl) (.q rfl (.fieldAddr fo_29_1_B rfl) ?_)))))))))
  refine .q rfl (.load on_22_B rfl (by assumption)) ?_
  refine .q rfl (.len sl_22_A rfl) (.mv rfl (.nil (hK2 _ _ ?_)))
  refine .ret ?_
  refine hret _ _ ?_
  refine ⟨_, rfl, ?_⟩
  exact .mk
theorem ends_c {g o : Nat} {c : Cat} {p : CatP} {f : Int} {H : GHeap} (h : Cat.At H g o c p := by assumption) (h0 : 0 ≤ f := by omega) (h1 : f < c.src.length := by omega) (h2 : f < c.tgt.length := by omega) :
    GCalls Try.prog 97 [.pointer (some ⟨g, o, none⟩), .int .i64 f] H (Ret (.agg #[.int .i64 (c.src.getD f.toNat 0), .int .i64 (c.tgt.getD f.toNat 0)]) H) := by
  refine GCalls.ret rfl ?_
  refine GCalls.body (N := 20) (rs := [.cell 4 114]) Try.func97 rfl rfl rfl rfl (fun Qx hret hend => ?_)
  refine .fg [0, 1] rfl ?_
  refine .seq (fun K1 hK1 => .region (.d rfl rfl rfl (.alloc rfl ze_114_B rfl CIs.mk) ?_))
  replace h := h.mono (GHeap.le_push H (.row [.int .i64 0, .int .i64 0] 114 true))
  have hle := GHeap.le_push H (.row [.int .i64 0, .int .i64 0] 114 true)
  have hn := GHeap.get_push_new H (.row [.int .i64 0, .int .i64 0] 114 true)
  generalize H.push (.row [.int .i64 0, .int .i64 0] 114 true) = H1 at *
  obtain ⟨-, c1, c2, -, -, i1, i2, -, -⟩ := h.get
  refine .nil (hK1 _ _ (.seq (fun K2 hK2 => ?_)))
  refine .regionD mo_B (.q 0 (.q 1 (.q 2 (.q 3 (.q 4 (.q 5 (.q 6 (.q 7 (.q 8 (.q 9 (.q 10 (.q 11 (.q 12 (.q 13 (.q 14 (.c 15 0 (.done))))))))))))))))) (by kernel_rfl) ?_
  refine .mv rfl rfl (.q rfl (.nilCheck rfl) (.q rfl (.fieldAddr fo_29_1_B rfl) ?_))
  refine .q rfl (.load on_22_B rfl (by assumption)) ?_
  refine .mv rfl rfl ?_
  refine .q rfl (.idx1 sl_22_A (by assumption) rfl rfl (by omega) (by omega)) ?_
  refine .q rfl (.loadI on_2_A (by assumption) rfl (by omega)) ?_
  refine .mv rfl rfl (.q rfl (.nilCheck rfl) (.q rfl (.fieldAddr fo_29_2_B rfl) ?_))
  refine .q rfl (.load on_22_B rfl (by assumption)) ?_
  refine .mv rfl rfl ?_
  refine .q rfl (.idx1 sl_22_A (by assumption) rfl rfl (by omega) (by omega)) ?_
  refine .q rfl (.loadI on_2_A (by assumption) rfl (by omega)) ?_
  refine .q rfl (.build bt_114_B rfl rfl rfl) ?_
  refine .s0 rfl rfl rfl (.storeN rfl sz_114_B rfl rfl rfl rfl (by assumption) (by simp) CIs.mk) ?_
  refine .done ?_
  refine hK2 _ _ ?_
  refine .ret ?_
  refine hret _ _ ?_
  refine ⟨_, _, _, _, rfl, ag_114_B, (by rfl), (Mem.of_get (GHeap.get_set_eq (GHeap.ltg hn))), ?_⟩
  exact ⟨rfl, hle.set_new (Nat.le_refl _)⟩
theorem then_c {g o : Nat} {c : Cat} {p : CatP} {f k : Int} {H : GHeap} (h : Cat.At H g o c p := by assumption) (h0 : 0 ≤ f := by omega) (h1 : f < c.comp.length := by omega) (h2 : 0 ≤ k := by omega) (h3 : k < (c.comp.getD f.toNat []).length := by omega) :
    GCalls Try.prog 64 [.pointer (some ⟨g, o, none⟩), .int .i64 f, .int .i64 k] H (Ret (.int .i64 ((c.comp.getD f.toNat []).getD k.toNat 0)) H) := by
  refine GCalls.body (N := 17) (rs := [.tmp 6]) Try.func64 rfl rfl rfl rfl (fun Qx hret hend => ?_)
  refine .fg [0, 1, 2] rfl ?_
  obtain ⟨c0, c1, c2, c3, c4, i1, i2, i3, i4⟩ := h.get
  have hrow := i4.2 f.toNat (by omega)
  have hi4 := i4
  refine .seq (fun K1 hK1 => .region (.mv rfl (.nil (hK1 _ _ (.seq (fun K2 hK2 => .region (.mv rfl (.q rfl (.nilCheck rfl) (.q rfl (.fieldAddr fo_29_4_B rfl) ?_)))))))))
  refine .q rfl (.load on_23_B rfl (by assumption)) ?_
  refine .mv rfl ?_
  refine .q rfl (.idx1 sl_23_B (Intss.sl (by assumption)) rfl rfl (by omega) (by omega)) ?_
  refine .q rfl (.loadR on_22_B (by assumption) rfl (by omega)) ?_
  refine .mv rfl ?_
  refine .q rfl (.idx1 sl_22_A (by assumption) rfl rfl (by omega) (by omega)) ?_
  refine .q rfl (.loadI on_2_A (by assumption) rfl (by omega)) ?_
  refine .mv rfl (.nil (hK2 _ _ ?_))
  refine .ret ?_
  refine hret _ _ ?_
  refine ⟨_, rfl, ?_⟩
  exact .mk
theorem isShape_c {g o : Nat} {c : Cat} {p : CatP} {H : GHeap} (h : Cat.At H g o c p := by assumption) (hs : c.Small := by assumption) : GCalls Try.prog 93 [.pointer (some ⟨g, o, none⟩)] H (Ret (.bool (B c.Shape)) H) := by
  refine GCalls.body (N := 167) (rs := [.tmp 2]) Try.func93 rfl rfl rfl rfl (fun Qx hret hend => ?_)
  refine .fg [0] rfl ?_
  obtain ⟨c0, c1, c2, c3, c4, i1, i2, i3, i4⟩ := h.get
  obtain ⟨s1, s2, s3, -, -, s6⟩ := hs
  refine .seq (fun K1 hK1 => .region (.mv rfl (.nil (hK1 _ _ (.seq (fun K2 hK2 => .region (.mv rfl ?_)))))))
  refine .callQ rfl rfl rfl rfl @Try.call110 rfl (arrows_c) ?_
  refine .mv rfl (.nil (hK2 _ _ (.seq (fun K3 hK3 => .seq (fun K4 hK4 => ?_)))))
  refine .regionD mo_B (.q 0 (.q 1 (.q 2 (.q 3 (.c 4 0 (.q 5 (.q 6 (.q 7 (.q 8 (.q 9 (.q 10 (.q 11 (.q 12 (.q 13 (.q 14 (.q 15 (.q 16 (.q 17 (.q 18 (.q 19 (.q 20 (.q 21 (.q 22 (.q 23 (.q 24 (.q 25 (.q 26 (.q 27 (.c 28 0 (.q 29 (.q 30 (.q 31 (.q 32 (.q 33 (.q 34 (.q 35 (.q 36 (.q 37 (.q 38 (.q 39 (.c 40 0 (.q 41 (.q 42 (.done)))))))))))))))))))))))))))))))))))))))))))) (by kernel_rfl) ?_
  refine .mv rfl rfl (.q rfl (.nilCheck rfl) (.q rfl (.fieldAddr fo_29_0_B rfl) ?_))
  refine .q rfl (.load on_2_A rfl (by assumption)) ?_
  refine .callQ0 rfl rfl rfl rfl rfl @Try.call121 rfl (inRange_c) ?_
  refine .q rfl (.not rfl) (.mv rfl rfl ?_)
  refine .split (fun h18 => ?_) (fun h18 => ?_)
  ·
   try simp only [sps] at h18
   refine .z rfl (.z rfl (.q rfl (.pickT rfl rfl) (.mv rfl rfl (.z rfl (.z rfl (.z rfl (.z rfl (.z rfl (.z rfl (.z rfl (.q rfl (.pickT rfl rfl) (.mv rfl rfl (.z rfl (.z rfl (.z rfl ?_)))))))))))))))
   refine .z rfl (.z rfl (.z rfl (.z rfl (.z rfl (.sgc rfl rfl rfl rfl rfl rfl (.z rfl (.q rfl (.pickT rfl rfl) (.mv rfl rfl (.z rfl (.z rfl (.z rfl (.z rfl (.z rfl (.z rfl (.z rfl ?_)))))))))))))))
   refine .z rfl (.sgc rfl rfl rfl rfl rfl rfl (.z rfl (.q rfl (.pickT rfl rfl) ?_)))
   refine .done ?_
   refine hK4 _ _ ?_
   refine .condT rfl ?_
   refine .seq (fun K5 hK5 => .region (.mv rfl (.nil (hK5 _ _ ?_))))
   refine .ret ?_
   refine hret _ _ ?_
   refine ⟨_, rfl, ?_⟩
   exact .of (congrArg _ (B_false fun hS => by have q1 := hS.obj; have q2 := hS.n40; have q3 := hS.tl; have q4 := hS.il; have q5 := hS.cl; omega))
  try simp only [sps] at h18
  refine .qg rfl (.move rfl) (.qg rfl (.cmp rfl rfl rfl) (.q rfl (.pickF rfl rfl) (.mv rfl rfl ?_)))
  refine .split (fun h22 => ?_) (fun h22 => ?_)
  ·
   try simp only [sps] at h22
   refine .z rfl (.z rfl (.z rfl (.z rfl (.z rfl (.z rfl (.z rfl (.q rfl (.pickT rfl rfl) (.mv rfl rfl (.z rfl (.z rfl (.z rfl (.z rfl (.z rfl (.z rfl (.z rfl ?_)))))))))))))))
   refine .z rfl (.sgc rfl rfl rfl rfl rfl rfl (.z rfl (.q rfl (.pickT rfl rfl) (.mv rfl rfl (.z rfl (.z rfl (.z rfl (.z rfl (.z rfl (.z rfl (.z rfl (.z rfl (.sgc rfl rfl rfl rfl rfl rfl (.z rfl (.q rfl (.pickT rfl rfl) ?_)))))))))))))))
   refine .done ?_
   refine hK4 _ _ ?_
   refine .condT rfl ?_
   refine .seq (fun K6 hK6 => .region (.mv rfl (.nil (hK6 _ _ ?_))))
   refine .ret ?_
   refine hret _ _ ?_
   refine ⟨_, rfl, ?_⟩
   exact .of (congrArg _ (B_false fun hS => by have q1 := hS.obj; have q2 := hS.n40; have q3 := hS.tl; have q4 := hS.il; have q5 := hS.cl; omega))
  try simp only [sps] at h22
  refine .qg rfl (.move rfl) (.qg rfl (.nilCheck rfl) (.qg rfl (.fieldAddr fo_29_2_B rfl) ?_))
  refine .qg rfl (.load on_22_B rfl (by assumption)) ?_
  refine .qg rfl (.len sl_22_A rfl) (.qg rfl (.move rfl) (.qg rfl (.cmp rfl rfl rfl) (.q rfl (.pickF rfl rfl) (.mv rfl rfl ?_))))
  refine .split (fun h31 => ?_) (fun h31 => ?_)
  ·
   try simp only [sps] at h31
   refine .z rfl (.z rfl (.z rfl (.z rfl (.z rfl (.z rfl (.z rfl (.z rfl (.sgc rfl rfl rfl rfl rfl rfl (.z rfl (.q rfl (.pickT rfl rfl) (.mv rfl rfl (.z rfl (.z rfl (.z rfl (.z rfl ?_)))))))))))))))
   refine .z rfl (.z rfl (.z rfl (.z rfl (.sgc rfl rfl rfl rfl rfl rfl (.z rfl (.q rfl (.pickT rfl rfl) ?_))))))
   refine .done ?_
   refine hK4 _ _ ?_
   refine .condT rfl ?_
   refine .seq (fun K7 hK7 => .region (.mv rfl (.nil (hK7 _ _ ?_))))
   refine .ret ?_
   refine hret _ _ ?_
   refine ⟨_, rfl, ?_⟩
   exact .of (congrArg _ (B_false fun hS => by have q1 := hS.obj; have q2 := hS.n40; have q3 := hS.tl; have q4 := hS.il; have q5 := hS.cl; omega))
  try simp only [sps] at h31
  refine .qg rfl (.move rfl) (.qg rfl (.nilCheck rfl) (.qg rfl (.fieldAddr fo_29_1_B rfl) ?_))
  refine .qg rfl (.load on_22_B rfl (by assumption)) ?_
  refine .qg rfl (.move rfl) (.qg rfl (.nilCheck rfl) (.qg rfl (.fieldAddr fo_29_0_B rfl) ?_))
  refine .qg rfl (.load on_2_A rfl (by assumption)) ?_
  refine .callQ0g rfl rfl rfl rfl rfl rfl rfl @Try.call103 rfl (within_c) ?_
  refine .qg rfl (.not rfl) (.q rfl (.pickF rfl rfl) (.mv rfl rfl ?_))
  refine .split (fun h43 => ?_) (fun h43 => ?_)
  ·
   try simp only [sps] at h43
   refine .z rfl (.z rfl (.z rfl (.z rfl (.z rfl (.z rfl (.z rfl (.z rfl (.sgc rfl rfl rfl rfl rfl rfl (.z rfl (.q rfl (.pickT rfl rfl) ?_))))))))))
   refine .done ?_
   refine hK4 _ _ ?_
   refine .condT rfl ?_
   refine .seq (fun K8 hK8 => .region (.mv rfl (.nil (hK8 _ _ ?_))))
   refine .ret ?_
   refine hret _ _ ?_
   refine ⟨_, rfl, ?_⟩
   exact .of (congrArg _ (B_false fun hS => by rw [allIn_iff.2 hS.src] at h43; cases h43))
  try simp only [sps] at h43
  refine .qg rfl (.move rfl) (.qg rfl (.nilCheck rfl) (.qg rfl (.fieldAddr fo_29_2_B rfl) ?_))
  refine .qg rfl (.load on_22_B rfl (by assumption)) ?_
  refine .qg rfl (.move rfl) (.qg rfl (.nilCheck rfl) (.qg rfl (.fieldAddr fo_29_0_B rfl) ?_))
  refine .qg rfl (.load on_2_A rfl (by assumption)) ?_
  refine .callQ0g rfl rfl rfl rfl rfl rfl rfl @Try.call103 rfl (within_c) ?_
  refine .qg rfl (.not rfl) (.q rfl (.pickF rfl rfl) ?_)
  refine .done ?_
  refine hK4 _ _ ?_
  refine .cond rfl (fun h54 => ?_) (fun h54 => ?_)
  ·
   try simp only [sps] at h54
   refine .seq (fun K9 hK9 => .region (.mv rfl (.nil (hK9 _ _ ?_))))
   refine .ret ?_
   refine hret _ _ ?_
   refine ⟨_, rfl, ?_⟩
   exact .of (congrArg _ (B_false fun hS => by rw [allIn_iff.2 hS.tgt] at h54; cases h54))
  try simp only [sps] at h54
  refine .skip ?_
  refine hK3 _ _ (.seq (fun K10 hK10 => .seq (fun K11 hK11 => ?_)))
  refine .regionD mo_B (.q 0 (.q 1 (.q 2 (.q 3 (.q 4 (.q 5 (.q 6 (.q 7 (.q 8 (.q 9 (.q 10 (.q 11 (.q 12 (.q 13 (.q 14 (.q 15 (.c 16 0 (.q 17 (.q 18 (.q 19 (.q 20 (.q 21 (.q 22 (.q 23 (.q 24 (.q 25 (.q 26 (.q 27 (.done))))))))))))))))))))))))))))) (by kernel_rfl) ?_
  refine .mv rfl rfl (.q rfl (.nilCheck rfl) (.q rfl (.fieldAddr fo_29_3_B rfl) ?_))
  refine .q rfl (.load on_22_B rfl (by assumption)) ?_
  refine .q rfl (.len sl_22_A rfl) (.mv rfl rfl (.q rfl (.nilCheck rfl) (.q rfl (.fieldAddr fo_29_0_B rfl) ?_)))
  refine .q rfl (.load on_2_A rfl (by assumption)) ?_
  refine .q rfl (.cmp rfl rfl rfl) (.mv rfl rfl ?_)
  refine .split (fun h65 => ?_) (fun h65 => ?_)
  ·
   try simp only [sps] at h65
   refine .z rfl (.z rfl (.z rfl (.z rfl (.z rfl (.sgc rfl rfl rfl rfl rfl rfl (.z rfl (.q rfl (.pickT rfl rfl) (.mv rfl rfl (.z rfl (.z rfl (.z rfl (.z rfl (.z rfl (.z rfl (.z rfl ?_)))))))))))))))
   refine .q rfl (.pickT rfl rfl) ?_
   refine .done ?_
   refine hK11 _ _ ?_
   refine .condT rfl ?_
   refine .seq (fun K12 hK12 => .region (.mv rfl (.nil (hK12 _ _ ?_))))
   refine .ret ?_
   refine hret _ _ ?_
   refine ⟨_, rfl, ?_⟩
   exact .of (congrArg _ (B_false fun hS => by have q1 := hS.obj; have q2 := hS.n40; have q3 := hS.tl; have q4 := hS.il; have q5 := hS.cl; omega))
  try simp only [sps] at h65
  refine .qg rfl (.move rfl) (.qg rfl (.nilCheck rfl) (.qg rfl (.fieldAddr fo_29_3_B rfl) ?_))
  refine .qg rfl (.load on_22_B rfl (by assumption)) ?_
  refine .qg rfl (.move rfl) ?_
  refine .callQ0g rfl rfl rfl rfl rfl rfl rfl @Try.call103 rfl (within_c) ?_
  refine .qg rfl (.not rfl) (.q rfl (.pickF rfl rfl) (.mv rfl rfl ?_))
  refine .split (fun h74 => ?_) (fun h74 => ?_)
  ·
   try simp only [sps] at h74
   refine .z rfl (.z rfl (.z rfl (.z rfl (.z rfl (.z rfl (.z rfl (.q rfl (.pickT rfl rfl) ?_)))))))
   refine .done ?_
   refine hK11 _ _ ?_
   refine .condT rfl ?_
   refine .seq (fun K13 hK13 => .region (.mv rfl (.nil (hK13 _ _ ?_))))
   refine .ret ?_
   refine hret _ _ ?_
   refine ⟨_, rfl, ?_⟩
   exact .of (congrArg _ (B_false fun hS => by rw [allIn_iff.2 hS.idn] at h74; cases h74))
  try simp only [sps] at h74
  refine .qg rfl (.move rfl) (.qg rfl (.nilCheck rfl) (.qg rfl (.fieldAddr fo_29_4_B rfl) ?_))
  refine .qg rfl (.load on_23_B rfl (by assumption)) ?_
  refine .qg rfl (.len sl_23_B rfl) (.qg rfl (.move rfl) (.qg rfl (.cmp rfl rfl rfl) (.q rfl (.pickF rfl rfl) ?_)))
  refine .done ?_
  refine hK11 _ _ ?_
  refine .cond rfl (fun h82 => ?_) (fun h82 => ?_)
  ·
   try simp only [sps] at h82
   refine .seq (fun K14 hK14 => .region (.mv rfl (.nil (hK14 _ _ ?_))))
   refine .ret ?_
   refine hret _ _ ?_
   refine ⟨_, rfl, ?_⟩
   exact .of (congrArg _ (B_false fun hS => by have q1 := hS.obj; have q2 := hS.n40; have q3 := hS.tl; have q4 := hS.il; have q5 := hS.cl; omega))
  try simp only [sps] at h82
  refine .skip ?_
  refine hK10 _ _ (.seq (fun K15 hK15 => .seq (fun K16 hK16 => .region (.mv rfl (.q rfl (.nilCheck rfl) (.q rfl (.fieldAddr fo_29_3_B rfl) ?_))))))
  refine .q rfl (.load on_22_B rfl (by assumption)) ?_
  refine .q rfl (.len sl_22_A rfl) (.mv rfl (.nil (hK16 _ _ ?_)))
  refine .block ?_
  refine .loopR (σ := Nat) [(0, some _), (3, some _), (86, some _), (87, some _)] (fun k => [(88, some (.int .i64 (k : Int)))]) (fun k H' => H = H' ∧ k ≤ c.idn.length ∧ ∀ x, x < k → c.src.getD (c.idn.getD x 0).toNat 0 = x ∧ c.tgt.getD (c.idn.getD x 0).toNat 0 = x) (fun k => c.idn.length - k) (0) ⟨rfl, rfl, rfl, rfl, trivial⟩ ⟨rfl, trivial⟩ ?_ ?_
  ·
   refine ⟨rfl, ?_⟩
   exact ⟨by omega, fun x hx => by omega⟩
  rintro k _ ⟨rfl, hI⟩ KL1 hKL1
  refine .forget (fr' := [(88, some (.int .i64 (k : Int))), (0, some _), (3, some _), (86, some _), (87, some _)]) ⟨rfl, rfl, rfl, rfl, rfl, trivial⟩ ?_
  obtain ⟨hk1, ha1⟩ := hI
  refine .seq (fun K17 hK17 => .region (.q rfl (.cmp rfl rfl rfl) (.nil (hK17 _ _ (.seq (fun K18 hK18 => ?_))))))
  refine .cond rfl (fun h89 => ?_) (fun h89 => ?_)
  ·
   simp only [decide_eq_true_eq] at h89
   have q1 := h74 k (by omega)
   refine .skip ?_
   refine hK18 _ _ (.seq (fun K19 hK19 => ?_))
   refine .block ?_
   refine .seq (fun K20 hK20 => .region (.mv rfl ?_))
   refine .q rfl (.idxN sl_22_A (by assumption) rfl rfl (by omega)) ?_
   refine .q rfl (.loadI on_2_A (by assumption) rfl (by omega)) ?_
   refine .mv rfl (.mv rfl (.nil (hK20 _ _ (.seq (fun K21 hK21 => .region (.mv rfl (.mv rfl ?_)))))))
   refine .callQ rfl rfl rfl rfl @Try.call97 rfl (ends_c) ?_
   refine .mv rfl (.mv rfl (.q rfl (.build bt_114_B rfl rfl rfl) (.q rfl (.aggNe eg_114_B rfl rfl rfl rfl (aggEq_114 _ _ _ _)) (.nil (hK21 _ _ ?_)))))
   refine .cond rfl (fun h99 => ?_) (fun h99 => ?_)
   ·
    try simp only [sps] at h99
    refine .seq (fun K22 hK22 => .region (.mv rfl (.nil (hK22 _ _ ?_))))
    refine .ret ?_
    refine hret _ _ ?_
    refine ⟨_, rfl, ?_⟩
    exact .of (congrArg _ (B_false fun hS => by have := hS.ids k (by omega); omega))
   try simp only [sps] at h99
   refine .skip ?_
   refine hK19 _ _ (.region ?_)
   refine .q rfl (.add rfl rfl rfl (by omega) (by omega)) ?_
   refine .mv rfl (.nil ?_)
   refine hKL1 (k + 1) _ _ ?_ ?_ ⟨rfl, rfl, rfl, rfl, rfl, trivial⟩
   ·
    refine ⟨rfl, ?_⟩
    refine ⟨by omega, fun x hx => ?_⟩
    by_cases e : x < k
    · exact ha1 x e
    · obtain rfl : x = k := by omega
      exact h99
   omega
  try simp only [sps] at h89
  refine .exit ?_
  refine hK15 _ _ (.seq (fun K23 hK23 => .seq (fun K24 hK24 => .region (.mv rfl (.q rfl (.nilCheck rfl) (.q rfl (.fieldAddr fo_29_4_B rfl) ?_))))))
  refine .q rfl (.load on_23_B rfl (by assumption)) ?_
  refine .q rfl (.len sl_23_B rfl) (.mv rfl (.nil (hK24 _ _ ?_)))
  refine .block ?_
  refine .loopR (σ := Nat) [(0, some _), (3, some _), (104, some _), (105, some _)] (fun k => [(106, some (.int .i64 (k : Int)))]) (fun k H' => H = H' ∧ k ≤ c.comp.length ∧ ∀ f, f < k → (c.comp.getD f []).length = c.src.length ∧ ∀ g, g < c.src.length → c.Cell f g) (fun k => c.comp.length - k) (0) ⟨rfl, rfl, rfl, rfl, trivial⟩ ⟨rfl, trivial⟩ ?_ ?_
  ·
   refine ⟨rfl, ?_⟩
   exact ⟨by omega, fun x hx => by omega⟩
  rintro k _ ⟨rfl, hI⟩ KL2 hKL2
  refine .forget (fr' := [(106, some (.int .i64 (k : Int))), (0, some _), (3, some _), (104, some _), (105, some _)]) ⟨rfl, rfl, rfl, rfl, rfl, trivial⟩ ?_
  obtain ⟨hk2, ha2⟩ := hI
  refine .seq (fun K25 hK25 => .region (.q rfl (.cmp rfl rfl rfl) (.nil (hK25 _ _ (.seq (fun K26 hK26 => ?_))))))
  refine .cond rfl (fun h107 => ?_) (fun h107 => ?_)
  ·
   simp only [decide_eq_true_eq] at h107
   have i5 := i4.2 k (by omega)
   refine .skip ?_
   refine hK26 _ _ (.seq (fun K27 hK27 => ?_))
   refine .block ?_
   refine .seq (fun K28 hK28 => .region (.mv rfl ?_))
   refine .q rfl (.idxN sl_23_B (Intss.sl (by assumption)) rfl rfl (by omega)) ?_
   refine .q rfl (.loadR on_22_B (by assumption) rfl (by omega)) ?_
   refine .mv rfl (.mv rfl (.nil (hK28 _ _ (.seq (fun K29 hK29 => .seq (fun K30 hK30 => .region (.mv rfl (.q rfl (.len sl_22_A rfl) (.mv rfl (.q rfl (.cmp rfl rfl rfl) (.nil (hK30 _ _ ?_))))))))))))
   refine .cond rfl (fun h114 => ?_) (fun h114 => ?_)
   ·
    try simp only [sps] at h114
    refine .seq (fun K31 hK31 => .region (.mv rfl (.nil (hK31 _ _ ?_))))
    refine .ret ?_
    refine hret _ _ ?_
    refine ⟨_, rfl, ?_⟩
    exact .of (congrArg _ (B_false fun hS => by have := hS.row k (by omega); omega))
   try simp only [sps] at h114
   refine .skip ?_
   refine hK29 _ _ (.seq (fun K32 hK32 => .region (.mv rfl (.q rfl (.len sl_22_A rfl) (.mv rfl (.nil (hK32 _ _ ?_)))))))
   refine .block ?_
   refine .loopR (σ := Nat) [(0, some _), (3, some _), (6, some _), (104, some _), (105, some _), (106, some _), (115, some _), (116, some _)] (fun j => [(117, some (.int .i64 (j : Int)))]) (fun j H' => H = H' ∧ j ≤ (c.comp.getD k []).length ∧ ∀ g, g < j → c.Cell k g) (fun j => (c.comp.getD k []).length - j) (0) ⟨rfl, rfl, rfl, rfl, rfl, rfl, rfl, rfl, trivial⟩ ⟨rfl, trivial⟩ ?_ ?_
   ·
    refine ⟨rfl, ?_⟩
    exact ⟨by omega, fun x hx => by omega⟩
   rintro j _ ⟨rfl, hI⟩ KL3 hKL3
   refine .forget (fr' := [(117, some (.int .i64 (j : Int))), (0, some _), (3, some _), (6, some _), (104, some _), (105, some _), (106, some _), (115, some _), (116, some _)]) ⟨rfl, rfl, rfl, rfl, rfl, rfl, rfl, rfl, rfl, trivial⟩ ?_
   obtain ⟨hk3, ha3⟩ := hI
   refine .seq (fun K33 hK33 => .region (.q rfl (.cmp rfl rfl rfl) (.nil (hK33 _ _ (.seq (fun K34 hK34 => ?_))))))
   refine .cond rfl (fun h118 => ?_) (fun h118 => ?_)
   ·
    try simp only [sps] at h118
    refine .skip ?_
    refine hK34 _ _ (.seq (fun K35 hK35 => ?_))
    refine .block ?_
    refine .seq (fun K36 hK36 => .region (.mv rfl ?_))
    refine .q rfl (.idxN sl_22_A (by assumption) rfl rfl (by omega)) ?_
    refine .q rfl (.loadI on_2_A (by assumption) rfl (by omega)) ?_
    refine .mv rfl (.mv rfl (.nil (hK36 _ _ (.seq (fun K37 hK37 => .seq (fun K38 hK38 => ?_))))))
    refine .regionD mo_B (.q 0 (.q 1 (.q 2 (.q 3 (.q 4 (.q 5 (.q 6 (.q 7 (.q 8 (.q 9 (.q 10 (.q 11 (.q 12 (.q 13 (.q 14 (.done)))))))))))))))) (by kernel_rfl) ?_
    refine .mv rfl rfl (.q rfl (.nilCheck rfl) (.q rfl (.fieldAddr fo_29_2_B rfl) ?_))
    refine .q rfl (.load on_22_B rfl (by assumption)) ?_
    refine .mv rfl rfl ?_
    refine .q rfl (.idxN sl_22_A (by assumption) rfl rfl (by omega)) ?_
    refine .q rfl (.loadI on_2_A (by assumption) rfl (by omega)) ?_
    refine .mv rfl rfl (.q rfl (.nilCheck rfl) (.q rfl (.fieldAddr fo_29_1_B rfl) ?_))
    refine .q rfl (.load on_22_B rfl (by assumption)) ?_
    refine .mv rfl rfl ?_
    refine .q rfl (.idxN sl_22_A (by assumption) rfl rfl (by omega)) ?_
    refine .q rfl (.loadI on_2_A (by assumption) rfl (by omega)) ?_
    refine .q rfl (.cmp rfl rfl rfl) ?_
    refine .done ?_
    refine hK38 _ _ ?_
    refine .cond rfl (fun h136 => ?_) (fun h136 => ?_)
    ·
     try simp only [sps] at h136
     refine .seq (fun K39 hK39 => .seq (fun K40 hK40 => .region (.mv rfl (.q rfl (.cmp rfl rfl rfl) (.nil (hK40 _ _ ?_))))))
     refine .cond rfl (fun h138 => ?_) (fun h138 => ?_)
     ·
      try simp only [sps] at h138
      refine .seq (fun K41 hK41 => .region (.mv rfl (.nil (hK41 _ _ ?_))))
      refine .ret ?_
      refine hret _ _ ?_
      refine ⟨_, rfl, ?_⟩
      exact .of (congrArg _ (B_false fun hS => h138 ((Cat.Cell.neg h136).1 (hS.cell k (by omega) j (by omega)))))
     try simp only [sps] at h138
     refine .skip ?_
     refine hK39 _ _ ?_
     refine .exit ?_
     refine hK35 _ _ (.region ?_)
     refine .q rfl (.add rfl rfl rfl (by omega) (by omega)) ?_
     refine .mv rfl (.nil ?_)
     refine hKL3 (j + 1) _ _ ?_ ?_ ⟨rfl, rfl, rfl, rfl, rfl, rfl, rfl, rfl, rfl, trivial⟩
     ·
      refine ⟨rfl, ?_⟩
      refine ⟨by omega, fun x hx => ?_⟩
      by_cases e : x < j
      · exact ha3 x e
      · obtain rfl : x = j := by omega
        first
          | exact (Cat.Cell.neg h136).2 h138
          | exact (Cat.Cell.pos h136).2 ⟨h144.1, by omega, h164⟩
     omega
    try simp only [sps] at h136
    refine .skip ?_
    refine hK37 _ _ (.seq (fun K42 hK42 => ?_))
    refine .regionD mo_B (.q 0 (.q 1 (.q 2 (.c 3 0 (.q 4 (.q 5 (.q 6 (.q 7 (.q 9 (.q 10 (.q 11 (.q 12 (.q 13 (.q 14 (.q 15 (.q 16 (.q 17 (.q 18 (.q 19 (.q 20 (.q 21 (.q 22 (.q 23 (.c 8 1 (.q 24 (.q 25 (.done))))))))))))))))))))))))))) (by kernel_rfl) ?_
    refine .mv rfl rfl (.mv rfl rfl ?_)
    refine .q rfl (.sub rfl rfl rfl (by omega) (by omega)) ?_
    refine .callQ0 rfl rfl rfl rfl rfl @Try.call121 rfl (inRange_c) ?_
    refine .q rfl (.not rfl) (.mv rfl rfl ?_)
    refine .split (fun h144 => ?_) (fun h144 => ?_)
    ·
     try simp only [sps] at h144
     refine .z rfl (.z rfl (.z rfl (.z rfl (.z rfl (.z rfl (.z rfl (.z rfl (.z rfl (.z rfl (.z rfl (.z rfl (.z rfl (.z rfl (.z rfl (.z rfl ?_)))))))))))))))
     refine .z rfl (.sgc rfl rfl rfl rfl rfl rfl (.z rfl (.q rfl (.pickT rfl rfl) ?_)))
     refine .done ?_
     refine hK42 _ _ ?_
     refine .condT rfl ?_
     refine .seq (fun K43 hK43 => .region (.mv rfl (.nil (hK43 _ _ ?_))))
     refine .ret ?_
     refine hret _ _ ?_
     refine ⟨_, rfl, ?_⟩
     exact .of (congrArg _ (B_false fun hS => by have := (Cat.Cell.pos h136).1 (hS.cell k (by omega) j (by omega)); omega))
    try simp only [sps] at h144
    refine .qg rfl (.move rfl) (.qg rfl (.move rfl) (.qg rfl (.move rfl) (.qg rfl (.nilCheck rfl) (.qg rfl (.fieldAddr fo_29_1_B rfl) ?_))))
    refine .qg rfl (.load on_22_B rfl (by assumption)) ?_
    refine .qg rfl (.move rfl) ?_
    refine .qg rfl (.idxN sl_22_A (by assumption) rfl rfl (by omega)) ?_
    refine .qg rfl (.loadI on_2_A (by assumption) rfl (by omega)) ?_
    refine .qg rfl (.move rfl) (.qg rfl (.nilCheck rfl) (.qg rfl (.fieldAddr fo_29_2_B rfl) ?_))
    refine .qg rfl (.load on_22_B rfl (by assumption)) ?_
    refine .qg rfl (.move rfl) ?_
    refine .qg rfl (.idxN sl_22_A (by assumption) rfl rfl (by omega)) ?_
    refine .qg rfl (.loadI on_2_A (by assumption) rfl (by omega)) ?_
    refine .qg rfl (.build bt_114_B rfl rfl rfl) ?_
    refine .callQ1g rfl rfl rfl rfl rfl rfl rfl @Try.call97 rfl (ends_c) (.refl _) ?_
    refine .qg rfl (.aggNe eg_114_B rfl rfl rfl rfl (aggEq_114 _ _ _ _)) (.q rfl (.pickF rfl rfl) ?_)
    refine .done ?_
    refine hK42 _ _ ?_
    refine .cond rfl (fun h164 => ?_) (fun h164 => ?_)
    ·
     try simp only [sps] at h164
     refine .seq (fun K44 hK44 => .region (.mv rfl (.nil (hK44 _ _ ?_))))
     refine .ret ?_
     refine hret _ _ ?_
     refine ⟨_, rfl, ?_⟩
     exact .of (congrArg _ (B_false fun hS => by have := (Cat.Cell.pos h136).1 (hS.cell k (by omega) j (by omega)); omega))
    try simp only [sps] at h164
    refine .skip ?_
    refine hK35 _ _ (.region ?_)
    refine .q rfl (.add rfl rfl rfl (by omega) (by omega)) ?_
    refine .mv rfl (.nil ?_)
    refine hKL3 (j + 1) _ _ ?_ ?_ ⟨rfl, rfl, rfl, rfl, rfl, rfl, rfl, rfl, rfl, trivial⟩
    ·
     refine ⟨rfl, ?_⟩
     refine ⟨by omega, fun x hx => ?_⟩
     by_cases e : x < j
     · exact ha3 x e
     · obtain rfl : x = j := by omega
       first
         | exact (Cat.Cell.neg h136).2 h138
         | exact (Cat.Cell.pos h136).2 ⟨h144.1, by omega, h164⟩
    omega
   try simp only [sps] at h118
   refine .exit ?_
   refine hK27 _ _ (.region ?_)
   refine .q rfl (.add rfl rfl rfl (by omega) (by omega)) ?_
   refine .mv rfl (.nil ?_)
   refine hKL2 (k + 1) _ _ ?_ ?_ ⟨rfl, rfl, rfl, rfl, rfl, trivial⟩
   ·
    refine ⟨rfl, ?_⟩
    refine ⟨by omega, fun x hx => ?_⟩
    by_cases e : x < k
    · exact ha2 x e
    · obtain rfl : x = k := by omega
      exact ⟨by omega, fun g hg => ha3 g (by omega)⟩
   omega
  try simp only [sps] at h107
  refine .exit ?_
  refine hK23 _ _ (.seq (fun K45 hK45 => .region (.mv rfl (.nil (hK45 _ _ ?_)))))
  refine .ret ?_
  refine hret _ _ ?_
  refine ⟨_, rfl, ?_⟩
  exact .of (congrArg _ (B_true ⟨h18, by omega, by omega, h43, h54, by omega, h74, by omega, fun x hx => ha1 x (by omega), fun f hf => (ha2 f (by omega)).1, fun f hf => (ha2 f (by omega)).2⟩))
end Go.Proofs.Ytjdedelneppnlaa
namespace Go.Proofs.Ytjdedelneppnlaa
open Go Go.GL Go.RowKit Go.Proofs
theorem then_s {g o : Nat} {c : Cat} {p : CatP} {f k : Int} {H : GHeap} (h : Cat.At H g o c p := by assumption) (hS : c.Shape := by assumption) (h0 : 0 ≤ f := by omega) (h1 : f < c.src.length := by omega) (h2 : 0 ≤ k := by omega) (h3 : k < c.src.length := by omega) :
    GCalls Try.prog 64 [.pointer (some ⟨g, o, none⟩), .int .i64 f, .int .i64 k] H (Ret (.int .i64 (c.th f k)) H) := by
  have e1 := hS.cl
  have e2 := hS.row f.toNat (by omega)
  exact then_c
def FaultR (c : Cat) (H : GHeap) : Value → GHeap → Prop := fun v H' => H = H' ∧ ∃ kd b1 b2 b3 : Int, v = .tuple #[.int .i64 kd, .int .i64 b1, .int .i64 b2, .int .i64 b3] ∧ (kd = 0 ↔ c.Laws)
theorem fault_c {g o : Nat} {c : Cat} {p : CatP} {H : GHeap} (h : Cat.At H g o c p := by assumption) (hS : c.Shape := by assumption) : GCalls Try.prog 94 [.pointer (some ⟨g, o, none⟩)] H (FaultR c H) := by
  refine GCalls.body (N := 102) (rs := [.tmp 2, .tmp 3, .tmp 4, .tmp 5]) Try.func94 rfl rfl rfl rfl (fun Qx hret hend => ?_)
  refine .fg [0] rfl ?_
  obtain ⟨-, c1, c2, c3, -, i1, i2, i3, -⟩ := h.get
  have e1 := hS.tl
  have e2 := hS.n40
  have e3 := hS.il
  refine .seq (fun K1 hK1 => .region (.mv rfl (.mv rfl (.mv rfl (.mv rfl (.nil (hK1 _ _ (.seq (fun K2 hK2 => .region (.mv rfl ?_))))))))))
  refine .callQ rfl rfl rfl rfl @Try.call110 rfl (arrows_c) ?_
  refine .mv rfl (.nil (hK2 _ _ (.seq (fun K3 hK3 => .seq (fun K4 hK4 => .region (.mv rfl (.nil (hK4 _ _ ?_))))))))
  refine .block ?_
  refine .loopR (σ := Nat) [(0, some _), (6, some _)] (fun k => [(7, some (.int .i64 (k : Int)))]) (fun k H' => H = H' ∧ k ≤ c.src.length ∧ ∀ x, x < k → c.IdOk x) (fun k => c.src.length - k) (0) ⟨rfl, rfl, trivial⟩ ⟨rfl, trivial⟩ ?_ ?_
  ·
   refine ⟨rfl, ?_⟩
   exact ⟨by omega, fun x hx => by omega⟩
  rintro k _ ⟨rfl, hI⟩ KL1 hKL1
  refine .forget (fr' := [(7, some (.int .i64 (k : Int))), (0, some _), (6, some _)]) ⟨rfl, rfl, rfl, trivial⟩ ?_
  obtain ⟨hk1, ha1⟩ := hI
  refine .seq (fun K5 hK5 => .seq (fun K6 hK6 => .region (.mv rfl (.mv rfl (.q rfl (.cmp rfl rfl rfl) (.nil (hK6 _ _ ?_)))))))
  refine .cond rfl (fun h15 => ?_) (fun h15 => ?_)
  ·
   simp only [decide_eq_true_eq] at h15
   have q1 := hS.src k (by omega)
   have q2 := hS.tgt k (by omega)
   have q3 := hS.idn_lt q1.1 q1.2
   have q4 := hS.idn_lt q2.1 q2.2
   refine .skip ?_
   refine hK5 _ _ (.seq (fun K7 hK7 => ?_))
   refine .block ?_
   refine .seq (fun K8 hK8 => ?_)
   refine .regionD mo_B (.q 0 (.q 1 (.q 2 (.q 3 (.q 4 (.q 5 (.q 6 (.q 7 (.q 8 (.q 9 (.q 10 (.q 11 (.q 12 (.q 13 (.q 14 (.q 16 (.c 15 1 (.q 17 (.q 18 (.q 19 (.q 20 (.q 21 (.q 22 (.q 23 (.q 24 (.q 25 (.q 26 (.q 27 (.q 28 (.q 29 (.q 30 (.q 31 (.q 32 (.q 33 (.q 35 (.c 34 1 (.q 36 (.q 37 (.done))))))))))))))))))))))))))))))))))))))) (by kernel_rfl) ?_
   refine .mv rfl rfl (.mv rfl rfl (.q rfl (.nilCheck rfl) (.q rfl (.fieldAddr fo_29_3_B rfl) ?_)))
   refine .q rfl (.load on_22_B rfl (by assumption)) ?_
   refine .mv rfl rfl (.q rfl (.nilCheck rfl) (.q rfl (.fieldAddr fo_29_1_B rfl) ?_))
   refine .q rfl (.load on_22_B rfl (by assumption)) ?_
   refine .mv rfl rfl ?_
   refine .q rfl (.idxN sl_22_A (by assumption) rfl rfl (by omega)) ?_
   refine .q rfl (.loadI on_2_A (by assumption) rfl (by omega)) ?_
   refine .q rfl (.idx1 sl_22_A (by assumption) rfl rfl (by omega) (by omega)) ?_
   refine .q rfl (.loadI on_2_A (by assumption) rfl (by omega)) ?_
   refine .mv rfl rfl (.mv rfl rfl ?_)
   refine .callQ1 rfl rfl rfl rfl rfl @Try.call64 rfl (then_s) (.refl _) ?_
   refine .q rfl (.cmp rfl rfl rfl) (.mv rfl rfl ?_)
   refine .split (fun h36 => ?_) (fun h36 => ?_)
   ·
    try simp only [sps] at h36
    refine .z rfl (.z rfl (.z rfl (.z rfl (.z rfl (.z rfl (.z rfl (.z rfl (.z rfl (.z rfl (.z rfl (.z rfl (.z rfl (.z rfl (.z rfl (.z rfl ?_)))))))))))))))
    refine .sgc rfl rfl rfl rfl rfl rfl (.z rfl (.q rfl (.pickT rfl rfl) ?_))
    refine .done ?_
    refine hK8 _ _ ?_
    refine .condT rfl ?_
    refine .seq (fun K9 hK9 => .region (.mv rfl (.mv rfl (.mv rfl (.mv rfl (.mv rfl (.nil (hK9 _ _ ?_))))))))
    refine .ret ?_
    refine hret _ _ ?_
    refine ⟨_, _, _, _, rfl, rfl, rfl, rfl, ?_⟩
    exact ⟨rfl, _, _, _, _, rfl, fun e => by omega, fun hL => absurd (hL.ids k (by omega)).1 h36⟩
   try simp only [sps] at h36
   refine .qg rfl (.move rfl) (.qg rfl (.move rfl) (.qg rfl (.move rfl) (.qg rfl (.nilCheck rfl) (.qg rfl (.fieldAddr fo_29_3_B rfl) ?_))))
   refine .qg rfl (.load on_22_B rfl (by assumption)) ?_
   refine .qg rfl (.move rfl) (.qg rfl (.nilCheck rfl) (.qg rfl (.fieldAddr fo_29_2_B rfl) ?_))
   refine .qg rfl (.load on_22_B rfl (by assumption)) ?_
   refine .qg rfl (.move rfl) ?_
   refine .qg rfl (.idxN sl_22_A (by assumption) rfl rfl (by omega)) ?_
   refine .qg rfl (.loadI on_2_A (by assumption) rfl (by omega)) ?_
   refine .qg rfl (.idx1 sl_22_A (by assumption) rfl rfl (by omega) (by omega)) ?_
   refine .qg rfl (.loadI on_2_A (by assumption) rfl (by omega)) ?_
   refine .qg rfl (.move rfl) ?_
   refine .callQ1g rfl rfl rfl rfl rfl rfl rfl @Try.call64 rfl (then_s) (.refl _) ?_
   refine .qg rfl (.cmp rfl rfl rfl) (.q rfl (.pickF rfl rfl) ?_)
   refine .done ?_
   refine hK8 _ _ ?_
   refine .cond rfl (fun h55 => ?_) (fun h55 => ?_)
   ·
    try simp only [sps] at h55
    refine .seq (fun K10 hK10 => .region (.mv rfl (.mv rfl (.mv rfl (.mv rfl (.mv rfl (.nil (hK10 _ _ ?_))))))))
    refine .ret ?_
    refine hret _ _ ?_
    refine ⟨_, _, _, _, rfl, rfl, rfl, rfl, ?_⟩
    exact ⟨rfl, _, _, _, _, rfl, fun e => by omega, fun hL => absurd (hL.ids k (by omega)).2 h55⟩
   try simp only [sps] at h55
   refine .skip ?_
   refine hK7 _ _ (.region (.mv rfl ?_))
   refine .q rfl (.add rfl rfl rfl (by omega) (by omega)) ?_
   refine .mv rfl (.nil ?_)
   refine hKL1 (k + 1) _ _ ?_ ?_ ⟨rfl, rfl, rfl, trivial⟩
   ·
    refine ⟨rfl, ?_⟩
    refine ⟨by omega, fun x hx => ?_⟩
    by_cases e : x < k
    · exact ha1 x e
    · obtain rfl : x = k := by omega
      exact ⟨h36, h55⟩
   omega
  try simp only [sps] at h15
  refine .exit ?_
  refine hK3 _ _ (.seq (fun K11 hK11 => .seq (fun K12 hK12 => .region (.mv rfl (.nil (hK12 _ _ ?_))))))
  refine .block ?_
  refine .loopR (σ := Nat) [(0, some _), (6, some _)] (fun k => [(8, some (.int .i64 (k : Int)))]) (fun k H' => H = H' ∧ k ≤ c.src.length ∧ ∀ f, f < k → ∀ g, g < c.src.length → c.tgt.getD f 0 = c.src.getD g 0 → ∀ h, h < c.src.length → c.tgt.getD g 0 = c.src.getD h 0 → c.th (c.th f g) h = c.th f (c.th g h)) (fun k => c.src.length - k) (0) ⟨rfl, rfl, trivial⟩ ⟨rfl, trivial⟩ ?_ ?_
  ·
   refine ⟨rfl, ?_⟩
   exact ⟨by omega, fun x hx => by omega⟩
  rintro k _ ⟨rfl, hI⟩ KL2 hKL2
  refine .forget (fr' := [(8, some (.int .i64 (k : Int))), (0, some _), (6, some _)]) ⟨rfl, rfl, rfl, trivial⟩ ?_
  obtain ⟨hk2, ha2⟩ := hI
  refine .seq (fun K13 hK13 => .seq (fun K14 hK14 => .region (.mv rfl (.mv rfl (.q rfl (.cmp rfl rfl rfl) (.nil (hK14 _ _ ?_)))))))
  refine .cond rfl (fun h59 => ?_) (fun h59 => ?_)
  ·
   try simp only [sps] at h59
   refine .skip ?_
   refine hK13 _ _ (.seq (fun K15 hK15 => ?_))
   refine .block ?_
   refine .seq (fun K16 hK16 => .region (.mv rfl (.nil (hK16 _ _ ?_))))
   refine .block ?_
   refine .loopR (σ := Nat) [(0, some _), (6, some _), (8, some _)] (fun j => [(9, some (.int .i64 (j : Int)))]) (fun j H' => H = H' ∧ j ≤ c.src.length ∧ ∀ g, g < j → c.tgt.getD k 0 = c.src.getD g 0 → ∀ h, h < c.src.length → c.tgt.getD g 0 = c.src.getD h 0 → c.th (c.th k g) h = c.th k (c.th g h)) (fun j => c.src.length - j) (0) ⟨rfl, rfl, rfl, trivial⟩ ⟨rfl, trivial⟩ ?_ ?_
   ·
    refine ⟨rfl, ?_⟩
    exact ⟨by omega, fun x hx => by omega⟩
   rintro j _ ⟨rfl, hI⟩ KL3 hKL3
   refine .forget (fr' := [(9, some (.int .i64 (j : Int))), (0, some _), (6, some _), (8, some _)]) ⟨rfl, rfl, rfl, rfl, trivial⟩ ?_
   obtain ⟨hk3, ha3⟩ := hI
   refine .seq (fun K17 hK17 => .seq (fun K18 hK18 => .region (.mv rfl (.mv rfl (.q rfl (.cmp rfl rfl rfl) (.nil (hK18 _ _ ?_)))))))
   refine .cond rfl (fun h64 => ?_) (fun h64 => ?_)
   ·
    try simp only [sps] at h64
    refine .skip ?_
    refine hK17 _ _ (.seq (fun K19 hK19 => ?_))
    refine .block ?_
    refine .seq (fun K20 hK20 => .seq (fun K21 hK21 => .region (.mv rfl (.mv rfl (.mv rfl ?_)))))
    refine .callQ rfl rfl rfl rfl @Try.call64 rfl (then_s) ?_
    refine .q rfl (.cmp rfl rfl rfl) (.nil (hK21 _ _ ?_))
    refine .cond rfl (fun h71 => ?_) (fun h71 => ?_)
    ·
     try simp only [sps] at h71
     refine .exit ?_
     refine hK19 _ _ (.region (.mv rfl ?_))
     refine .q rfl (.add rfl rfl rfl (by omega) (by omega)) ?_
     refine .mv rfl (.nil ?_)
     refine hKL3 (j + 1) _ _ ?_ ?_ ⟨rfl, rfl, rfl, rfl, trivial⟩
     ·
      refine ⟨rfl, ?_⟩
      refine ⟨by omega, fun x hx => ?_⟩
      by_cases e : x < j
      · exact ha3 x e
      · obtain rfl : x = j := by omega
        first
          | exact fun e => absurd ((hS.th_ge (by omega) (by omega)).2 e) (by omega)
          | exact fun _ h hh => ha4 h (by omega)
     omega
    simp only [decide_eq_false_iff_not] at h71
    have q5 := hS.th_lt (f := k) (g := j) (by omega) (by omega)
    have q6 := (hS.th_ge (f := k) (g := j) (by omega) (by omega)).1 (by omega)
    refine .skip ?_
    refine hK20 _ _ (.seq (fun K22 hK22 => .region (.mv rfl (.nil (hK22 _ _ ?_)))))
    refine .block ?_
    refine .loopR (σ := Nat) [(0, some _), (6, some _), (8, some _), (9, some _)] (fun i => [(10, some (.int .i64 (i : Int)))]) (fun i H' => H = H' ∧ i ≤ c.src.length ∧ ∀ h, h < i → c.tgt.getD j 0 = c.src.getD h 0 → c.th (c.th k j) h = c.th k (c.th j h)) (fun i => c.src.length - i) (0) ⟨rfl, rfl, rfl, rfl, trivial⟩ ⟨rfl, trivial⟩ ?_ ?_
    ·
     refine ⟨rfl, ?_⟩
     exact ⟨by omega, fun x hx => by omega⟩
    rintro i _ ⟨rfl, hI⟩ KL4 hKL4
    refine .forget (fr' := [(10, some (.int .i64 (i : Int))), (0, some _), (6, some _), (8, some _), (9, some _)]) ⟨rfl, rfl, rfl, rfl, rfl, trivial⟩ ?_
    obtain ⟨hk4, ha4⟩ := hI
    refine .seq (fun K23 hK23 => .seq (fun K24 hK24 => .region (.mv rfl (.mv rfl (.q rfl (.cmp rfl rfl rfl) (.nil (hK24 _ _ ?_)))))))
    refine .cond rfl (fun h74 => ?_) (fun h74 => ?_)
    ·
     try simp only [sps] at h74
     refine .skip ?_
     refine hK23 _ _ (.seq (fun K25 hK25 => ?_))
     refine .block ?_
     refine .seq (fun K26 hK26 => .region (.mv rfl (.mv rfl (.mv rfl ?_))))
     refine .callQ rfl rfl rfl rfl @Try.call64 rfl (then_s) ?_
     refine .q rfl (.cmp rfl rfl rfl) (.mv rfl ?_)
     refine .split (fun h82 => ?_) (fun h82 => ?_)
     ·
      simp only [decide_eq_true_eq, ge_iff_le] at h82
      have q7 := hS.th_lt (f := j) (g := i) (by omega) (by omega)
      have q8 := (hS.th_ge (f := j) (g := i) (by omega) (by omega)).1 (by omega)
      refine .qg rfl (.move rfl) (.qg rfl (.move rfl) (.qg rfl (.move rfl) (.qg rfl (.move rfl) ?_)))
      refine .callQg rfl rfl rfl rfl rfl rfl @Try.call64 rfl (then_s) ?_
      refine .qg rfl (.move rfl) ?_
      refine .callQg rfl rfl rfl rfl rfl rfl @Try.call64 rfl (then_s) ?_
      refine .qg rfl (.move rfl) (.qg rfl (.move rfl) (.qg rfl (.move rfl) (.qg rfl (.move rfl) (.qg rfl (.move rfl) ?_))))
      refine .callQg rfl rfl rfl rfl rfl rfl @Try.call64 rfl (then_s) ?_
      refine .callQg rfl rfl rfl rfl rfl rfl @Try.call64 rfl (then_s) ?_
      refine .qg rfl (.cmp rfl rfl rfl) (.q rfl (.pickT rfl rfl) (.nil (hK26 _ _ ?_)))
      refine .cond rfl (fun h98 => ?_) (fun h98 => ?_)
      ·
       try simp only [sps] at h98
       refine .seq (fun K27 hK27 => .region (.mv rfl (.mv rfl (.mv rfl (.mv rfl (.mv rfl (.mv rfl (.mv rfl (.nil (hK27 _ _ ?_))))))))))
       refine .ret ?_
       refine hret _ _ ?_
       refine ⟨_, _, _, _, rfl, rfl, rfl, rfl, ?_⟩
       exact ⟨rfl, _, _, _, _, rfl, fun e => by omega, fun hL => absurd (hL.as k (by omega) j (by omega) q6 i (by omega) q8) h98⟩
      try simp only [sps] at h98
      refine .skip ?_
      refine hK25 _ _ (.region (.mv rfl ?_))
      refine .q rfl (.add rfl rfl rfl (by omega) (by omega)) ?_
      refine .mv rfl (.nil ?_)
      refine hKL4 (i + 1) _ _ ?_ ?_ ⟨rfl, rfl, rfl, rfl, rfl, trivial⟩
      ·
       refine ⟨rfl, ?_⟩
       refine ⟨by omega, fun x hx => ?_⟩
       by_cases e : x < i
       · exact ha4 x e
       · obtain rfl : x = i := by omega
         first
           | exact fun e => absurd ((hS.th_ge (by omega) (by omega)).2 e) (by omega)
           | exact fun _ => h98
      omega
     try simp only [sps] at h82
     refine .z rfl (.z rfl (.z rfl (.z rfl (.z rfl (.z rfl (.z rfl (.z rfl (.z rfl (.z rfl (.z rfl (.z rfl (.z rfl (.z rfl (.z rfl (.q rfl (.pickF rfl rfl) ?_)))))))))))))))
     refine .nil (hK26 _ _ ?_)
     refine .condF rfl ?_
     refine .skip ?_
     refine hK25 _ _ (.region (.mv rfl ?_))
     refine .q rfl (.add rfl rfl rfl (by omega) (by omega)) ?_
     refine .mv rfl (.nil ?_)
     refine hKL4 (i + 1) _ _ ?_ ?_ ⟨rfl, rfl, rfl, rfl, rfl, trivial⟩
     ·
      refine ⟨rfl, ?_⟩
      refine ⟨by omega, fun x hx => ?_⟩
      by_cases e : x < i
      · exact ha4 x e
      · obtain rfl : x = i := by omega
        first
          | exact fun e => absurd ((hS.th_ge (by omega) (by omega)).2 e) (by omega)
          | exact fun _ => h98
     omega
    try simp only [sps] at h74
    refine .exit ?_
    refine hK19 _ _ (.region (.mv rfl ?_))
    refine .q rfl (.add rfl rfl rfl (by omega) (by omega)) ?_
    refine .mv rfl (.nil ?_)
    refine hKL3 (j + 1) _ _ ?_ ?_ ⟨rfl, rfl, rfl, rfl, trivial⟩
    ·
     refine ⟨rfl, ?_⟩
     refine ⟨by omega, fun x hx => ?_⟩
     by_cases e : x < j
     · exact ha3 x e
     · obtain rfl : x = j := by omega
       first
         | exact fun e => absurd ((hS.th_ge (by omega) (by omega)).2 e) (by omega)
         | exact fun _ h hh => ha4 h (by omega)
    omega
   try simp only [sps] at h64
   refine .exit ?_
   refine hK15 _ _ (.region (.mv rfl ?_))
   refine .q rfl (.add rfl rfl rfl (by omega) (by omega)) ?_
   refine .mv rfl (.nil ?_)
   refine hKL2 (k + 1) _ _ ?_ ?_ ⟨rfl, rfl, rfl, trivial⟩
   ·
    refine ⟨rfl, ?_⟩
    refine ⟨by omega, fun x hx => ?_⟩
    by_cases e : x < k
    · exact ha2 x e
    · obtain rfl : x = k := by omega
      exact fun g hg => ha3 g (by omega)
   omega
  try simp only [sps] at h59
  refine .exit ?_
  refine hK11 _ _ (.seq (fun K28 hK28 => .region (.mv rfl (.mv rfl (.mv rfl (.mv rfl (.nil (hK28 _ _ ?_))))))))
  refine .ret ?_
  refine hret _ _ ?_
  refine ⟨_, _, _, _, rfl, rfl, rfl, rfl, ?_⟩
  exact ⟨rfl, _, _, _, _, rfl, fun _ => ⟨fun f hf => ha1 f (by omega), fun f hf => ha2 f (by omega)⟩, fun _ => rfl⟩
theorem isCategory_c {g o : Nat} {c : Cat} {p : CatP} {H : GHeap} (h : Cat.At H g o c p := by assumption) (hs : c.Small := by assumption) : GCalls Try.prog 46 [.pointer (some ⟨g, o, none⟩)] H (Ret (.bool (B c.Is)) H) := by
  refine GCalls.body (N := 19) (rs := [.tmp 2]) Try.func46 rfl rfl rfl rfl (fun Qx hret hend => ?_)
  refine .fg [0] rfl ?_
  refine .seq (fun K1 hK1 => .region (.mv rfl (.nil (hK1 _ _ (.seq (fun K2 hK2 => .seq (fun K3 hK3 => .region (.mv rfl ?_))))))))
  refine .callQ rfl rfl rfl rfl @Try.call93 rfl (isShape_c) ?_
  refine .q rfl (.not rfl) (.nil (hK3 _ _ ?_))
  refine .cond rfl (fun h9 => ?_) (fun h9 => ?_)
  ·
   try simp only [sps] at h9
   refine .seq (fun K4 hK4 => .region (.mv rfl (.nil (hK4 _ _ ?_))))
   refine .ret ?_
   refine hret _ _ ?_
   refine ⟨_, rfl, ?_⟩
   exact .of (congrArg _ (B_false fun hI => h9 hI.1))
  try simp only [sps] at h9
  refine .skip ?_
  refine hK2 _ _ (.seq (fun K5 hK5 => .region (.mv rfl ?_)))
  refine .call rfl rfl rfl rfl @Try.call94 rfl (fault_c) ?_
  rintro _ _ ⟨rfl, kd, b1, b2, b3, rfl, hkd⟩
  refine .mv rfl (.q rfl (.extract rfl rfl) (.q rfl (.extract rfl rfl) (.q rfl (.extract rfl rfl) (.q rfl (.extract rfl rfl) (.mv rfl (.mv rfl (.mv rfl (.mv rfl (.nil (hK5 _ _ (.seq (fun K6 hK6 => .region (.mv rfl (.q rfl (.cmp rfl rfl rfl) (.mv rfl ?_)))))))))))))))
  refine .nil (hK6 _ _ ?_)
  refine .ret ?_
  refine hret _ _ ?_
  refine ⟨_, rfl, ?_⟩
  exact .of (congrArg _ (by rw [Bool.eq_iff_iff, B_iff, beq_iff_eq, hkd]; exact ⟨fun h => h.2, fun h => ⟨h9, h⟩⟩))
end Go.Proofs.Ytjdedelneppnlaa
namespace Go.Proofs.Ytjdedelneppnlaa
open Go Go.GL Go.RowKit Go.Proofs
theorem sz_29_D : (Try.prog.info? 29).map (·.size) = some 5 := by kernel_rfl
theorem ag_29_D : aggT Try.prog 29 = some 5 := by kernel_rfl
theorem l02Ends_c {a : Option Addr} {xs : List Int} {n : Nat} {m : Int} {H : GHeap} (h : Ints H a xs := by assumption) (hl : xs.length ≤ 1048576 := by omega) :
    GCalls Try.prog 126 [.slice a xs.length xs.length, .int .i64 (n : Int), .int .i64 m] H (Ret (.bool (decide (xs.length = n) && allIn xs m)) H) := by
  refine GCalls.body (N := 16) (rs := [.tmp 6]) Try.func126 rfl rfl rfl rfl (fun Qx hret hend => ?_)
  refine .fg [0, 1, 2] rfl ?_
  refine .seq (fun K1 hK1 => .region (.mv rfl (.nil (hK1 _ _ (.seq (fun K2 hK2 => .region (.mv rfl (.q rfl (.len sl_22_A rfl) (.mv rfl (.q rfl (.cmp rfl rfl rfl) (.mv rfl ?_)))))))))))
  refine .split (fun h11 => ?_) (fun h11 => ?_)
  ·
   simp only [beq_iff_eq, beq_eq_false_iff_ne, ne_eq] at h11
   refine .qg rfl (.move rfl) (.qg rfl (.move rfl) ?_)
   refine .callQg rfl rfl rfl rfl rfl rfl @Try.call106 rfl (l01Map_c) ?_
   refine .q rfl (.pickT rfl rfl) (.mv rfl (.nil (hK2 _ _ ?_)))
   refine .ret ?_
   refine hret _ _ ?_
   refine ⟨_, rfl, ?_⟩
   exact .of (congrArg _ (by rw [decide_eq_true (by omega : xs.length = n), Bool.true_and]))
  simp only [beq_iff_eq, beq_eq_false_iff_ne, ne_eq] at h11
  refine .z rfl (.z rfl (.z rfl (.q rfl (.pickF rfl rfl) (.mv rfl (.nil (hK2 _ _ ?_))))))
  refine .ret ?_
  refine hret _ _ ?_
  refine ⟨_, rfl, ?_⟩
  exact .of (congrArg _ (by rw [decide_eq_false (by omega : ¬ xs.length = n), Bool.false_and]))
theorem specShape_c {c : Cat} {p : CatP} {H : GHeap} (hin : c.In H p := by assumption) (hs : c.Small := by assumption) : GCalls Try.prog 87 [.agg (c.cells p).toArray] H (Ret (.bool (B c.Shape)) H) := by
  refine GCalls.ret rfl ?_
  refine GCalls.body (N := 159) (rs := [.tmp 2]) Try.func87 rfl rfl rfl rfl (fun Qx hret hend => ?_)
  refine .fg [0] rfl ?_
  refine .seq (fun K1 hK1 => .region (.d rfl rfl rfl (.box rfl sz_29_D rfl CIs.mk) ?_))
  show GRun _ _ _ _ _ _ (H.push (.row (c.cells p) 29 true))
  have hle := GHeap.le_push H (.row (c.cells p) 29 true)
  have hb : Cat.At (H.push (.row (c.cells p) 29 true)) H.next 0 c p := ⟨Mem.new _ _ _ _, hin.mono hle⟩
  generalize H.push (.row (c.cells p) 29 true) = H1 at *
  generalize H.next = g at *
  obtain ⟨c0, c1, c2, c3, c4, i1, i2, i3, i4⟩ := hb.get
  obtain ⟨s1, s2, s3, -, -, s6⟩ := hs
  refine .mv rfl (.nil (hK1 _ _ (.seq (fun K2 hK2 => .region (.q rfl (.fieldAddr fo_29_1_B rfl) ?_)))))
  refine .q rfl (.load on_22_B rfl (by assumption)) ?_
  refine .q rfl (.len sl_22_A rfl) (.mv rfl (.nil (hK2 _ _ (.seq (fun K3 hK3 => .seq (fun K4 hK4 => .region (.q rfl (.fieldAddr fo_29_0_B rfl) ?_)))))))
  refine .q rfl (.load on_2_A rfl (by assumption)) ?_
  refine .callQ rfl rfl rfl rfl @Try.call125 rfl (l01In_c) ?_
  refine .q rfl (.not rfl) (.mv rfl ?_)
  refine .split (fun h15 => ?_) (fun h15 => ?_)
  ·
   try simp only [sps] at h15
   refine .z rfl (.z rfl (.q rfl (.pickT rfl rfl) (.mv rfl (.z rfl (.z rfl (.z rfl (.z rfl (.z rfl (.z rfl (.z rfl (.q rfl (.pickT rfl rfl) (.mv rfl (.z rfl (.z rfl (.z rfl ?_)))))))))))))))
   refine .z rfl (.z rfl (.z rfl (.z rfl (.q rfl (.pickT rfl rfl) (.mv rfl (.z rfl (.z rfl (.z rfl (.z rfl (.z rfl (.q rfl (.pickT rfl rfl) (.nil (hK4 _ _ ?_)))))))))))))
   refine .condT rfl ?_
   refine .seq (fun K5 hK5 => .region (.mv rfl (.nil (hK5 _ _ ?_))))
   refine .ret ?_
   refine hret _ _ ?_
   refine ⟨_, rfl, ?_⟩
   exact ⟨congrArg _ (B_false fun hS => by have q1 := hS.obj; have q2 := hS.n40; have q3 := hS.tl; have q4 := hS.il; have q5 := hS.cl; omega), hle⟩
  try simp only [sps] at h15
  refine .qg rfl (.move rfl) (.qg rfl (.cmp rfl rfl rfl) (.q rfl (.pickF rfl rfl) (.mv rfl ?_)))
  refine .split (fun h19 => ?_) (fun h19 => ?_)
  ·
   try simp only [sps] at h19
   refine .z rfl (.z rfl (.z rfl (.z rfl (.z rfl (.z rfl (.z rfl (.q rfl (.pickT rfl rfl) (.mv rfl (.z rfl (.z rfl (.z rfl (.z rfl (.z rfl (.z rfl (.z rfl ?_)))))))))))))))
   refine .q rfl (.pickT rfl rfl) (.mv rfl (.z rfl (.z rfl (.z rfl (.z rfl (.z rfl (.q rfl (.pickT rfl rfl) (.nil (hK4 _ _ ?_)))))))))
   refine .condT rfl ?_
   refine .seq (fun K6 hK6 => .region (.mv rfl (.nil (hK6 _ _ ?_))))
   refine .ret ?_
   refine hret _ _ ?_
   refine ⟨_, rfl, ?_⟩
   exact ⟨congrArg _ (B_false fun hS => by have q1 := hS.obj; have q2 := hS.n40; have q3 := hS.tl; have q4 := hS.il; have q5 := hS.cl; omega), hle⟩
  try simp only [sps] at h19
  refine .qg rfl (.fieldAddr fo_29_1_B rfl) ?_
  refine .qg rfl (.load on_22_B rfl (by assumption)) ?_
  refine .qg rfl (.move rfl) (.qg rfl (.fieldAddr fo_29_0_B rfl) ?_)
  refine .qg rfl (.load on_2_A rfl (by assumption)) ?_
  refine .callQg rfl rfl rfl rfl rfl rfl @Try.call126 rfl (l02Ends_c) ?_
  refine .qg rfl (.not rfl) (.q rfl (.pickF rfl rfl) (.mv rfl ?_))
  refine .split (fun h28 => ?_) (fun h28 => ?_)
  ·
   try simp only [sps] at h28
   refine .z rfl (.z rfl (.z rfl (.z rfl (.z rfl (.z rfl (.z rfl (.q rfl (.pickT rfl rfl) (.mv rfl (.z rfl (.z rfl (.z rfl (.z rfl (.z rfl (.q rfl (.pickT rfl rfl) (.nil ?_)))))))))))))))
   refine hK4 _ _ ?_
   refine .condT rfl ?_
   refine .seq (fun K7 hK7 => .region (.mv rfl (.nil (hK7 _ _ ?_))))
   refine .ret ?_
   refine hret _ _ ?_
   refine ⟨_, rfl, ?_⟩
   exact ⟨congrArg _ (B_false fun hS => h28.elim (fun h => h trivial) (fun h => by rw [allIn_iff.2 hS.src] at h; cases h)), hle⟩
  try simp only [sps] at h28
  refine .qg rfl (.fieldAddr fo_29_2_B rfl) ?_
  refine .qg rfl (.load on_22_B rfl (by assumption)) ?_
  refine .qg rfl (.move rfl) (.qg rfl (.fieldAddr fo_29_0_B rfl) ?_)
  refine .qg rfl (.load on_2_A rfl (by assumption)) ?_
  refine .callQg rfl rfl rfl rfl rfl rfl @Try.call126 rfl (l02Ends_c) ?_
  refine .qg rfl (.not rfl) (.q rfl (.pickF rfl rfl) (.mv rfl ?_))
  refine .split (fun h37 => ?_) (fun h37 => ?_)
  ·
   try simp only [sps] at h37
   refine .z rfl (.z rfl (.z rfl (.z rfl (.z rfl (.q rfl (.pickT rfl rfl) (.nil (hK4 _ _ ?_)))))))
   refine .condT rfl ?_
   refine .seq (fun K8 hK8 => .region (.mv rfl (.nil (hK8 _ _ ?_))))
   refine .ret ?_
   refine hret _ _ ?_
   refine ⟨_, rfl, ?_⟩
   exact ⟨congrArg _ (B_false fun hS => h37.elim (fun h => h hS.tl) (fun h => by rw [allIn_iff.2 hS.tgt] at h; cases h)), hle⟩
  try simp only [sps] at h37
  refine .qg rfl (.fieldAddr fo_29_4_B rfl) ?_
  refine .qg rfl (.load on_23_B rfl (by assumption)) ?_
  refine .qg rfl (.len sl_23_B rfl) (.qg rfl (.move rfl) (.qg rfl (.cmp rfl rfl rfl) (.q rfl (.pickF rfl rfl) (.nil (hK4 _ _ ?_)))))
  refine .cond rfl (fun h43 => ?_) (fun h43 => ?_)
  ·
   try simp only [sps] at h43
   refine .seq (fun K9 hK9 => .region (.mv rfl (.nil (hK9 _ _ ?_))))
   refine .ret ?_
   refine hret _ _ ?_
   refine ⟨_, rfl, ?_⟩
   exact ⟨congrArg _ (B_false fun hS => by have q1 := hS.obj; have q2 := hS.n40; have q3 := hS.tl; have q4 := hS.il; have q5 := hS.cl; omega), hle⟩
  try simp only [sps] at h43
  refine .skip ?_
  refine hK3 _ _ (.seq (fun K10 hK10 => .seq (fun K11 hK11 => .region (.q rfl (.fieldAddr fo_29_3_B rfl) ?_))))
  refine .q rfl (.load on_22_B rfl (by assumption)) ?_
  refine .q rfl (.len sl_22_A rfl) (.q rfl (.fieldAddr fo_29_0_B rfl) ?_)
  refine .q rfl (.load on_2_A rfl (by assumption)) ?_
  refine .q rfl (.cmp rfl rfl rfl) (.mv rfl ?_)
  refine .split (fun h50 => ?_) (fun h50 => ?_)
  ·
   try simp only [sps] at h50
   refine .z rfl (.z rfl (.z rfl (.z rfl (.z rfl (.q rfl (.pickT rfl rfl) (.nil (hK11 _ _ ?_)))))))
   refine .condT rfl ?_
   refine .seq (fun K12 hK12 => .region (.mv rfl (.nil (hK12 _ _ ?_))))
   refine .ret ?_
   refine hret _ _ ?_
   refine ⟨_, rfl, ?_⟩
   exact ⟨congrArg _ (B_false fun hS => by have q1 := hS.obj; have q2 := hS.n40; have q3 := hS.tl; have q4 := hS.il; have q5 := hS.cl; omega), hle⟩
  try simp only [sps] at h50
  refine .qg rfl (.move rfl) (.qg rfl (.fieldAddr fo_29_3_B rfl) ?_)
  refine .qg rfl (.load on_22_B rfl (by assumption)) ?_
  refine .callQg rfl rfl rfl rfl rfl rfl @Try.call106 rfl (l01Map_c) ?_
  refine .qg rfl (.not rfl) (.q rfl (.pickF rfl rfl) (.nil (hK11 _ _ ?_)))
  refine .cond rfl (fun h56 => ?_) (fun h56 => ?_)
  ·
   try simp only [sps] at h56
   refine .seq (fun K13 hK13 => .region (.mv rfl (.nil (hK13 _ _ ?_))))
   refine .ret ?_
   refine hret _ _ ?_
   refine ⟨_, rfl, ?_⟩
   exact ⟨congrArg _ (B_false fun hS => by rw [allIn_iff.2 hS.idn] at h56; cases h56), hle⟩
  try simp only [sps] at h56
  refine .skip ?_
  refine hK10 _ _ (.seq (fun K14 hK14 => .seq (fun K15 hK15 => .region (.mv rfl (.nil (hK15 _ _ ?_))))))
  refine .block ?_
  refine .loopR (σ := Nat) [(1, some _), (3, some _)] (fun k => [(4, some (.int .i64 (k : Int)))]) (fun k H' => H1 = H' ∧ (k : Int) ≤ c.obj ∧ ∀ x, x < k → c.src.getD (c.idn.getD x 0).toNat 0 = x ∧ c.tgt.getD (c.idn.getD x 0).toNat 0 = x) (fun k => c.idn.length - k) (0) ⟨rfl, rfl, trivial⟩ ⟨rfl, trivial⟩ ?_ ?_
  ·
   refine ⟨rfl, ?_⟩
   exact ⟨by omega, fun x hx => by omega⟩
  rintro k _ ⟨rfl, hI⟩ KL1 hKL1
  refine .forget (fr' := [(4, some (.int .i64 (k : Int))), (1, some _), (3, some _)]) ⟨rfl, rfl, rfl, trivial⟩ ?_
  obtain ⟨hk1, ha1⟩ := hI
  refine .seq (fun K16 hK16 => .seq (fun K17 hK17 => .region (.mv rfl (.q rfl (.fieldAddr fo_29_0_B rfl) ?_))))
  refine .q rfl (.load on_2_A rfl (by assumption)) ?_
  refine .q rfl (.cmp rfl rfl rfl) (.nil (hK17 _ _ ?_))
  refine .cond rfl (fun h60 => ?_) (fun h60 => ?_)
  ·
   simp only [decide_eq_true_eq] at h60
   have q1 := h56 k (by omega)
   refine .skip ?_
   refine hK16 _ _ (.seq (fun K18 hK18 => ?_))
   refine .block ?_
   refine .seq (fun K19 hK19 => ?_)
   refine .regionD mo_B (.q 0 (.q 1 (.q 2 (.q 3 (.q 4 (.q 5 (.q 6 (.q 7 (.q 8 (.q 9 (.q 10 (.q 11 (.q 12 (.q 13 (.q 14 (.q 15 (.q 16 (.q 17 (.q 18 (.q 19 (.q 20 (.q 21 (.q 22 (.q 23 (.done))))))))))))))))))))))))) (by kernel_rfl) ?_
   refine .q rfl (.fieldAddr fo_29_1_B rfl) ?_
   refine .q rfl (.load on_22_B rfl (by assumption)) ?_
   refine .q rfl (.fieldAddr fo_29_3_B rfl) ?_
   refine .q rfl (.load on_22_B rfl (by assumption)) ?_
   refine .mv rfl rfl ?_
   refine .q rfl (.idxN sl_22_A (by assumption) rfl rfl (by omega)) ?_
   refine .q rfl (.loadI on_2_A (by assumption) rfl (by omega)) ?_
   refine .q rfl (.idx1 sl_22_A (by assumption) rfl rfl (by omega) (by omega)) ?_
   refine .q rfl (.loadI on_2_A (by assumption) rfl (by omega)) ?_
   refine .mv rfl rfl (.q rfl (.cmp rfl rfl rfl) (.mv rfl rfl ?_))
   refine .split (fun h74 => ?_) (fun h74 => ?_)
   ·
    try simp only [sps] at h74
    refine .z rfl (.z rfl (.z rfl (.z rfl (.z rfl (.z rfl (.z rfl (.z rfl (.z rfl (.z rfl (.z rfl (.q rfl (.pickT rfl rfl) ?_)))))))))))
    refine .done ?_
    refine hK19 _ _ ?_
    refine .condT rfl ?_
    refine .seq (fun K20 hK20 => .region (.mv rfl (.nil (hK20 _ _ ?_))))
    refine .ret ?_
    refine hret _ _ ?_
    refine ⟨_, rfl, ?_⟩
    exact ⟨congrArg _ (B_false fun hS => h74 (hS.ids k (by omega)).1), hle⟩
   try simp only [sps] at h74
   refine .qg rfl (.fieldAddr fo_29_2_B rfl) ?_
   refine .qg rfl (.load on_22_B rfl (by assumption)) ?_
   refine .qg rfl (.fieldAddr fo_29_3_B rfl) ?_
   refine .qg rfl (.load on_22_B rfl (by assumption)) ?_
   refine .qg rfl (.move rfl) ?_
   refine .qg rfl (.idxN sl_22_A (by assumption) rfl rfl (by omega)) ?_
   refine .qg rfl (.loadI on_2_A (by assumption) rfl (by omega)) ?_
   refine .qg rfl (.idx1 sl_22_A (by assumption) rfl rfl (by omega) (by omega)) ?_
   refine .qg rfl (.loadI on_2_A (by assumption) rfl (by omega)) ?_
   refine .qg rfl (.move rfl) (.qg rfl (.cmp rfl rfl rfl) (.q rfl (.pickF rfl rfl) ?_))
   refine .done ?_
   refine hK19 _ _ ?_
   refine .cond rfl (fun h86 => ?_) (fun h86 => ?_)
   ·
    try simp only [sps] at h86
    refine .seq (fun K21 hK21 => .region (.mv rfl (.nil (hK21 _ _ ?_))))
    refine .ret ?_
    refine hret _ _ ?_
    refine ⟨_, rfl, ?_⟩
    exact ⟨congrArg _ (B_false fun hS => h86 (hS.ids k (by omega)).2), hle⟩
   try simp only [sps] at h86
   refine .skip ?_
   refine hK18 _ _ (.region (.mv rfl ?_))
   refine .q rfl (.add rfl rfl rfl (by omega) (by omega)) ?_
   refine .mv rfl (.nil ?_)
   refine hKL1 (k + 1) _ _ ?_ ?_ ⟨rfl, rfl, rfl, trivial⟩
   ·
    refine ⟨rfl, ?_⟩
    refine ⟨by omega, fun x hx => ?_⟩
    by_cases e : x < k
    · exact ha1 x e
    · obtain rfl : x = k := by omega
      exact ⟨h74, h86⟩
   omega
  try simp only [sps] at h60
  refine .exit ?_
  refine hK14 _ _ (.seq (fun K22 hK22 => .seq (fun K23 hK23 => .region (.mv rfl (.nil (hK23 _ _ ?_))))))
  refine .block ?_
  refine .loopR (σ := Nat) [(1, some _), (3, some _)] (fun k => [(5, some (.int .i64 (k : Int)))]) (fun k H' => H1 = H' ∧ k ≤ c.comp.length ∧ ∀ f, f < k → (c.comp.getD f []).length = c.src.length ∧ ∀ g, g < c.src.length → c.Cell f g) (fun k => c.comp.length - k) (0) ⟨rfl, rfl, trivial⟩ ⟨rfl, trivial⟩ ?_ ?_
  ·
   refine ⟨rfl, ?_⟩
   exact ⟨by omega, fun x hx => by omega⟩
  rintro k _ ⟨rfl, hI⟩ KL2 hKL2
  refine .forget (fr' := [(5, some (.int .i64 (k : Int))), (1, some _), (3, some _)]) ⟨rfl, rfl, rfl, trivial⟩ ?_
  obtain ⟨hk2, ha2⟩ := hI
  refine .seq (fun K24 hK24 => .seq (fun K25 hK25 => .region (.mv rfl (.mv rfl (.q rfl (.cmp rfl rfl rfl) (.nil (hK25 _ _ ?_)))))))
  refine .cond rfl (fun h89 => ?_) (fun h89 => ?_)
  ·
   simp only [decide_eq_true_eq] at h89
   have i5 := i4.2 k (by omega)
   refine .skip ?_
   refine hK24 _ _ (.seq (fun K26 hK26 => ?_))
   refine .block ?_
   refine .seq (fun K27 hK27 => .seq (fun K28 hK28 => .region (.q rfl (.fieldAddr fo_29_4_B rfl) ?_)))
   refine .q rfl (.load on_23_B rfl (by assumption)) ?_
   refine .mv rfl ?_
   refine .q rfl (.idxN sl_23_B (Intss.sl (by assumption)) rfl rfl (by omega)) ?_
   refine .q rfl (.loadR on_22_B (by assumption) rfl (by omega)) ?_
   refine .q rfl (.len sl_22_A rfl) (.mv rfl (.q rfl (.cmp rfl rfl rfl) (.nil (hK28 _ _ ?_))))
   refine .cond rfl (fun h99 => ?_) (fun h99 => ?_)
   ·
    try simp only [sps] at h99
    refine .seq (fun K29 hK29 => .region (.mv rfl (.nil (hK29 _ _ ?_))))
    refine .ret ?_
    refine hret _ _ ?_
    refine ⟨_, rfl, ?_⟩
    exact ⟨congrArg _ (B_false fun hS => by have := hS.row k (by omega); omega), hle⟩
   try simp only [sps] at h99
   refine .skip ?_
   refine hK27 _ _ (.seq (fun K30 hK30 => .region (.mv rfl (.nil (hK30 _ _ ?_)))))
   refine .block ?_
   refine .loopR (σ := Nat) [(1, some _), (3, some _), (5, some _)] (fun j => [(6, some (.int .i64 (j : Int)))]) (fun j H' => H1 = H' ∧ j ≤ c.src.length ∧ ∀ g, g < j → c.Cell k g) (fun j => c.src.length - j) (0) ⟨rfl, rfl, rfl, trivial⟩ ⟨rfl, trivial⟩ ?_ ?_
   ·
    refine ⟨rfl, ?_⟩
    exact ⟨by omega, fun x hx => by omega⟩
   rintro j _ ⟨rfl, hI⟩ KL3 hKL3
   refine .forget (fr' := [(6, some (.int .i64 (j : Int))), (1, some _), (3, some _), (5, some _)]) ⟨rfl, rfl, rfl, rfl, trivial⟩ ?_
   obtain ⟨hk3, ha3⟩ := hI
   refine .seq (fun K31 hK31 => .seq (fun K32 hK32 => .region (.mv rfl (.mv rfl (.q rfl (.cmp rfl rfl rfl) (.nil (hK32 _ _ ?_)))))))
   refine .cond rfl (fun h102 => ?_) (fun h102 => ?_)
   ·
    try simp only [sps] at h102
    refine .skip ?_
    refine hK31 _ _ (.seq (fun K33 hK33 => ?_))
    refine .block ?_
    refine .seq (fun K34 hK34 => .region (.q rfl (.fieldAddr fo_29_4_B rfl) ?_))
    refine .q rfl (.load on_23_B rfl (by assumption)) ?_
    refine .mv rfl ?_
    refine .q rfl (.idxN sl_23_B (Intss.sl (by assumption)) rfl rfl (by omega)) ?_
    refine .q rfl (.loadR on_22_B (by assumption) rfl (by omega)) ?_
    refine .mv rfl ?_
    refine .q rfl (.idxN sl_22_A (by assumption) rfl rfl (by omega)) ?_
    refine .q rfl (.loadI on_2_A (by assumption) rfl (by omega)) ?_
    refine .mv rfl (.nil (hK34 _ _ (.seq (fun K35 hK35 => .seq (fun K36 hK36 => ?_)))))
    refine .regionD mo_B (.q 0 (.q 1 (.q 2 (.q 3 (.q 4 (.q 5 (.q 6 (.q 7 (.q 8 (.q 9 (.q 10 (.done)))))))))))) (by kernel_rfl) ?_
    refine .q rfl (.fieldAddr fo_29_2_B rfl) ?_
    refine .q rfl (.load on_22_B rfl (by assumption)) ?_
    refine .mv rfl rfl ?_
    refine .q rfl (.idxN sl_22_A (by assumption) rfl rfl (by omega)) ?_
    refine .q rfl (.loadI on_2_A (by assumption) rfl (by omega)) ?_
    refine .q rfl (.fieldAddr fo_29_1_B rfl) ?_
    refine .q rfl (.load on_22_B rfl (by assumption)) ?_
    refine .mv rfl rfl ?_
    refine .q rfl (.idxN sl_22_A (by assumption) rfl rfl (by omega)) ?_
    refine .q rfl (.loadI on_2_A (by assumption) rfl (by omega)) ?_
    refine .q rfl (.cmp rfl rfl rfl) ?_
    refine .done ?_
    refine hK36 _ _ ?_
    refine .cond rfl (fun h123 => ?_) (fun h123 => ?_)
    ·
     try simp only [sps] at h123
     refine .seq (fun K37 hK37 => .seq (fun K38 hK38 => .region (.mv rfl (.q rfl (.cmp rfl rfl rfl) (.nil (hK38 _ _ ?_))))))
     refine .cond rfl (fun h125 => ?_) (fun h125 => ?_)
     ·
      try simp only [sps] at h125
      refine .seq (fun K39 hK39 => .region (.mv rfl (.nil (hK39 _ _ ?_))))
      refine .ret ?_
      refine hret _ _ ?_
      refine ⟨_, rfl, ?_⟩
      exact ⟨congrArg _ (B_false fun hS => h125 ((Cat.Cell.neg h123).1 (hS.cell k (by omega) j (by omega)))), hle⟩
     try simp only [sps] at h125
     refine .skip ?_
     refine hK37 _ _ ?_
     refine .exit ?_
     refine hK33 _ _ (.region (.mv rfl ?_))
     refine .q rfl (.add rfl rfl rfl (by omega) (by omega)) ?_
     refine .mv rfl (.nil ?_)
     refine hKL3 (j + 1) _ _ ?_ ?_ ⟨rfl, rfl, rfl, rfl, trivial⟩
     ·
      refine ⟨rfl, ?_⟩
      refine ⟨by omega, fun x hx => ?_⟩
      by_cases e : x < j
      · exact ha3 x e
      · obtain rfl : x = j := by omega
        exact (Cat.Cell.neg h123).2 h125
     omega
    try simp only [sps] at h123
    refine .skip ?_
    refine hK35 _ _ (.seq (fun K40 hK40 => ?_))
    refine .regionD mo_B (.q 0 (.q 1 (.q 2 (.q 3 (.q 4 (.q 5 (.q 6 (.q 7 (.q 8 (.q 9 (.q 10 (.q 11 (.q 12 (.q 13 (.q 14 (.q 15 (.q 16 (.q 17 (.q 18 (.q 19 (.q 20 (.q 21 (.q 22 (.q 23 (.q 24 (.q 25 (.q 26 (.q 27 (.q 28 (.q 29 (.q 30 (.q 31 (.q 32 (.done)))))))))))))))))))))))))))))))))) (by kernel_rfl) ?_
    refine .mv rfl rfl (.q rfl (.cmp rfl rfl rfl) (.mv rfl rfl ?_))
    refine .split (fun h128 => ?_) (fun h128 => ?_)
    ·
     try simp only [sps] at h128
     refine .z rfl (.z rfl (.z rfl (.q rfl (.pickT rfl rfl) (.mv rfl rfl (.z rfl (.z rfl (.z rfl (.z rfl (.z rfl (.z rfl (.z rfl (.z rfl (.z rfl (.z rfl (.z rfl ?_)))))))))))))))
     refine .q rfl (.pickT rfl rfl) (.mv rfl rfl (.z rfl (.z rfl (.z rfl (.z rfl (.z rfl (.z rfl (.z rfl (.z rfl (.z rfl (.z rfl (.z rfl (.q rfl (.pickT rfl rfl) ?_)))))))))))))
     refine .done ?_
     refine hK40 _ _ ?_
     refine .condT rfl ?_
     refine .seq (fun K41 hK41 => .region (.mv rfl (.nil (hK41 _ _ ?_))))
     refine .ret ?_
     refine hret _ _ ?_
     refine ⟨_, rfl, ?_⟩
     exact ⟨congrArg _ (B_false fun hS => by have := (Cat.Cell.pos h123).1 (hS.cell k (by omega) j (by omega)); omega), hle⟩
    try simp only [sps] at h128
    refine .qg rfl (.move rfl) (.qg rfl (.move rfl) (.qg rfl (.cmp rfl rfl rfl) (.q rfl (.pickF rfl rfl) (.mv rfl rfl ?_))))
    refine .split (fun h133 => ?_) (fun h133 => ?_)
    ·
     try simp only [sps] at h133
     refine .z rfl (.z rfl (.z rfl (.z rfl (.z rfl (.z rfl (.z rfl (.z rfl (.z rfl (.z rfl (.z rfl (.q rfl (.pickT rfl rfl) (.mv rfl rfl (.z rfl (.z rfl (.z rfl ?_)))))))))))))))
     refine .z rfl (.z rfl (.z rfl (.z rfl (.z rfl (.z rfl (.z rfl (.z rfl (.q rfl (.pickT rfl rfl) ?_))))))))
     refine .done ?_
     refine hK40 _ _ ?_
     refine .condT rfl ?_
     refine .seq (fun K42 hK42 => .region (.mv rfl (.nil (hK42 _ _ ?_))))
     refine .ret ?_
     refine hret _ _ ?_
     refine ⟨_, rfl, ?_⟩
     exact ⟨congrArg _ (B_false fun hS => by have := (Cat.Cell.pos h123).1 (hS.cell k (by omega) j (by omega)); omega), hle⟩
    try simp only [sps] at h133
    refine .qg rfl (.fieldAddr fo_29_1_B rfl) ?_
    refine .qg rfl (.load on_22_B rfl (by assumption)) ?_
    refine .qg rfl (.move rfl) ?_
    refine .qg rfl (.idx1 sl_22_A (by assumption) rfl rfl (by omega) (by omega)) ?_
    refine .qg rfl (.loadI on_2_A (by assumption) rfl (by omega)) ?_
    refine .qg rfl (.fieldAddr fo_29_1_B rfl) ?_
    refine .qg rfl (.load on_22_B rfl (by assumption)) ?_
    refine .qg rfl (.move rfl) ?_
    refine .qg rfl (.idxN sl_22_A (by assumption) rfl rfl (by omega)) ?_
    refine .qg rfl (.loadI on_2_A (by assumption) rfl (by omega)) ?_
    refine .qg rfl (.cmp rfl rfl rfl) (.q rfl (.pickF rfl rfl) (.mv rfl rfl ?_))
    refine .split (fun h146 => ?_) (fun h146 => ?_)
    ·
     try simp only [sps] at h146
     refine .z rfl (.z rfl (.z rfl (.z rfl (.z rfl (.z rfl (.z rfl (.z rfl (.z rfl (.z rfl (.z rfl (.q rfl (.pickT rfl rfl) ?_)))))))))))
     refine .done ?_
     refine hK40 _ _ ?_
     refine .condT rfl ?_
     refine .seq (fun K43 hK43 => .region (.mv rfl (.nil (hK43 _ _ ?_))))
     refine .ret ?_
     refine hret _ _ ?_
     refine ⟨_, rfl, ?_⟩
     exact ⟨congrArg _ (B_false fun hS => h146 ((Cat.Cell.pos h123).1 (hS.cell k (by omega) j (by omega))).2.2.1), hle⟩
    try simp only [sps] at h146
    refine .qg rfl (.fieldAddr fo_29_2_B rfl) ?_
    refine .qg rfl (.load on_22_B rfl (by assumption)) ?_
    refine .qg rfl (.move rfl) ?_
    refine .qg rfl (.idx1 sl_22_A (by assumption) rfl rfl (by omega) (by omega)) ?_
    refine .qg rfl (.loadI on_2_A (by assumption) rfl (by omega)) ?_
    refine .qg rfl (.fieldAddr fo_29_2_B rfl) ?_
    refine .qg rfl (.load on_22_B rfl (by assumption)) ?_
    refine .qg rfl (.move rfl) ?_
    refine .qg rfl (.idxN sl_22_A (by assumption) rfl rfl (by omega)) ?_
    refine .qg rfl (.loadI on_2_A (by assumption) rfl (by omega)) ?_
    refine .qg rfl (.cmp rfl rfl rfl) (.q rfl (.pickF rfl rfl) ?_)
    refine .done ?_
    refine hK40 _ _ ?_
    refine .cond rfl (fun h158 => ?_) (fun h158 => ?_)
    ·
     try simp only [sps] at h158
     refine .seq (fun K44 hK44 => .region (.mv rfl (.nil (hK44 _ _ ?_))))
     refine .ret ?_
     refine hret _ _ ?_
     refine ⟨_, rfl, ?_⟩
     exact ⟨congrArg _ (B_false fun hS => h158 ((Cat.Cell.pos h123).1 (hS.cell k (by omega) j (by omega))).2.2.2), hle⟩
    try simp only [sps] at h158
    refine .skip ?_
    refine hK33 _ _ (.region (.mv rfl ?_))
    refine .q rfl (.add rfl rfl rfl (by omega) (by omega)) ?_
    refine .mv rfl (.nil ?_)
    refine hKL3 (j + 1) _ _ ?_ ?_ ⟨rfl, rfl, rfl, rfl, trivial⟩
    ·
     refine ⟨rfl, ?_⟩
     refine ⟨by omega, fun x hx => ?_⟩
     by_cases e : x < j
     · exact ha3 x e
     · obtain rfl : x = j := by omega
       exact (Cat.Cell.pos h123).2 ⟨by omega, by omega, by assumption, by assumption⟩
    omega
   try simp only [sps] at h102
   refine .exit ?_
   refine hK26 _ _ (.region (.mv rfl ?_))
   refine .q rfl (.add rfl rfl rfl (by omega) (by omega)) ?_
   refine .mv rfl (.nil ?_)
   refine hKL2 (k + 1) _ _ ?_ ?_ ⟨rfl, rfl, rfl, trivial⟩
   ·
    refine ⟨rfl, ?_⟩
    refine ⟨by omega, fun x hx => ?_⟩
    by_cases e : x < k
    · exact ha2 x e
    · obtain rfl : x = k := by omega
      exact ⟨by omega, fun g hg => ha3 g (by omega)⟩
   omega
  try simp only [sps] at h89
  refine .exit ?_
  refine hK22 _ _ (.seq (fun K45 hK45 => .region (.mv rfl (.nil (hK45 _ _ ?_)))))
  refine .ret ?_
  refine hret _ _ ?_
  refine ⟨_, rfl, ?_⟩
  exact ⟨congrArg _ (B_true ⟨h15, by omega, h37.1, h28.2, h37.2, by omega, h56, by omega, fun x hx => ha1 x (by omega), fun f hf => (ha2 f (by omega)).1, fun f hf => (ha2 f (by omega)).2⟩), hle⟩
def FaultN (c : Cat) (H : GHeap) : Value → GHeap → Prop := fun v H' => H.Le H' ∧ ∃ kd b1 b2 b3 : Int, v = .tuple #[.int .i64 kd, .int .i64 b1, .int .i64 b2, .int .i64 b3] ∧ (kd = 0 ↔ c.Laws)
theorem l02Fault_c {c : Cat} {p : CatP} {H : GHeap} (hin : c.In H p := by assumption) (hS : c.Shape := by assumption) : GCalls Try.prog 88 [.agg (c.cells p).toArray] H (FaultR c H) := by
  refine (GCalls.quiet (φ := fun v => ∃ kd b1 b2 b3 : Int, v = .tuple #[.int .i64 kd, .int .i64 b1, .int .i64 b2, .int .i64 b3] ∧ (kd = 0 ↔ c.Laws)) (GCalls.mono (Q := FaultN c H) ?_ fun v H' ⟨h1, kd, b1, b2, b3, h2, h3⟩ => ⟨⟨kd, b1, b2, b3, h2, h3⟩, by rw [h2]; rfl, h1⟩)).mono fun v H' ⟨h1, h2⟩ => ⟨h2.symm, h1⟩
  refine GCalls.body (N := 131) (rs := [.tmp 2, .tmp 3, .tmp 4, .tmp 5]) Try.func88 rfl rfl rfl rfl (fun Qx hret hend => ?_)
  refine .fg [0] rfl ?_
  refine .seq (fun K1 hK1 => .region (.d rfl rfl rfl (.box rfl sz_29_D rfl CIs.mk) ?_))
  show GRun _ _ _ _ _ _ (H.push (.row (c.cells p) 29 true))
  have hle := GHeap.le_push H (.row (c.cells p) 29 true)
  have hb : Cat.At (H.push (.row (c.cells p) 29 true)) H.next 0 c p := ⟨Mem.new _ _ _ _, hin.mono hle⟩
  generalize H.push (.row (c.cells p) 29 true) = H1 at *
  generalize H.next = g at *
  obtain ⟨-, c1, c2, c3, c4, i1, i2, i3, i4⟩ := hb.get
  have e1 := hS.tl
  have e2 := hS.n40
  have e3 := hS.il
  have e5 := hS.cl
  refine .mv rfl (.mv rfl (.mv rfl (.mv rfl (.nil (hK1 _ _ (.seq (fun K2 hK2 => .region (.q rfl (.fieldAddr fo_29_1_B rfl) ?_))))))))
  refine .q rfl (.load on_22_B rfl (by assumption)) ?_
  refine .q rfl (.len sl_22_A rfl) (.mv rfl (.nil (hK2 _ _ (.seq (fun K3 hK3 => .seq (fun K4 hK4 => .region (.mv rfl (.nil (hK4 _ _ ?_)))))))))
  refine .block ?_
  refine .loopR (σ := Nat) [(1, some _), (6, some _)] (fun k => [(7, some (.int .i64 (k : Int)))]) (fun k H' => H1 = H' ∧ k ≤ c.src.length ∧ ∀ x, x < k → c.IdOk x) (fun k => c.src.length - k) (0) ⟨rfl, rfl, trivial⟩ ⟨rfl, trivial⟩ ?_ ?_
  ·
   refine ⟨rfl, ?_⟩
   exact ⟨by omega, fun x hx => by omega⟩
  rintro k _ ⟨rfl, hI⟩ KL1 hKL1
  refine .forget (fr' := [(7, some (.int .i64 (k : Int))), (1, some _), (6, some _)]) ⟨rfl, rfl, rfl, trivial⟩ ?_
  obtain ⟨hk1, ha1⟩ := hI
  refine .seq (fun K5 hK5 => .seq (fun K6 hK6 => .region (.mv rfl (.mv rfl (.q rfl (.cmp rfl rfl rfl) (.nil (hK6 _ _ ?_)))))))
  refine .cond rfl (fun h16 => ?_) (fun h16 => ?_)
  ·
   simp only [decide_eq_true_eq] at h16
   have q1 := hS.src k (by omega)
   have q2 := hS.tgt k (by omega)
   have q3 := hS.idn_lt q1.1 q1.2
   have q4 := hS.idn_lt q2.1 q2.2
   have r1 := i4.2 (c.idn.getD (c.src.getD k 0).toNat 0).toNat (by omega)
   have r1l := hS.row (c.idn.getD (c.src.getD k 0).toNat 0).toNat (by omega)
   have r2 := i4.2 k (by omega)
   have r2l := hS.row k (by omega)
   refine .skip ?_
   refine hK5 _ _ (.seq (fun K7 hK7 => ?_))
   refine .block ?_
   refine .seq (fun K8 hK8 => ?_)
   refine .regionD mo_B (.q 0 (.q 1 (.q 2 (.q 3 (.q 4 (.q 5 (.q 6 (.q 7 (.q 8 (.q 9 (.q 10 (.q 11 (.q 12 (.q 13 (.q 14 (.q 15 (.q 16 (.q 17 (.q 18 (.q 19 (.q 20 (.q 21 (.q 22 (.q 23 (.q 24 (.q 25 (.q 26 (.q 27 (.q 28 (.q 29 (.q 30 (.q 31 (.q 32 (.q 33 (.q 34 (.q 35 (.q 36 (.q 37 (.done))))))))))))))))))))))))))))))))))))))) (by kernel_rfl) ?_
   refine .q rfl (.fieldAddr fo_29_4_B rfl) ?_
   refine .q rfl (.load on_23_B rfl (by assumption)) ?_
   refine .q rfl (.fieldAddr fo_29_3_B rfl) ?_
   refine .q rfl (.load on_22_B rfl (by assumption)) ?_
   refine .q rfl (.fieldAddr fo_29_1_B rfl) ?_
   refine .q rfl (.load on_22_B rfl (by assumption)) ?_
   refine .mv rfl rfl ?_
   refine .q rfl (.idxN sl_22_A (by assumption) rfl rfl (by omega)) ?_
   refine .q rfl (.loadI on_2_A (by assumption) rfl (by omega)) ?_
   refine .q rfl (.idx1 sl_22_A (by assumption) rfl rfl (by omega) (by omega)) ?_
   refine .q rfl (.loadI on_2_A (by assumption) rfl (by omega)) ?_
   refine .q rfl (.idx1 sl_23_B (Intss.sl (by assumption)) rfl rfl (by omega) (by omega)) ?_
   refine .q rfl (.loadR on_22_B (by assumption) rfl (by omega)) ?_
   refine .mv rfl rfl ?_
   refine .q rfl (.idxN sl_22_A (by assumption) rfl rfl (by omega)) ?_
   refine .q rfl (.loadI on_2_A (by assumption) rfl (by omega)) ?_
   refine .mv rfl rfl (.q rfl (.cmp rfl rfl rfl) (.mv rfl rfl ?_))
   refine .split (fun h37 => ?_) (fun h37 => ?_)
   ·
    try simp only [sps] at h37
    refine .z rfl (.z rfl (.z rfl (.z rfl (.z rfl (.z rfl (.z rfl (.z rfl (.z rfl (.z rfl (.z rfl (.z rfl (.z rfl (.z rfl (.z rfl (.z rfl ?_)))))))))))))))
    refine .z rfl (.z rfl (.q rfl (.pickT rfl rfl) ?_))
    refine .done ?_
    refine hK8 _ _ ?_
    refine .condT rfl ?_
    refine .seq (fun K9 hK9 => .region (.mv rfl (.mv rfl (.mv rfl (.mv rfl (.mv rfl (.nil (hK9 _ _ ?_))))))))
    refine .ret ?_
    refine hret _ _ ?_
    refine ⟨_, _, _, _, rfl, rfl, rfl, rfl, ?_⟩
    exact ⟨hle, _, _, _, _, rfl, fun e => by omega, fun hL => absurd (hL.ids k (by omega)).1 h37⟩
   try simp only [sps] at h37
   refine .qg rfl (.fieldAddr fo_29_4_B rfl) ?_
   refine .qg rfl (.load on_23_B rfl (by assumption)) ?_
   refine .qg rfl (.move rfl) ?_
   refine .qg rfl (.idxN sl_23_B (Intss.sl (by assumption)) rfl rfl (by omega)) ?_
   refine .qg rfl (.loadR on_22_B (by assumption) rfl (by omega)) ?_
   refine .qg rfl (.fieldAddr fo_29_3_B rfl) ?_
   refine .qg rfl (.load on_22_B rfl (by assumption)) ?_
   refine .qg rfl (.fieldAddr fo_29_2_B rfl) ?_
   refine .qg rfl (.load on_22_B rfl (by assumption)) ?_
   refine .qg rfl (.move rfl) ?_
   refine .qg rfl (.idxN sl_22_A (by assumption) rfl rfl (by omega)) ?_
   refine .qg rfl (.loadI on_2_A (by assumption) rfl (by omega)) ?_
   refine .qg rfl (.idx1 sl_22_A (by assumption) rfl rfl (by omega) (by omega)) ?_
   refine .qg rfl (.loadI on_2_A (by assumption) rfl (by omega)) ?_
   refine .qg rfl (.idx1 sl_22_A (by assumption) rfl rfl (by omega) (by omega)) ?_
   refine .qg rfl (.loadI on_2_A (by assumption) rfl (by omega)) ?_
   refine .qg rfl (.move rfl) (.qg rfl (.cmp rfl rfl rfl) (.q rfl (.pickF rfl rfl) ?_))
   refine .done ?_
   refine hK8 _ _ ?_
   refine .cond rfl (fun h56 => ?_) (fun h56 => ?_)
   ·
    try simp only [sps] at h56
    refine .seq (fun K10 hK10 => .region (.mv rfl (.mv rfl (.mv rfl (.mv rfl (.mv rfl (.nil (hK10 _ _ ?_))))))))
    refine .ret ?_
    refine hret _ _ ?_
    refine ⟨_, _, _, _, rfl, rfl, rfl, rfl, ?_⟩
    exact ⟨hle, _, _, _, _, rfl, fun e => by omega, fun hL => absurd (hL.ids k (by omega)).2 h56⟩
   try simp only [sps] at h56
   refine .skip ?_
   refine hK7 _ _ (.region (.mv rfl ?_))
   refine .q rfl (.add rfl rfl rfl (by omega) (by omega)) ?_
   refine .mv rfl (.nil ?_)
   refine hKL1 (k + 1) _ _ ?_ ?_ ⟨rfl, rfl, rfl, trivial⟩
   ·
    refine ⟨rfl, ?_⟩
    refine ⟨by omega, fun x hx => ?_⟩
    by_cases e : x < k
    · exact ha1 x e
    · obtain rfl : x = k := by omega
      exact ⟨h37, h56⟩
   omega
  try simp only [sps] at h16
  refine .exit ?_
  refine hK3 _ _ (.seq (fun K11 hK11 => .seq (fun K12 hK12 => .region (.mv rfl (.nil (hK12 _ _ ?_))))))
  refine .block ?_
  refine .loopR (σ := Nat) [(1, some _), (6, some _)] (fun k => [(8, some (.int .i64 (k : Int)))]) (fun k H' => H1 = H' ∧ k ≤ c.src.length ∧ ∀ f, f < k → ∀ g, g < c.src.length → c.tgt.getD f 0 = c.src.getD g 0 → ∀ h, h < c.src.length → c.tgt.getD g 0 = c.src.getD h 0 → c.th (c.th f g) h = c.th f (c.th g h)) (fun k => c.src.length - k) (0) ⟨rfl, rfl, trivial⟩ ⟨rfl, trivial⟩ ?_ ?_
  ·
   refine ⟨rfl, ?_⟩
   exact ⟨by omega, fun x hx => by omega⟩
  rintro k _ ⟨rfl, hI⟩ KL2 hKL2
  refine .forget (fr' := [(8, some (.int .i64 (k : Int))), (1, some _), (6, some _)]) ⟨rfl, rfl, rfl, trivial⟩ ?_
  obtain ⟨hk2, ha2⟩ := hI
  refine .seq (fun K13 hK13 => .seq (fun K14 hK14 => .region (.mv rfl (.mv rfl (.q rfl (.cmp rfl rfl rfl) (.nil (hK14 _ _ ?_)))))))
  refine .cond rfl (fun h60 => ?_) (fun h60 => ?_)
  ·
   try simp only [sps] at h60
   refine .skip ?_
   refine hK13 _ _ (.seq (fun K15 hK15 => ?_))
   refine .block ?_
   refine .seq (fun K16 hK16 => .region (.mv rfl (.nil (hK16 _ _ ?_))))
   refine .block ?_
   refine .loopR (σ := Nat) [(1, some _), (6, some _), (8, some _)] (fun j => [(9, some (.int .i64 (j : Int)))]) (fun j H' => H1 = H' ∧ j ≤ c.src.length ∧ ∀ g, g < j → c.tgt.getD k 0 = c.src.getD g 0 → ∀ h, h < c.src.length → c.tgt.getD g 0 = c.src.getD h 0 → c.th (c.th k g) h = c.th k (c.th g h)) (fun j => c.src.length - j) (0) ⟨rfl, rfl, rfl, trivial⟩ ⟨rfl, trivial⟩ ?_ ?_
   ·
    refine ⟨rfl, ?_⟩
    exact ⟨by omega, fun x hx => by omega⟩
   rintro j _ ⟨rfl, hI⟩ KL3 hKL3
   refine .forget (fr' := [(9, some (.int .i64 (j : Int))), (1, some _), (6, some _), (8, some _)]) ⟨rfl, rfl, rfl, rfl, trivial⟩ ?_
   obtain ⟨hk3, ha3⟩ := hI
   refine .seq (fun K17 hK17 => .seq (fun K18 hK18 => .region (.mv rfl (.mv rfl (.q rfl (.cmp rfl rfl rfl) (.nil (hK18 _ _ ?_)))))))
   refine .cond rfl (fun h65 => ?_) (fun h65 => ?_)
   ·
    try simp only [sps] at h65
    refine .skip ?_
    refine hK17 _ _ (.seq (fun K19 hK19 => ?_))
    refine .block ?_
    refine .seq (fun K20 hK20 => .seq (fun K21 hK21 => ?_))
    refine .regionD mo_B (.q 0 (.q 1 (.q 2 (.q 3 (.q 4 (.q 5 (.q 6 (.q 7 (.q 8 (.q 9 (.q 10 (.done)))))))))))) (by kernel_rfl) ?_
    refine .q rfl (.fieldAddr fo_29_2_B rfl) ?_
    refine .q rfl (.load on_22_B rfl (by assumption)) ?_
    refine .mv rfl rfl ?_
    refine .q rfl (.idxN sl_22_A (by assumption) rfl rfl (by omega)) ?_
    refine .q rfl (.loadI on_2_A (by assumption) rfl (by omega)) ?_
    refine .q rfl (.fieldAddr fo_29_1_B rfl) ?_
    refine .q rfl (.load on_22_B rfl (by assumption)) ?_
    refine .mv rfl rfl ?_
    refine .q rfl (.idxN sl_22_A (by assumption) rfl rfl (by omega)) ?_
    refine .q rfl (.loadI on_2_A (by assumption) rfl (by omega)) ?_
    refine .q rfl (.cmp rfl rfl rfl) ?_
    refine .done ?_
    refine hK21 _ _ ?_
    refine .cond rfl (fun h78 => ?_) (fun h78 => ?_)
    ·
     try simp only [sps] at h78
     refine .exit ?_
     refine hK19 _ _ (.region (.mv rfl ?_))
     refine .q rfl (.add rfl rfl rfl (by omega) (by omega)) ?_
     refine .mv rfl (.nil ?_)
     refine hKL3 (j + 1) _ _ ?_ ?_ ⟨rfl, rfl, rfl, rfl, trivial⟩
     ·
      refine ⟨rfl, ?_⟩
      refine ⟨by omega, fun x hx => ?_⟩
      by_cases e : x < j
      · exact ha3 x e
      · obtain rfl : x = j := by omega
        exact fun e => absurd e h78
     omega
    simp only [bne_eq_false_iff_eq] at h78
    have q5 := (Cat.Cell.pos h78).1 (hS.cell k (by omega) j (by omega))
    have r3 := i4.2 k (by omega)
    have r3l := hS.row k (by omega)
    have r4 := i4.2 j (by omega)
    have r4l := hS.row j (by omega)
    have r5 := i4.2 ((c.comp.getD k []).getD j 0).toNat (by omega)
    have r5l := hS.row ((c.comp.getD k []).getD j 0).toNat (by omega)
    refine .skip ?_
    refine hK20 _ _ (.seq (fun K22 hK22 => .region (.mv rfl (.nil (hK22 _ _ ?_)))))
    refine .block ?_
    refine .loopR (σ := Nat) [(1, some _), (6, some _), (8, some _), (9, some _)] (fun i => [(10, some (.int .i64 (i : Int)))]) (fun i H' => H1 = H' ∧ i ≤ c.src.length ∧ ∀ h, h < i → c.tgt.getD j 0 = c.src.getD h 0 → c.th (c.th k j) h = c.th k (c.th j h)) (fun i => c.src.length - i) (0) ⟨rfl, rfl, rfl, rfl, trivial⟩ ⟨rfl, trivial⟩ ?_ ?_
    ·
     refine ⟨rfl, ?_⟩
     exact ⟨by omega, fun x hx => by omega⟩
    rintro i _ ⟨rfl, hI⟩ KL4 hKL4
    refine .forget (fr' := [(10, some (.int .i64 (i : Int))), (1, some _), (6, some _), (8, some _), (9, some _)]) ⟨rfl, rfl, rfl, rfl, rfl, trivial⟩ ?_
    obtain ⟨hk4, ha4⟩ := hI
    refine .seq (fun K23 hK23 => .seq (fun K24 hK24 => .region (.mv rfl (.mv rfl (.q rfl (.cmp rfl rfl rfl) (.nil (hK24 _ _ ?_)))))))
    refine .cond rfl (fun h81 => ?_) (fun h81 => ?_)
    ·
     try simp only [sps] at h81
     refine .skip ?_
     refine hK23 _ _ (.seq (fun K25 hK25 => ?_))
     refine .block ?_
     refine .seq (fun K26 hK26 => ?_)
     refine .regionD mo_B (.q 0 (.q 1 (.q 2 (.q 3 (.q 4 (.q 5 (.q 6 (.q 7 (.q 8 (.q 9 (.q 10 (.q 11 (.q 12 (.q 13 (.q 14 (.q 15 (.q 16 (.q 17 (.q 18 (.q 19 (.q 20 (.q 21 (.q 22 (.q 23 (.q 24 (.q 25 (.q 26 (.q 27 (.q 28 (.q 29 (.q 30 (.q 31 (.q 32 (.q 33 (.q 34 (.q 35 (.q 36 (.q 37 (.q 38 (.q 39 (.q 40 (.q 41 (.q 42 (.q 43 (.done))))))))))))))))))))))))))))))))))))))))))))) (by kernel_rfl) ?_
     refine .q rfl (.fieldAddr fo_29_2_B rfl) ?_
     refine .q rfl (.load on_22_B rfl (by assumption)) ?_
     refine .mv rfl rfl ?_
     refine .q rfl (.idxN sl_22_A (by assumption) rfl rfl (by omega)) ?_
     refine .q rfl (.loadI on_2_A (by assumption) rfl (by omega)) ?_
     refine .q rfl (.fieldAddr fo_29_1_B rfl) ?_
     refine .q rfl (.load on_22_B rfl (by assumption)) ?_
     refine .mv rfl rfl ?_
     refine .q rfl (.idxN sl_22_A (by assumption) rfl rfl (by omega)) ?_
     refine .q rfl (.loadI on_2_A (by assumption) rfl (by omega)) ?_
     refine .q rfl (.cmp rfl rfl rfl) (.mv rfl rfl ?_)
     refine .split (fun h95 => ?_) (fun h95 => ?_)
     ·
      simp only [beq_iff_eq] at h95
      have q6 := (Cat.Cell.pos h95).1 (hS.cell j (by omega) i (by omega))
      refine .qg rfl (.fieldAddr fo_29_4_B rfl) ?_
      refine .qg rfl (.load on_23_B rfl (by assumption)) ?_
      refine .qg rfl (.fieldAddr fo_29_4_B rfl) ?_
      refine .qg rfl (.load on_23_B rfl (by assumption)) ?_
      refine .qg rfl (.move rfl) ?_
      refine .qg rfl (.idxN sl_23_B (Intss.sl (by assumption)) rfl rfl (by omega)) ?_
      refine .qg rfl (.loadR on_22_B (by assumption) rfl (by omega)) ?_
      refine .qg rfl (.move rfl) ?_
      refine .qg rfl (.idxN sl_22_A (by assumption) rfl rfl (by omega)) ?_
      refine .qg rfl (.loadI on_2_A (by assumption) rfl (by omega)) ?_
      refine .qg rfl (.idx1 sl_23_B (Intss.sl (by assumption)) rfl rfl (by omega) (by omega)) ?_
      refine .qg rfl (.loadR on_22_B (by assumption) rfl (by omega)) ?_
      refine .qg rfl (.move rfl) ?_
      refine .qg rfl (.idxN sl_22_A (by assumption) rfl rfl (by omega)) ?_
      refine .qg rfl (.loadI on_2_A (by assumption) rfl (by omega)) ?_
      refine .qg rfl (.fieldAddr fo_29_4_B rfl) ?_
      refine .qg rfl (.load on_23_B rfl (by assumption)) ?_
      refine .qg rfl (.move rfl) ?_
      refine .qg rfl (.idxN sl_23_B (Intss.sl (by assumption)) rfl rfl (by omega)) ?_
      refine .qg rfl (.loadR on_22_B (by assumption) rfl (by omega)) ?_
      refine .qg rfl (.fieldAddr fo_29_4_B rfl) ?_
      refine .qg rfl (.load on_23_B rfl (by assumption)) ?_
      refine .qg rfl (.move rfl) ?_
      refine .qg rfl (.idxN sl_23_B (Intss.sl (by assumption)) rfl rfl (by omega)) ?_
      refine .qg rfl (.loadR on_22_B (by assumption) rfl (by omega)) ?_
      refine .qg rfl (.move rfl) ?_
      refine .qg rfl (.idxN sl_22_A (by assumption) rfl rfl (by omega)) ?_
      refine .qg rfl (.loadI on_2_A (by assumption) rfl (by omega)) ?_
      refine .qg rfl (.idx1 sl_22_A (by assumption) rfl rfl (by omega) (by omega)) ?_
      refine .qg rfl (.loadI on_2_A (by assumption) rfl (by omega)) ?_
      refine .qg rfl (.cmp rfl rfl rfl) (.q rfl (.pickT rfl rfl) ?_)
      refine .done ?_
      refine hK26 _ _ ?_
      refine .cond rfl (fun h127 => ?_) (fun h127 => ?_)
      ·
       try simp only [sps] at h127
       refine .seq (fun K27 hK27 => .region (.mv rfl (.mv rfl (.mv rfl (.mv rfl (.mv rfl (.mv rfl (.mv rfl (.nil (hK27 _ _ ?_))))))))))
       refine .ret ?_
       refine hret _ _ ?_
       refine ⟨_, _, _, _, rfl, rfl, rfl, rfl, ?_⟩
       exact ⟨hle, _, _, _, _, rfl, fun e => by omega, fun hL => absurd (hL.as k (by omega) j (by omega) h78 i (by omega) h95) h127⟩
      try simp only [sps] at h127
      refine .skip ?_
      refine hK25 _ _ (.region (.mv rfl ?_))
      refine .q rfl (.add rfl rfl rfl (by omega) (by omega)) ?_
      refine .mv rfl (.nil ?_)
      refine hKL4 (i + 1) _ _ ?_ ?_ ⟨rfl, rfl, rfl, rfl, rfl, trivial⟩
      ·
       refine ⟨rfl, ?_⟩
       refine ⟨by omega, fun x hx => ?_⟩
       by_cases e : x < i
       · exact ha4 x e
       · obtain rfl : x = i := by omega
         exact fun _ => h127
      omega
     try simp only [sps] at h95
     refine .z rfl (.z rfl (.z rfl (.z rfl (.z rfl (.z rfl (.z rfl (.z rfl (.z rfl (.z rfl (.z rfl (.z rfl (.z rfl (.z rfl (.z rfl (.z rfl ?_)))))))))))))))
     refine .z rfl (.z rfl (.z rfl (.z rfl (.z rfl (.z rfl (.z rfl (.z rfl (.z rfl (.z rfl (.z rfl (.z rfl (.z rfl (.z rfl (.z rfl (.q rfl (.pickF rfl rfl) ?_)))))))))))))))
     refine .done ?_
     refine hK26 _ _ ?_
     refine .condF rfl ?_
     refine .skip ?_
     refine hK25 _ _ (.region (.mv rfl ?_))
     refine .q rfl (.add rfl rfl rfl (by omega) (by omega)) ?_
     refine .mv rfl (.nil ?_)
     refine hKL4 (i + 1) _ _ ?_ ?_ ⟨rfl, rfl, rfl, rfl, rfl, trivial⟩
     ·
      refine ⟨rfl, ?_⟩
      refine ⟨by omega, fun x hx => ?_⟩
      by_cases e : x < i
      · exact ha4 x e
      · obtain rfl : x = i := by omega
        exact fun e => absurd e h95
     omega
    try simp only [sps] at h81
    refine .exit ?_
    refine hK19 _ _ (.region (.mv rfl ?_))
    refine .q rfl (.add rfl rfl rfl (by omega) (by omega)) ?_
    refine .mv rfl (.nil ?_)
    refine hKL3 (j + 1) _ _ ?_ ?_ ⟨rfl, rfl, rfl, rfl, trivial⟩
    ·
     refine ⟨rfl, ?_⟩
     refine ⟨by omega, fun x hx => ?_⟩
     by_cases e : x < j
     · exact ha3 x e
     · obtain rfl : x = j := by omega
       exact fun _ h hh => ha4 h (by omega)
    omega
   try simp only [sps] at h65
   refine .exit ?_
   refine hK15 _ _ (.region (.mv rfl ?_))
   refine .q rfl (.add rfl rfl rfl (by omega) (by omega)) ?_
   refine .mv rfl (.nil ?_)
   refine hKL2 (k + 1) _ _ ?_ ?_ ⟨rfl, rfl, rfl, trivial⟩
   ·
    refine ⟨rfl, ?_⟩
    refine ⟨by omega, fun x hx => ?_⟩
    by_cases e : x < k
    · exact ha2 x e
    · obtain rfl : x = k := by omega
      exact fun g hg => ha3 g (by omega)
   omega
  try simp only [sps] at h60
  refine .exit ?_
  refine hK11 _ _ (.seq (fun K28 hK28 => .region (.mv rfl (.mv rfl (.mv rfl (.mv rfl (.nil (hK28 _ _ ?_))))))))
  refine .ret ?_
  refine hret _ _ ?_
  refine ⟨_, _, _, _, rfl, rfl, rfl, rfl, ?_⟩
  exact ⟨hle, _, _, _, _, rfl, fun _ => ⟨fun f hf => ha1 f (by omega), fun f hf => ha2 f (by omega)⟩, fun _ => rfl⟩
theorem l02Is_c {c : Cat} {p : CatP} {H : GHeap} (hin : c.In H p := by assumption) (hs : c.Small := by assumption) : GCalls Try.prog 41 [.agg (c.cells p).toArray] H (Ret (.bool (B c.Is)) H) := by
  refine GCalls.ret rfl ?_
  refine GCalls.body (N := 19) (rs := [.tmp 2]) Try.func41 rfl rfl rfl rfl (fun Qx hret hend => ?_)
  refine .fg [0] rfl ?_
  refine .seq (fun K1 hK1 => .region (.d rfl rfl rfl (.box rfl sz_29_D rfl CIs.mk) ?_))
  show GRun _ _ _ _ _ _ (H.push (.row (c.cells p) 29 true))
  have hle := GHeap.le_push H (.row (c.cells p) 29 true)
  have hb : Cat.At (H.push (.row (c.cells p) 29 true)) H.next 0 c p := ⟨Mem.new _ _ _ _, hin.mono hle⟩
  generalize H.push (.row (c.cells p) 29 true) = H1 at *
  generalize H.next = g at *
  have hm : MemN _ _ _ _ _ := ⟨rfl, hb.1⟩
  have hin1 := hb.2
  refine .mv rfl (.nil (hK1 _ _ (.seq (fun K2 hK2 => .seq (fun K3 hK3 => .region ?_)))))
  refine .q rfl (.loadM ag_29_D rfl (by assumption)) ?_
  refine .callQ rfl rfl rfl rfl @Try.call87 rfl (specShape_c) ?_
  refine .q rfl (.not rfl) (.nil (hK3 _ _ ?_))
  refine .cond rfl (fun h9 => ?_) (fun h9 => ?_)
  ·
   try simp only [sps] at h9
   refine .seq (fun K4 hK4 => .region (.mv rfl (.nil (hK4 _ _ ?_))))
   refine .ret ?_
   refine hret _ _ ?_
   refine ⟨_, rfl, ?_⟩
   exact ⟨congrArg _ (B_false fun hI => h9 hI.1), hle⟩
  try simp only [sps] at h9
  refine .skip ?_
  refine hK2 _ _ (.seq (fun K5 hK5 => .region ?_))
  refine .q rfl (.loadM ag_29_D rfl (by assumption)) ?_
  refine .call rfl rfl rfl rfl @Try.call88 rfl (l02Fault_c) ?_
  rintro _ _ ⟨rfl, kd, b1, b2, b3, rfl, hkd⟩
  refine .mv rfl (.q rfl (.extract rfl rfl) (.q rfl (.extract rfl rfl) (.q rfl (.extract rfl rfl) (.q rfl (.extract rfl rfl) (.mv rfl (.mv rfl (.mv rfl (.mv rfl (.nil (hK5 _ _ (.seq (fun K6 hK6 => .region (.mv rfl (.q rfl (.cmp rfl rfl rfl) (.mv rfl ?_)))))))))))))))
  refine .nil (hK6 _ _ ?_)
  refine .ret ?_
  refine hret _ _ ?_
  refine ⟨_, rfl, ?_⟩
  exact ⟨congrArg _ (by rw [Bool.eq_iff_iff, B_iff, beq_iff_eq, hkd]; exact ⟨fun h => h.2, fun h => ⟨h9, h⟩⟩), hle⟩
end Go.Proofs.Ytjdedelneppnlaa
