/- Which functions are entered. No condition. -/
import Derived.Test.YtddjdkpjfpnjiaaZ5
import Derived.Test.YtddjdkpjfpnjiaaProg
import Derived.ProofKit
set_option linter.unusedSectionVars false
namespace Go.Proofs.Ytddjdkpjfpnjiaa
open Go Go.GL Go.RowKit Go.Proofs
theorem en5 : Enters Try.prog 5 := entersOf Try.func5 (by kernel_rfl) (by kernel_rfl)
theorem en6 : Enters Try.prog 6 := entersOf Try.func6 (by kernel_rfl) (by kernel_rfl)
theorem en7 : Enters Try.prog 7 := entersOf Try.func7 (by kernel_rfl) (by kernel_rfl)
theorem en8 : Enters Try.prog 8 := entersOf Try.func8 (by kernel_rfl) (by kernel_rfl)
theorem en9 : Enters Try.prog 9 := entersOf Try.func9 (by kernel_rfl) (by kernel_rfl)
theorem en10 : Enters Try.prog 10 := entersOf Try.func10 (by kernel_rfl) (by kernel_rfl)
theorem en11 : Enters Try.prog 11 := entersOf Try.func11 (by kernel_rfl) (by kernel_rfl)
theorem en12 : Enters Try.prog 12 := entersOf Try.func12 (by kernel_rfl) (by kernel_rfl)
theorem en13 : Enters Try.prog 13 := entersOf Try.func13 (by kernel_rfl) (by kernel_rfl)
theorem en18 : Enters Try.prog 18 := entersOf Try.func18 (by kernel_rfl) (by kernel_rfl)
theorem en19 : Enters Try.prog 19 := entersOf Try.func19 (by kernel_rfl) (by kernel_rfl)
theorem en22 : Enters Try.prog 22 := entersOf Try.func22 (by kernel_rfl) (by kernel_rfl)
theorem en23 : Enters Try.prog 23 := entersOf Try.func23 (by kernel_rfl) (by kernel_rfl)
theorem en25 : Enters Try.prog 25 := entersOf Try.func25 (by kernel_rfl) (by kernel_rfl)
theorem en26 : Enters Try.prog 26 := entersOf Try.func26 (by kernel_rfl) (by kernel_rfl)
theorem en27 : Enters Try.prog 27 := entersOf Try.func27 (by kernel_rfl) (by kernel_rfl)
theorem en28 : Enters Try.prog 28 := entersOf Try.func28 (by kernel_rfl) (by kernel_rfl)
theorem en29 : Enters Try.prog 29 := entersOf Try.func29 (by kernel_rfl) (by kernel_rfl)
theorem en30 : Enters Try.prog 30 := entersOf Try.func30 (by kernel_rfl) (by kernel_rfl)
theorem en31 : Enters Try.prog 31 := entersOf Try.func31 (by kernel_rfl) (by kernel_rfl)
theorem en32 : Enters Try.prog 32 := entersOf Try.func32 (by kernel_rfl) (by kernel_rfl)
theorem en33 : Enters Try.prog 33 := entersOf Try.func33 (by kernel_rfl) (by kernel_rfl)
theorem en34 : Enters Try.prog 34 := entersOf Try.func34 (by kernel_rfl) (by kernel_rfl)
theorem en35 : Enters Try.prog 35 := entersOf Try.func35 (by kernel_rfl) (by kernel_rfl)
theorem en37 : Enters Try.prog 37 := entersOf Try.func37 (by kernel_rfl) (by kernel_rfl)
theorem en39 : Enters Try.prog 39 := entersOf Try.func39 (by kernel_rfl) (by kernel_rfl)
theorem en42 : Enters Try.prog 42 := entersOf Try.func42 (by kernel_rfl) (by kernel_rfl)
theorem en45 : Enters Try.prog 45 := entersOf Try.func45 (by kernel_rfl) (by kernel_rfl)
theorem en46 : Enters Try.prog 46 := entersOf Try.func46 (by kernel_rfl) (by kernel_rfl)
theorem en47 : Enters Try.prog 47 := entersOf Try.func47 (by kernel_rfl) (by kernel_rfl)
theorem en48 : Enters Try.prog 48 := entersOf Try.func48 (by kernel_rfl) (by kernel_rfl)
theorem en49 : Enters Try.prog 49 := entersOf Try.func49 (by kernel_rfl) (by kernel_rfl)
theorem en50 : Enters Try.prog 50 := entersOf Try.func50 (by kernel_rfl) (by kernel_rfl)
theorem en55 : Enters Try.prog 55 := entersOf Try.func55 (by kernel_rfl) (by kernel_rfl)
theorem en57 : Enters Try.prog 57 := entersOf Try.func57 (by kernel_rfl) (by kernel_rfl)
theorem en58 : Enters Try.prog 58 := entersOf Try.func58 (by kernel_rfl) (by kernel_rfl)
theorem en59 : Enters Try.prog 59 := entersOf Try.func59 (by kernel_rfl) (by kernel_rfl)
theorem en60 : Enters Try.prog 60 := entersOf Try.func60 (by kernel_rfl) (by kernel_rfl)
theorem en61 : Enters Try.prog 61 := entersOf Try.func61 (by kernel_rfl) (by kernel_rfl)
theorem en62 : Enters Try.prog 62 := entersOf Try.func62 (by kernel_rfl) (by kernel_rfl)
theorem en63 : Enters Try.prog 63 := entersOf Try.func63 (by kernel_rfl) (by kernel_rfl)
theorem en64 : Enters Try.prog 64 := entersOf Try.func64 (by kernel_rfl) (by kernel_rfl)
theorem en65 : Enters Try.prog 65 := entersOf Try.func65 (by kernel_rfl) (by kernel_rfl)
theorem en66 : Enters Try.prog 66 := entersOf Try.func66 (by kernel_rfl) (by kernel_rfl)
theorem en67 : Enters Try.prog 67 := entersOf Try.func67 (by kernel_rfl) (by kernel_rfl)
theorem en68 : Enters Try.prog 68 := entersOf Try.func68 (by kernel_rfl) (by kernel_rfl)
theorem en69 : Enters Try.prog 69 := entersOf Try.func69 (by kernel_rfl) (by kernel_rfl)
end Go.Proofs.Ytddjdkpjfpnjiaa
namespace Go.Proofs.Ytddjdkpjfpnjiaa
open Go Go.GL Go.RowKit Go.Proofs
variable [MainFlag]
theorem sl_22_A : sliceT Try.prog 22 = some (2, 1) := by kernel_rfl
theorem on_2_A : oneT Try.prog 2 = true := by kernel_rfl
theorem aggEq_96 (a0 a1 b0 b1 : Int) : ∀ w, (Op.equal 96 (.agg #[.int .i64 a0, .int .i64 a1]) (.agg #[.int .i64 b0, .int .i64 b1])).run Try.prog w = .ok (a0 == b0 && a1 == b1) w := by
  intro w
  unfold Op.equal Op.maxDepth
  simp [go_sem, run_equalIn_agg]
  (repeat' split) <;> simp_all
theorem inRange_c {n lo hi : Int} {H : GHeap} : GCalls Try.prog 42 [.int .i64 n, .int .i64 lo, .int .i64 hi] H (Ret (.bool (inR n lo hi)) H) := by
  refine GCalls.body (N := 15) (rs := [.tmp 6]) Try.func42 rfl rfl rfl rfl (fun Qx a hend => ?_)
  refine .fg [0, 1, 2] rfl ?_
  refine .seq (fun K1 d => .region (.mv rfl (.nil (d _ _ (.seq (fun K2 c => .region (.mv rfl (.mv rfl (.q rfl (.cmp rfl rfl rfl) (.mv rfl ?_))))))))))
  refine .split (fun b => ?_) (fun b => ?_)
  ·
   try simp only [sps] at b
   refine .qg rfl (.move rfl) (.qg rfl (.move rfl) (.qg rfl (.cmp rfl rfl rfl) (.q rfl (.pickT rfl rfl) (.mv rfl (.nil (c _ _ (.ret (a _ _ (⟨_, rfl, ?_⟩)))))))))
   exact .of (by simp [inR]; omega)
  try simp only [sps] at b
  refine .z rfl (.z rfl (.z rfl (.q rfl (.pickF rfl rfl) (.mv rfl (.nil (c _ _ (.ret (a _ _ (⟨_, rfl, ?_⟩)))))))))
  exact .of (by simp [inR]; omega)
theorem l01In_c {n lo hi : Int} {H : GHeap} : GCalls Try.prog 58 [.int .i64 n, .int .i64 lo, .int .i64 hi] H (Ret (.bool (inR n lo hi)) H) := by
  refine GCalls.body (N := 15) (rs := [.tmp 6]) Try.func58 rfl rfl rfl rfl (fun Qx a hend => ?_)
  refine .fg [0, 1, 2] rfl ?_
  refine .seq (fun K1 d => .region (.mv rfl (.nil (d _ _ (.seq (fun K2 c => .region (.mv rfl (.mv rfl (.q rfl (.cmp rfl rfl rfl) (.mv rfl ?_))))))))))
  refine .split (fun b => ?_) (fun b => ?_)
  ·
   try simp only [sps] at b
   refine .qg rfl (.move rfl) (.qg rfl (.move rfl) (.qg rfl (.cmp rfl rfl rfl) (.q rfl (.pickT rfl rfl) (.mv rfl (.nil (c _ _ (.ret (a _ _ (⟨_, rfl, ?_⟩)))))))))
   exact .of (by simp [inR]; omega)
  try simp only [sps] at b
  refine .z rfl (.z rfl (.z rfl (.q rfl (.pickF rfl rfl) (.mv rfl (.nil (c _ _ (.ret (a _ _ (⟨_, rfl, ?_⟩)))))))))
  exact .of (by simp [inR]; omega)
theorem within_c {a : Option Addr} {xs : List Int} {n : Int} {H : GHeap} (h : Ints H a xs := by assumption) (hn : -9223372036854775808 < n := by omega) (hn' : n ≤ 9223372036854775807 := by omega) (hl : xs.length ≤ 1048576 := by omega) :
    GCalls Try.prog 64 [.slice a xs.length xs.length, .int .i64 n] H (Ret (.bool (allIn xs n)) H) := by
  refine GCalls.body (N := 19) (rs := [.tmp 4]) Try.func64 rfl rfl rfl rfl (fun Qx b hend => ?_)
  refine .fg [0, 1] rfl ?_
  refine .seq (fun K1 m => .region (.mv rfl (.nil (m _ _ (.seq (fun K2 r => .seq (fun K3 u => .region (.mv rfl (.q rfl (.len sl_22_A rfl) (.mv rfl (.nil (u _ _ (.block ?_)))))))))))))
  refine .loopF (σ := Nat) [1, 7, 8] (fun k => [(9, some (.int .i64 (k : Int)))]) (fun k H' => H = H' ∧ k ≤ xs.length ∧ ∀ i, i < k → inR (xs.getD i 0) 0 (n - 1) = true) (fun k => xs.length - k) (0) rfl (.p rfl) ?_ ?_
  ·
   refine ⟨rfl, ?_⟩
   exact ⟨by omega, fun i hi => by omega⟩
  rintro k _ ⟨rfl, hI⟩ _ f
  dsimp only [cA, nA]
  obtain ⟨_, c⟩ := hI
  refine .seq (fun K4 t => .region (.q rfl (.cmp rfl rfl rfl) (.nil (t _ _ (.seq (fun K5 l => ?_))))))
  refine .cond rfl ?_ ?_ <;> intro j
  ·
   try simp only [sps] at j
   refine .skip (l _ _ (.seq (fun K6 w => .block (.seq (fun K7 v => .region (.q rfl (.iN sl_22_A rfl rfl) (.q rfl (.lI on_2_A rfl) (.mv rfl (.nil (v _ _ (.seq (fun K8 o => .region (.mv rfl (.mv rfl ?_))))))))))))))
   refine .q rfl (.sub rfl rfl rfl (by omega) (by omega)) ?_
   refine .callQ rfl rfl rfl rfl en42 rfl (inRange_c) ?_
   refine .q rfl (.not rfl) (.nil (o _ _ ?_))
   refine .cond rfl ?_ ?_ <;> intro d
   ·
    try simp only [sps] at d
    refine .seq (fun K9 s => .region (.mv rfl (.nil (s _ _ (.ret (b _ _ (⟨_, rfl, ?_⟩)))))))
    exact .of (congrArg _ (allN_not (i := k) (by omega) (inR_not.2 d)))
   try simp only [sps] at d
   refine .skip (w _ _ (.region (.q rfl (.aD rfl rfl rfl) (.mv rfl (.nil ?_)))))
   refine f (k + 1) _ _ ?_ ?_ (.p rfl)
   ·
    refine ⟨rfl, ?_⟩
    refine ⟨by omega, fun i hi => ?_⟩
    by_cases e : i < k
    · exact c i e
    · obtain rfl : i = k := by omega
      exact inR_iff.2 d
   omega
  try simp only [sps] at j
  refine .exit (r _ _ (.seq (fun K10 g => .region (.mv rfl (.nil (g _ _ (.ret (b _ _ (⟨_, rfl, ?_⟩)))))))))
  exact .of (congrArg _ (allN_of fun i hi => c i (by omega)))
theorem l01Map_c {a : Option Addr} {xs : List Int} {n : Int} {H : GHeap} (h : Ints H a xs := by assumption) (hl : xs.length ≤ 1048576 := by omega) :
    GCalls Try.prog 50 [.int .i64 n, .slice a xs.length xs.length] H (Ret (.bool (allIn xs n)) H) := by
  refine GCalls.body (N := 25) (rs := [.tmp 4]) Try.func50 rfl rfl rfl rfl (fun Qx b hend => ?_)
  refine .fg [0, 1] rfl ?_
  refine .seq (fun K1 o => .region (.mv rfl (.nil (o _ _ (.seq (fun K2 s => .seq (fun K3 v => .region (.mv rfl (.nil (v _ _ (.block ?_)))))))))))
  refine .loopF (σ := Nat) [0, 1] (fun k => [(5, some (.int .i64 (k : Int)))]) (fun k H' => H = H' ∧ k ≤ xs.length ∧ ∀ i, i < k → inR (xs.getD i 0) 0 (n - 1) = true) (fun k => xs.length - k) (0) rfl (.p rfl) ?_ ?_
  ·
   refine ⟨rfl, ?_⟩
   exact ⟨by omega, fun i hi => by omega⟩
  rintro k _ ⟨rfl, hI⟩ _ g
  dsimp only [cA, nA]
  obtain ⟨_, d⟩ := hI
  refine .seq (fun K4 u => .seq (fun K5 m => .region (.mv rfl (.mv rfl (.q rfl (.len sl_22_A rfl) (.q rfl (.cmp rfl rfl rfl) (.nil (m _ _ ?_))))))))
  refine .cond rfl ?_ ?_ <;> intro h9
  ·
   try simp only [sps] at h9
   refine .skip (u _ _ (.seq (fun K6 w => .block (.seq (fun K7 l => .region (.mv rfl (.mv rfl (.q rfl (.iN sl_22_A rfl rfl) (.q rfl (.lI on_2_A rfl) (.q rfl (.cmp rfl rfl rfl) (.mv rfl ?_)))))))))))
   refine .split (fun c => ?_) (fun c => ?_)
   ·
    try simp only [sps] at c
    refine .z rfl (.z rfl (.z rfl (.z rfl (.z rfl (.z rfl (.q rfl (.pickT rfl rfl) (.nil (l _ _ ?_))))))))
    refine .condT rfl ?_
    refine .seq (fun K8 r => .region (.mv rfl (.nil (r _ _ (.ret (b _ _ (⟨_, rfl, ?_⟩)))))))
    exact .of (congrArg _ (allN_not (i := k) (by omega) (inR_not.2 (.inl c))))
   try simp only [sps] at c
   refine .qg rfl (.move rfl) (.qg rfl (.move rfl) (.qg rfl (.iN sl_22_A rfl rfl) (.qg rfl (.lI on_2_A rfl) (.qg rfl (.move rfl) (.qg rfl (.cmp rfl rfl rfl) (.q rfl (.pickF rfl rfl) (.nil (l _ _ ?_))))))))
   refine .cond rfl ?_ ?_ <;> intro f
   ·
    try simp only [sps] at f
    refine .seq (fun K9 t => .region (.mv rfl (.nil (t _ _ (.ret (b _ _ (⟨_, rfl, ?_⟩)))))))
    exact .of (congrArg _ (allN_not (i := k) (by omega) (inR_not.2 (.inr (by simp at f ⊢; omega)))))
   try simp only [sps] at f
   refine .skip (w _ _ (.region (.mv rfl (.q rfl (.aD rfl rfl rfl) (.mv rfl (.nil ?_))))))
   refine g (k + 1) _ _ ?_ ?_ (.p rfl)
   ·
    refine ⟨rfl, ?_⟩
    refine ⟨by omega, fun i hi => ?_⟩
    by_cases e : i < k
    · exact d i e
    · obtain rfl : i = k := by omega
      exact inR_iff.2 ⟨c, by omega⟩
   omega
  try simp only [sps] at h9
  refine .exit (s _ _ (.seq (fun K10 j => .region (.mv rfl (.nil (j _ _ (.ret (b _ _ (⟨_, rfl, ?_⟩)))))))))
  exact .of (congrArg _ (allN_of fun i hi => d i (by omega)))
end Go.Proofs.Ytddjdkpjfpnjiaa
namespace Go.Proofs.Ytddjdkpjfpnjiaa
open Go Go.GL Go.RowKit Go.Proofs
variable [MainFlag]
theorem fo_31_1_B : fieldOff Try.prog 31 1 = some 1 := by kernel_rfl
theorem on_22_B : oneT Try.prog 22 = true := by kernel_rfl
theorem ze_96_B : zeroT Try.prog 96 = some ([.int .i64 0, .int .i64 0], 2) := by kernel_rfl
theorem mo_B : Try.prog.follows .mixedOrders = true := by kernel_rfl
theorem fo_31_2_B : fieldOff Try.prog 31 2 = some 2 := by kernel_rfl
theorem bt_96_B : buildT Try.prog 96 = some ([.int .i64 0, .int .i64 0], [(0, 1), (1, 1)]) := by kernel_rfl
theorem sz_96_B : (Try.prog.info? 96).map (·.size) = some 2 := by kernel_rfl
theorem ag_96_B : aggT Try.prog 96 = some 2 := by kernel_rfl
theorem fo_31_4_B : fieldOff Try.prog 31 4 = some 4 := by kernel_rfl
theorem on_23_B : oneT Try.prog 23 = true := by kernel_rfl
theorem sl_23_B : sliceT Try.prog 23 = some (22, 1) := by kernel_rfl
theorem fo_31_0_B : fieldOff Try.prog 31 0 = some 0 := by kernel_rfl
theorem fo_31_3_B : fieldOff Try.prog 31 3 = some 3 := by kernel_rfl
theorem eg_96_B : Try.prog.eqGuardType Try.prog.depth 96 = false := by kernel_rfl
theorem arrows_c {g o : Nat} {c : Cat} {p : CatP} {H : GHeap} (h : Cat.At H g o c p := by assumption) : GCalls Try.prog 55 [.pointer (some ⟨g, o, none⟩)] H (Ret (.int .i64 c.src.length) H) := by
  refine GCalls.body (N := 8) (rs := [.tmp 2]) Try.func55 rfl rfl rfl rfl (fun Qx a hend => ?_)
  refine .fg [0] rfl ?_
  obtain ⟨_, _, _, _, _, _, _, _, _⟩ := h.get
  refine .seq (fun K1 d => .region (.mv rfl (.nil (d _ _ (.seq (fun K2 b => .region (.mv rfl (.q rfl (.nilCheck rfl) (.q rfl (.fieldAddr fo_31_1_B rfl) (.q rfl (.lA on_22_B rfl) (.q rfl (.len sl_22_A rfl) (.mv rfl (.nil (b _ _ (.ret ?_)))))))))))))))
  refine a _ _ (⟨_, rfl, ?_⟩)
  exact .mk
theorem ends_c {g o : Nat} {c : Cat} {p : CatP} {f : Int} {H : GHeap} (h : Cat.At H g o c p := by assumption) (h0 : 0 ≤ f := by omega) (h1 : f < c.src.length := by omega) (h2 : f < c.tgt.length := by omega) :
    GCalls Try.prog 69 [.pointer (some ⟨g, o, none⟩), .int .i64 f] H (Ret (.agg #[.int .i64 (c.src.getD f.toNat 0), .int .i64 (c.tgt.getD f.toNat 0)]) H) := by
  refine GCalls.ret rfl ?_
  refine GCalls.body (N := 20) (rs := [.cell 4 96]) Try.func69 rfl rfl rfl rfl (fun Qx a hend => ?_)
  refine .fg [0, 1] rfl ?_
  refine .seq (fun K1 i => .region (.d rfl rfl rfl (.alloc rfl ze_96_B rfl CIs.mk) ?_))
  replace h := h.mono (GHeap.le_push H (.row [.int .i64 0, .int .i64 0] 96 true))
  have e := GHeap.le_push H (.row [.int .i64 0, .int .i64 0] 96 true)
  have hn := GHeap.get_push_new H (.row [.int .i64 0, .int .i64 0] 96 true)
  generalize H.push (.row [.int .i64 0, .int .i64 0] 96 true) = H1 at *
  obtain ⟨-, _, _, -, -, i1, _, -, -⟩ := h.get
  refine .nil (i _ _ (.seq (fun K2 b => ?_)))
  refine .regionD mo_B (.qs [0, 1, 2, 3, 4, 5, 6, 7, 8, 9, 10, 11, 12, 13, 14] (.c 15 0 (.done))) (by kernel_rfl) ?_
  refine .mv rfl rfl (.q rfl (.nilCheck rfl) (.q rfl (.fieldAddr fo_31_1_B rfl) (.q rfl (.lA on_22_B rfl) (.mv rfl rfl (.q rfl (.i1 sl_22_A rfl rfl) (.q rfl (.lI on_2_A rfl) (.mv rfl rfl (.q rfl (.nilCheck rfl) (.q rfl (.fieldAddr fo_31_2_B rfl) (.q rfl (.lA on_22_B rfl) (.mv rfl rfl (.q rfl (.i1 sl_22_A rfl rfl) (.q rfl (.lI on_2_A rfl) (.q rfl (.build bt_96_B rfl rfl rfl) ?_))))))))))))))
  refine .s0 rfl rfl rfl (.storeN rfl sz_96_B rfl rfl rfl rfl (by assumption) (by simp) CIs.mk) ?_
  refine .done (b _ _ (.ret (a _ _ ?_)))
  refine ⟨_, _, _, _, rfl, ag_96_B, (by rfl), (Mem.of_get (GHeap.get_set_eq (GHeap.ltg hn))), ?_⟩
  exact ⟨rfl, e.set_new (Nat.le_refl _)⟩
theorem then_c {g o : Nat} {c : Cat} {p : CatP} {f k : Int} {H : GHeap} (h : Cat.At H g o c p := by assumption) (h0 : 0 ≤ f := by omega) (h1 : f < c.comp.length := by omega) (h2 : 0 ≤ k := by omega) (h3 : k < (c.comp.getD f.toNat []).length := by omega) :
    GCalls Try.prog 57 [.pointer (some ⟨g, o, none⟩), .int .i64 f, .int .i64 k] H (Ret (.int .i64 ((c.comp.getD f.toNat []).getD k.toNat 0)) H) := by
  refine GCalls.body (N := 17) (rs := [.tmp 6]) Try.func57 rfl rfl rfl rfl (fun Qx a hend => ?_)
  refine .fg [0, 1, 2] rfl ?_
  obtain ⟨_, _, _, _, _, i1, _, _, i4⟩ := h.get
  have _ := i4.2 f.toNat (by omega)
  have _ := i4
  refine .seq (fun K1 d => .region (.mv rfl (.nil (d _ _ (.seq (fun K2 b => .region (.mv rfl (.q rfl (.nilCheck rfl) (.q rfl (.fieldAddr fo_31_4_B rfl) (.q rfl (.lA on_23_B rfl) (.mv rfl ?_)))))))))))
  refine .q rfl (.idx1 sl_23_B (Intss.sl (by assumption)) rfl rfl (by omega) (by omega)) ?_
  refine .q rfl (.loadR on_22_B (by assumption) rfl (by omega)) ?_
  refine .mv rfl (.q rfl (.i1 sl_22_A rfl rfl) (.q rfl (.lI on_2_A rfl) (.mv rfl (.nil (b _ _ (.ret (a _ _ (⟨_, rfl, ?_⟩))))))))
  exact .mk
theorem isShape_c {g o : Nat} {c : Cat} {p : CatP} {H : GHeap} (h : Cat.At H g o c p := by assumption) (hs : c.Small := by assumption) : GCalls Try.prog 67 [.pointer (some ⟨g, o, none⟩)] H (Ret (.bool (B c.Shape)) H) := by
  refine GCalls.body (N := 167) (rs := [.tmp 2]) Try.func67 rfl rfl rfl rfl (fun Qx a hend => ?_)
  refine .fg [0] rfl ?_
  obtain ⟨_, _, _, _, _, _, _, _, i4⟩ := h.get
  obtain ⟨_, _, _, -, -, _⟩ := hs
  refine .seq (fun K1 f2 => .region (.mv rfl (.nil (f2 _ _ (.seq (fun K2 f3 => .region (.mv rfl ?_)))))))
  refine .callQ rfl rfl rfl rfl en55 rfl (arrows_c) ?_
  refine .mv rfl (.nil (f3 _ _ (.seq (fun K3 f4 => .seq (fun K4 t => ?_)))))
  refine .regionD mo_B (.qs [0, 1, 2, 3] (.c 4 0 (.qs [5, 6, 7, 8, 9, 10, 11, 12, 13, 14, 15, 16, 17, 18, 19, 20, 21, 22, 23, 24, 25, 26, 27] (.c 28 0 (.qs [29, 30, 31, 32, 33, 34, 35, 36, 37, 38, 39] (.c 40 0 (.q 41 (.q 42 (.done))))))))) (by kernel_rfl) ?_
  refine .mv rfl rfl (.q rfl (.nilCheck rfl) (.q rfl (.fieldAddr fo_31_0_B rfl) (.q rfl (.lA on_2_A rfl) ?_)))
  refine .callQ0 rfl rfl rfl rfl rfl en42 rfl (inRange_c) ?_
  refine .q rfl (.not rfl) (.mv rfl rfl ?_)
  refine .split (fun a2 => ?_) (fun a2 => ?_)
  ·
   try simp only [sps] at a2
   refine .z rfl (.z rfl (.q rfl (.pickT rfl rfl) (.mv rfl rfl (.z rfl (.z rfl (.z rfl (.z rfl (.z rfl (.z rfl (.z rfl (.q rfl (.pickT rfl rfl) (.mv rfl rfl (.z rfl (.z rfl (.z rfl ?_)))))))))))))))
   refine .z rfl (.z rfl (.z rfl (.z rfl (.z rfl (.sgc rfl rfl rfl rfl rfl rfl (.z rfl (.q rfl (.pickT rfl rfl) (.mv rfl rfl (.z rfl (.z rfl (.z rfl (.z rfl (.z rfl (.z rfl (.z rfl ?_)))))))))))))))
   refine .z rfl (.sgc rfl rfl rfl rfl rfl rfl (.z rfl (.q rfl (.pickT rfl rfl) (.done (t _ _ ?_)))))
   refine .condT rfl ?_
   refine .seq (fun K5 f8 => .region (.mv rfl (.nil (f8 _ _ (.ret (a _ _ (⟨_, rfl, ?_⟩)))))))
   exact .of (congrArg _ (B_false fun hS => by have q1 := hS.obj; have q2 := hS.n40; have q3 := hS.tl; have q4 := hS.il; have q5 := hS.cl; omega))
  try simp only [sps] at a2
  refine .qg rfl (.move rfl) (.qg rfl (.cmp rfl rfl rfl) (.q rfl (.pickF rfl rfl) (.mv rfl rfl ?_)))
  refine .split (fun d3 => ?_) (fun d3 => ?_)
  ·
   try simp only [sps] at d3
   refine .z rfl (.z rfl (.z rfl (.z rfl (.z rfl (.z rfl (.z rfl (.q rfl (.pickT rfl rfl) (.mv rfl rfl (.z rfl (.z rfl (.z rfl (.z rfl (.z rfl (.z rfl (.z rfl ?_)))))))))))))))
   refine .z rfl (.sgc rfl rfl rfl rfl rfl rfl (.z rfl (.q rfl (.pickT rfl rfl) (.mv rfl rfl (.z rfl (.z rfl (.z rfl (.z rfl (.z rfl (.z rfl (.z rfl (.z rfl (.sgc rfl rfl rfl rfl rfl rfl (.z rfl (.q rfl (.pickT rfl rfl) ?_)))))))))))))))
   refine .done (t _ _ ?_)
   refine .condT rfl ?_
   refine .seq (fun K6 f5 => .region (.mv rfl (.nil (f5 _ _ (.ret (a _ _ (⟨_, rfl, ?_⟩)))))))
   exact .of (congrArg _ (B_false fun hS => by have q1 := hS.obj; have q2 := hS.n40; have q3 := hS.tl; have q4 := hS.il; have q5 := hS.cl; omega))
  try simp only [sps] at d3
  refine .qg rfl (.move rfl) (.qg rfl (.nilCheck rfl) (.qg rfl (.fieldAddr fo_31_2_B rfl) (.qg rfl (.lA on_22_B rfl) (.qg rfl (.len sl_22_A rfl) (.qg rfl (.move rfl) (.qg rfl (.cmp rfl rfl rfl) (.q rfl (.pickF rfl rfl) (.mv rfl rfl ?_))))))))
  refine .split (fun c9 => ?_) (fun c9 => ?_)
  ·
   try simp only [sps] at c9
   refine .z rfl (.z rfl (.z rfl (.z rfl (.z rfl (.z rfl (.z rfl (.z rfl (.sgc rfl rfl rfl rfl rfl rfl (.z rfl (.q rfl (.pickT rfl rfl) (.mv rfl rfl (.z rfl (.z rfl (.z rfl (.z rfl ?_)))))))))))))))
   refine .z rfl (.z rfl (.z rfl (.z rfl (.sgc rfl rfl rfl rfl rfl rfl (.z rfl (.q rfl (.pickT rfl rfl) (.done (t _ _ ?_))))))))
   refine .condT rfl ?_
   refine .seq (fun K7 f6 => .region (.mv rfl (.nil (f6 _ _ (.ret (a _ _ (⟨_, rfl, ?_⟩)))))))
   exact .of (congrArg _ (B_false fun hS => by have q1 := hS.obj; have q2 := hS.n40; have q3 := hS.tl; have q4 := hS.il; have q5 := hS.cl; omega))
  try simp only [sps] at c9
  refine .qg rfl (.move rfl) (.qg rfl (.nilCheck rfl) (.qg rfl (.fieldAddr fo_31_1_B rfl) (.qg rfl (.lA on_22_B rfl) (.qg rfl (.move rfl) (.qg rfl (.nilCheck rfl) (.qg rfl (.fieldAddr fo_31_0_B rfl) (.qg rfl (.lA on_2_A rfl) ?_)))))))
  refine .callQ0g rfl rfl rfl rfl rfl rfl rfl en64 rfl (within_c) ?_
  refine .qg rfl (.not rfl) (.q rfl (.pickF rfl rfl) (.mv rfl rfl ?_))
  refine .split (fun r => ?_) (fun r => ?_)
  ·
   try simp only [sps] at r
   refine .z rfl (.z rfl (.z rfl (.z rfl (.z rfl (.z rfl (.z rfl (.z rfl (.sgc rfl rfl rfl rfl rfl rfl (.z rfl (.q rfl (.pickT rfl rfl) (.done (t _ _ ?_))))))))))))
   refine .condT rfl ?_
   refine .seq (fun K8 f7 => .region (.mv rfl (.nil (f7 _ _ (.ret (a _ _ (⟨_, rfl, ?_⟩)))))))
   exact .of (congrArg _ (B_false fun hS => by rw [allIn_iff.2 hS.src] at r; cases r))
  try simp only [sps] at r
  refine .qg rfl (.move rfl) (.qg rfl (.nilCheck rfl) (.qg rfl (.fieldAddr fo_31_2_B rfl) (.qg rfl (.lA on_22_B rfl) (.qg rfl (.move rfl) (.qg rfl (.nilCheck rfl) (.qg rfl (.fieldAddr fo_31_0_B rfl) (.qg rfl (.lA on_2_A rfl) ?_)))))))
  refine .callQ0g rfl rfl rfl rfl rfl rfl rfl en64 rfl (within_c) ?_
  refine .qg rfl (.not rfl) (.q rfl (.pickF rfl rfl) (.done (t _ _ ?_)))
  refine .cond rfl ?_ ?_ <;> intro a1
  ·
   try simp only [sps] at a1
   refine .seq (fun K9 f9 => .region (.mv rfl (.nil (f9 _ _ (.ret (a _ _ (⟨_, rfl, ?_⟩)))))))
   exact .of (congrArg _ (B_false fun hS => by rw [allIn_iff.2 hS.tgt] at a1; cases a1))
  try simp only [sps] at a1
  refine .skip (f4 _ _ (.seq (fun K10 d4 => .seq (fun K11 m => ?_))))
  refine .regionD mo_B (.qs [0, 1, 2, 3, 4, 5, 6, 7, 8, 9, 10, 11, 12, 13, 14, 15] (.c 16 0 (.qs [17, 18, 19, 20, 21, 22, 23, 24, 25, 26, 27] (.done)))) (by kernel_rfl) ?_
  refine .mv rfl rfl (.q rfl (.nilCheck rfl) (.q rfl (.fieldAddr fo_31_3_B rfl) (.q rfl (.lA on_22_B rfl) (.q rfl (.len sl_22_A rfl) (.mv rfl rfl (.q rfl (.nilCheck rfl) (.q rfl (.fieldAddr fo_31_0_B rfl) (.q rfl (.lA on_2_A rfl) (.q rfl (.cmp rfl rfl rfl) (.mv rfl rfl ?_))))))))))
  refine .split (fun b3 => ?_) (fun b3 => ?_)
  ·
   try simp only [sps] at b3
   refine .z rfl (.z rfl (.z rfl (.z rfl (.z rfl (.sgc rfl rfl rfl rfl rfl rfl (.z rfl (.q rfl (.pickT rfl rfl) (.mv rfl rfl (.z rfl (.z rfl (.z rfl (.z rfl (.z rfl (.z rfl (.z rfl ?_)))))))))))))))
   refine .q rfl (.pickT rfl rfl) (.done (m _ _ ?_))
   refine .condT rfl ?_
   refine .seq (fun K12 e0 => .region (.mv rfl (.nil (e0 _ _ (.ret (a _ _ (⟨_, rfl, ?_⟩)))))))
   exact .of (congrArg _ (B_false fun hS => by have q1 := hS.obj; have q2 := hS.n40; have q3 := hS.tl; have q4 := hS.il; have q5 := hS.cl; omega))
  try simp only [sps] at b3
  refine .qg rfl (.move rfl) (.qg rfl (.nilCheck rfl) (.qg rfl (.fieldAddr fo_31_3_B rfl) (.qg rfl (.lA on_22_B rfl) (.qg rfl (.move rfl) ?_))))
  refine .callQ0g rfl rfl rfl rfl rfl rfl rfl en64 rfl (within_c) ?_
  refine .qg rfl (.not rfl) (.q rfl (.pickF rfl rfl) (.mv rfl rfl ?_))
  refine .split (fun n => ?_) (fun n => ?_)
  ·
   try simp only [sps] at n
   refine .z rfl (.z rfl (.z rfl (.z rfl (.z rfl (.z rfl (.z rfl (.q rfl (.pickT rfl rfl) (.done (m _ _ ?_)))))))))
   refine .condT rfl ?_
   refine .seq (fun K13 b2 => .region (.mv rfl (.nil (b2 _ _ (.ret (a _ _ (⟨_, rfl, ?_⟩)))))))
   exact .of (congrArg _ (B_false fun hS => by rw [allIn_iff.2 hS.idn] at n; cases n))
  try simp only [sps] at n
  refine .qg rfl (.move rfl) (.qg rfl (.nilCheck rfl) (.qg rfl (.fieldAddr fo_31_4_B rfl) (.qg rfl (.lA on_23_B rfl) (.qg rfl (.len sl_23_B rfl) (.qg rfl (.move rfl) (.qg rfl (.cmp rfl rfl rfl) (.q rfl (.pickF rfl rfl) (.done (m _ _ ?_)))))))))
  refine .cond rfl ?_ ?_ <;> intro f1
  ·
   try simp only [sps] at f1
   refine .seq (fun K14 d7 => .region (.mv rfl (.nil (d7 _ _ (.ret (a _ _ (⟨_, rfl, ?_⟩)))))))
   exact .of (congrArg _ (B_false fun hS => by have q1 := hS.obj; have q2 := hS.n40; have q3 := hS.tl; have q4 := hS.il; have q5 := hS.cl; omega))
  try simp only [sps] at f1
  refine .skip (d4 _ _ (.seq (fun K15 c6 => .seq (fun K16 d2 => .region (.mv rfl (.q rfl (.nilCheck rfl) (.q rfl (.fieldAddr fo_31_3_B rfl) (.q rfl (.lA on_22_B rfl) (.q rfl (.len sl_22_A rfl) (.mv rfl (.nil (d2 _ _ (.block ?_)))))))))))))
  refine .loopF (σ := Nat) [0, 3, 86, 87] (fun k => [(88, some (.int .i64 (k : Int)))]) (fun k H' => H = H' ∧ k ≤ c.idn.length ∧ ∀ x, x < k → c.src.getD (c.idn.getD x 0).toNat 0 = x ∧ c.tgt.getD (c.idn.getD x 0).toNat 0 = x) (fun k => c.idn.length - k) (0) rfl (.p rfl) ?_ ?_
  ·
   refine ⟨rfl, ?_⟩
   exact ⟨by omega, fun x hx => by omega⟩
  rintro k _ ⟨rfl, hI⟩ _ c8
  dsimp only [cA, nA]
  obtain ⟨_, e9⟩ := hI
  refine .seq (fun K17 e6 => .region (.q rfl (.cmp rfl rfl rfl) (.nil (e6 _ _ (.seq (fun K18 a9 => ?_))))))
  refine .cond rfl ?_ ?_ <;> intro f0
  ·
   simp only [decide_eq_true_eq] at f0
   have q1 := n k (by omega)
   refine .skip (a9 _ _ (.seq (fun K19 b0 => .block (.seq (fun K20 d1 => .region (.mv rfl (.q rfl (.iN sl_22_A rfl rfl) (.q rfl (.lI on_2_A rfl) (.mv rfl (.mv rfl (.nil (d1 _ _ (.seq (fun K21 b1 => .region (.mv rfl ?_)))))))))))))))
   refine .mv rfl ?_
   refine .callQ rfl rfl rfl rfl en69 rfl (ends_c) ?_
   refine .mv rfl (.mv rfl (.q rfl (.build bt_96_B rfl rfl rfl) (.q rfl (.aggNe eg_96_B rfl rfl rfl rfl (aggEq_96 _ _ _ _)) (.nil (b1 _ _ ?_)))))
   refine .cond rfl ?_ ?_ <;> intro d5
   ·
    try simp only [sps] at d5
    refine .seq (fun K22 d0 => .region (.mv rfl (.nil (d0 _ _ (.ret (a _ _ (⟨_, rfl, ?_⟩)))))))
    exact .of (congrArg _ (B_false fun hS => by have := hS.ids k (by omega); omega))
   try simp only [sps] at d5
   refine .skip (b0 _ _ (.region (.q rfl (.aD rfl rfl rfl) (.mv rfl (.nil ?_)))))
   refine c8 (k + 1) _ _ ?_ ?_ (.p rfl)
   ·
    refine ⟨rfl, ?_⟩
    refine ⟨by omega, fun x hx => ?_⟩
    by_cases e : x < k
    · exact e9 x e
    · obtain rfl : x = k := by omega
      exact d5
   omega
  try simp only [sps] at f0
  refine .exit (c6 _ _ (.seq (fun K23 a7 => .seq (fun K24 a4 => .region (.mv rfl (.q rfl (.nilCheck rfl) (.q rfl (.fieldAddr fo_31_4_B rfl) (.q rfl (.lA on_23_B rfl) (.q rfl (.len sl_23_B rfl) (.mv rfl (.nil (a4 _ _ (.block ?_)))))))))))))
  refine .loopF (σ := Nat) [0, 3, 104, 105] (fun k => [(106, some (.int .i64 (k : Int)))]) (fun k H' => H = H' ∧ k ≤ c.comp.length ∧ ∀ f, f < k → (c.comp.getD f []).length = c.src.length ∧ ∀ g, g < c.src.length → c.Cell f g) (fun k => c.comp.length - k) (0) rfl (.p rfl) ?_ ?_
  ·
   refine ⟨rfl, ?_⟩
   exact ⟨by omega, fun x hx => by omega⟩
  rintro k _ ⟨rfl, hI⟩ _ e1
  dsimp only [cA, nA]
  obtain ⟨_, d9⟩ := hI
  refine .seq (fun K25 c7 => .region (.q rfl (.cmp rfl rfl rfl) (.nil (c7 _ _ (.seq (fun K26 b9 => ?_))))))
  refine .cond rfl ?_ ?_ <;> intro a0
  ·
   simp only [decide_eq_true_eq] at a0
   have _ := i4.2 k (by omega)
   refine .skip (b9 _ _ (.seq (fun K27 b7 => .block (.seq (fun K28 a8 => .region (.mv rfl ?_))))))
   refine .q rfl (.idxN sl_23_B (Intss.sl (by assumption)) rfl rfl (by omega)) ?_
   refine .q rfl (.loadR on_22_B (by assumption) rfl (by omega)) ?_
   refine .mv rfl (.mv rfl (.nil (a8 _ _ (.seq (fun K29 e5 => .seq (fun K30 a6 => .region (.mv rfl (.q rfl (.len sl_22_A rfl) (.mv rfl (.q rfl (.cmp rfl rfl rfl) (.nil (a6 _ _ ?_))))))))))))
   refine .cond rfl ?_ ?_ <;> intro y
   ·
    try simp only [sps] at y
    refine .seq (fun K31 c5 => .region (.mv rfl (.nil (c5 _ _ (.ret (a _ _ (⟨_, rfl, ?_⟩)))))))
    exact .of (congrArg _ (B_false fun hS => by have := hS.row k (by omega); omega))
   try simp only [sps] at y
   refine .skip (e5 _ _ (.seq (fun K32 e4 => .region (.mv rfl (.q rfl (.len sl_22_A rfl) (.mv rfl (.nil (e4 _ _ (.block ?_)))))))))
   refine .loopF (σ := Nat) [0, 3, 6, 104, 105, 106, 115, 116] (fun j => [(117, some (.int .i64 (j : Int)))]) (fun j H' => H = H' ∧ j ≤ (c.comp.getD k []).length ∧ ∀ g, g < j → c.Cell k g) (fun j => (c.comp.getD k []).length - j) (0) rfl (.p rfl) ?_ ?_
   ·
    refine ⟨rfl, ?_⟩
    exact ⟨by omega, fun x hx => by omega⟩
   rintro j _ ⟨rfl, hI⟩ _ v
   dsimp only [cA, nA]
   obtain ⟨_, b8⟩ := hI
   refine .seq (fun K33 a5 => .region (.q rfl (.cmp rfl rfl rfl) (.nil (a5 _ _ (.seq (fun K34 b5 => ?_))))))
   refine .cond rfl ?_ ?_ <;> intro w
   ·
    try simp only [sps] at w
    refine .skip (b5 _ _ (.seq (fun K35 s => .block (.seq (fun K36 e7 => .region (.mv rfl (.q rfl (.iN sl_22_A rfl rfl) (.q rfl (.lI on_2_A rfl) (.mv rfl (.mv rfl (.nil (e7 _ _ (.seq (fun K37 e2 => .seq (fun K38 b6 => ?_)))))))))))))))
    refine .regionD mo_B (.qs [0, 1, 2, 3, 4, 5, 6, 7, 8, 9, 10, 11, 12, 13, 14] (.done)) (by kernel_rfl) ?_
    refine .mv rfl rfl (.q rfl (.nilCheck rfl) (.q rfl (.fieldAddr fo_31_2_B rfl) (.q rfl (.lA on_22_B rfl) (.mv rfl rfl (.q rfl (.iN sl_22_A rfl rfl) (.q rfl (.lI on_2_A rfl) (.mv rfl rfl (.q rfl (.nilCheck rfl) (.q rfl (.fieldAddr fo_31_1_B rfl) (.q rfl (.lA on_22_B rfl) (.mv rfl rfl (.q rfl (.iN sl_22_A rfl rfl) (.q rfl (.lI on_2_A rfl) (.q rfl (.cmp rfl rfl rfl) (.done ?_)))))))))))))))
    refine b6 _ _ ?_
    refine .cond rfl ?_ ?_ <;> intro b
    ·
     try simp only [sps] at b
     refine .seq (fun K39 e3 => .seq (fun K40 d6 => .region (.mv rfl (.q rfl (.cmp rfl rfl rfl) (.nil (d6 _ _ ?_))))))
     refine .cond rfl ?_ ?_ <;> intro i
     ·
      try simp only [sps] at i
      refine .seq (fun K41 d8 => .region (.mv rfl (.nil (d8 _ _ (.ret (a _ _ (⟨_, rfl, ?_⟩)))))))
      exact .of (congrArg _ (B_false fun hS => i ((Cat.Cell.neg b).1 (hS.cell k (by omega) j (by omega)))))
     try simp only [sps] at i
     refine .skip (e3 _ _ (.exit (s _ _ (.region (.q rfl (.aD rfl rfl rfl) (.mv rfl (.nil ?_)))))))
     refine v (j + 1) _ _ ?_ ?_ (.p rfl)
     ·
      refine ⟨rfl, ?_⟩
      refine ⟨by omega, fun x hx => ?_⟩
      by_cases e : x < j
      · exact b8 x e
      · obtain rfl : x = j := by omega
        first
          | exact (Cat.Cell.neg b).2 i
          | exact (Cat.Cell.pos b).2 ⟨d.1, by omega, l⟩
     omega
    try simp only [sps] at b
    refine .skip (e2 _ _ (.seq (fun K42 u => ?_)))
    refine .regionD mo_B (.q 0 (.q 1 (.q 2 (.c 3 0 (.qs [4, 5, 6, 7, 9, 10, 11, 12, 13, 14, 15, 16, 17, 18, 19, 20, 21, 22, 23] (.c 8 1 (.q 24 (.q 25 (.done))))))))) (by kernel_rfl) ?_
    refine .mv rfl rfl (.mv rfl rfl ?_)
    refine .q rfl (.sub rfl rfl rfl (by omega) (by omega)) ?_
    refine .callQ0 rfl rfl rfl rfl rfl en42 rfl (inRange_c) ?_
    refine .q rfl (.not rfl) (.mv rfl rfl ?_)
    refine .split (fun d => ?_) (fun d => ?_)
    ·
     try simp only [sps] at d
     refine .z rfl (.z rfl (.z rfl (.z rfl (.z rfl (.z rfl (.z rfl (.z rfl (.z rfl (.z rfl (.z rfl (.z rfl (.z rfl (.z rfl (.z rfl (.z rfl ?_)))))))))))))))
     refine .z rfl (.sgc rfl rfl rfl rfl rfl rfl (.z rfl (.q rfl (.pickT rfl rfl) (.done (u _ _ ?_)))))
     refine .condT rfl ?_
     refine .seq (fun K43 e8 => .region (.mv rfl (.nil (e8 _ _ (.ret (a _ _ (⟨_, rfl, ?_⟩)))))))
     exact .of (congrArg _ (B_false fun hS => by have := (Cat.Cell.pos b).1 (hS.cell k (by omega) j (by omega)); omega))
    try simp only [sps] at d
    refine .qg rfl (.move rfl) (.qg rfl (.move rfl) (.qg rfl (.move rfl) (.qg rfl (.nilCheck rfl) (.qg rfl (.fieldAddr fo_31_1_B rfl) (.qg rfl (.lA on_22_B rfl) (.qg rfl (.move rfl) (.qg rfl (.iN sl_22_A rfl rfl) (.qg rfl (.lI on_2_A rfl) (.qg rfl (.move rfl) (.qg rfl (.nilCheck rfl) (.qg rfl (.fieldAddr fo_31_2_B rfl) (.qg rfl (.lA on_22_B rfl) (.qg rfl (.move rfl) (.qg rfl (.iN sl_22_A rfl rfl) (.qg rfl (.lI on_2_A rfl) ?_)))))))))))))))
    refine .qg rfl (.build bt_96_B rfl rfl rfl) ?_
    refine .callQ1g rfl rfl rfl rfl rfl rfl rfl en69 rfl (ends_c) (.refl _) ?_
    refine .qg rfl (.aggNe eg_96_B rfl rfl rfl rfl (aggEq_96 _ _ _ _)) (.q rfl (.pickF rfl rfl) (.done (u _ _ ?_)))
    refine .cond rfl ?_ ?_ <;> intro l
    ·
     try simp only [sps] at l
     refine .seq (fun K44 a3 => .region (.mv rfl (.nil (a3 _ _ (.ret (a _ _ (⟨_, rfl, ?_⟩)))))))
     exact .of (congrArg _ (B_false fun hS => by have := (Cat.Cell.pos b).1 (hS.cell k (by omega) j (by omega)); omega))
    try simp only [sps] at l
    refine .skip (s _ _ (.region (.q rfl (.aD rfl rfl rfl) (.mv rfl (.nil ?_)))))
    refine v (j + 1) _ _ ?_ ?_ (.p rfl)
    ·
     refine ⟨rfl, ?_⟩
     refine ⟨by omega, fun x hx => ?_⟩
     by_cases e : x < j
     · exact b8 x e
     · obtain rfl : x = j := by omega
       first
         | exact (Cat.Cell.neg b).2 i
         | exact (Cat.Cell.pos b).2 ⟨d.1, by omega, l⟩
    omega
   try simp only [sps] at w
   refine .exit (b7 _ _ (.region (.q rfl (.aD rfl rfl rfl) (.mv rfl (.nil ?_)))))
   refine e1 (k + 1) _ _ ?_ ?_ (.p rfl)
   ·
    refine ⟨rfl, ?_⟩
    refine ⟨by omega, fun x hx => ?_⟩
    by_cases e : x < k
    · exact d9 x e
    · obtain rfl : x = k := by omega
      exact ⟨by omega, fun g hg => b8 g (by omega)⟩
   omega
  try simp only [sps] at a0
  refine .exit (a7 _ _ (.seq (fun K45 b4 => .region (.mv rfl (.nil (b4 _ _ (.ret (a _ _ (⟨_, rfl, ?_⟩)))))))))
  exact .of (congrArg _ (B_true ⟨a2, by omega, by omega, r, a1, by omega, n, by omega, fun x hx => e9 x (by omega), fun f hf => (d9 f (by omega)).1, fun f hf => (d9 f (by omega)).2⟩))
end Go.Proofs.Ytddjdkpjfpnjiaa
namespace Go.Proofs.Ytddjdkpjfpnjiaa
open Go Go.GL Go.RowKit Go.Proofs
variable [MainFlag]
theorem then_s {g o : Nat} {c : Cat} {p : CatP} {f k : Int} {H : GHeap} (h : Cat.At H g o c p := by assumption) (hS : c.Shape := by assumption) (h0 : 0 ≤ f := by omega) (h1 : f < c.src.length := by omega) (h2 : 0 ≤ k := by omega) (h3 : k < c.src.length := by omega) :
    GCalls Try.prog 57 [.pointer (some ⟨g, o, none⟩), .int .i64 f, .int .i64 k] H (Ret (.int .i64 (c.th f k)) H) := by
  have _ := hS.cl
  have _ := hS.row f.toNat (by omega)
  exact then_c
def FaultR (c : Cat) (H : GHeap) : Value → GHeap → Prop := fun v H' => H = H' ∧ ∃ kd b1 b2 b3 : Int, v = .tuple #[.int .i64 kd, .int .i64 b1, .int .i64 b2, .int .i64 b3] ∧ (kd = 0 ↔ c.Laws)
theorem fault_c {g o : Nat} {c : Cat} {p : CatP} {H : GHeap} (h : Cat.At H g o c p := by assumption) (hS : c.Shape := by assumption) : GCalls Try.prog 68 [.pointer (some ⟨g, o, none⟩)] H (FaultR c H) := by
  refine GCalls.body (N := 102) (rs := [.tmp 2, .tmp 3, .tmp 4, .tmp 5]) Try.func68 rfl rfl rfl rfl (fun Qx a hend => ?_)
  refine .fg [0] rfl ?_
  obtain ⟨-, _, _, _, -, i1, _, _, -⟩ := h.get
  have _ := hS.tl
  have _ := hS.n40
  have _ := hS.il
  refine .seq (fun K1 c8 => .region (.mv rfl (.mv rfl (.mv rfl (.mv rfl (.nil (c8 _ _ (.seq (fun K2 c9 => .region (.mv rfl ?_))))))))))
  refine .callQ rfl rfl rfl rfl en55 rfl (arrows_c) ?_
  refine .mv rfl (.nil (c9 _ _ (.seq (fun K3 d1 => .seq (fun K4 d0 => .region (.mv rfl (.nil (d0 _ _ (.block ?_)))))))))
  refine .loopF (σ := Nat) [0, 6] (fun k => [(7, some (.int .i64 (k : Int)))]) (fun k H' => H = H' ∧ k ≤ c.src.length ∧ ∀ x, x < k → c.IdOk x) (fun k => c.src.length - k) (0) rfl (.p rfl) ?_ ?_
  ·
   refine ⟨rfl, ?_⟩
   exact ⟨by omega, fun x hx => by omega⟩
  rintro k _ ⟨rfl, hI⟩ _ a6
  dsimp only [cA, nA]
  obtain ⟨_, c0⟩ := hI
  refine .seq (fun K5 d4 => .seq (fun K6 d2 => .region (.mv rfl (.mv rfl (.q rfl (.cmp rfl rfl rfl) (.nil (d2 _ _ ?_)))))))
  refine .cond rfl ?_ ?_ <;> intro b7
  ·
   simp only [decide_eq_true_eq] at b7
   have q1 := hS.src k (by omega)
   have q2 := hS.tgt k (by omega)
   have _ := hS.idn_lt q1.1 q1.2
   have _ := hS.idn_lt q2.1 q2.2
   refine .skip (d4 _ _ (.seq (fun K7 d3 => .block (.seq (fun K8 b9 => ?_)))))
   refine .regionD mo_B (.qs [0, 1, 2, 3, 4, 5, 6, 7, 8, 9, 10, 11, 12, 13, 14, 16] (.c 15 1 (.qs [17, 18, 19, 20, 21, 22, 23, 24, 25, 26, 27, 28, 29, 30, 31, 32, 33, 35] (.c 34 1 (.q 36 (.q 37 (.done))))))) (by kernel_rfl) ?_
   refine .mv rfl rfl (.mv rfl rfl (.q rfl (.nilCheck rfl) (.q rfl (.fieldAddr fo_31_3_B rfl) (.q rfl (.lA on_22_B rfl) (.mv rfl rfl (.q rfl (.nilCheck rfl) (.q rfl (.fieldAddr fo_31_1_B rfl) (.q rfl (.lA on_22_B rfl) (.mv rfl rfl (.q rfl (.iN sl_22_A rfl rfl) (.q rfl (.lI on_2_A rfl) (.q rfl (.i1 sl_22_A rfl rfl) (.q rfl (.lI on_2_A rfl) (.mv rfl rfl (.mv rfl rfl ?_)))))))))))))))
   refine .callQ1 rfl rfl rfl rfl rfl en57 rfl (then_s) (.refl _) ?_
   refine .q rfl (.cmp rfl rfl rfl) (.mv rfl rfl ?_)
   refine .split (fun r => ?_) (fun r => ?_)
   ·
    try simp only [sps] at r
    refine .z rfl (.z rfl (.z rfl (.z rfl (.z rfl (.z rfl (.z rfl (.z rfl (.z rfl (.z rfl (.z rfl (.z rfl (.z rfl (.z rfl (.z rfl (.z rfl ?_)))))))))))))))
    refine .sgc rfl rfl rfl rfl rfl rfl (.z rfl (.q rfl (.pickT rfl rfl) (.done (b9 _ _ ?_))))
    refine .condT rfl ?_
    refine .seq (fun K9 d5 => .region (.mv rfl (.mv rfl (.mv rfl (.mv rfl (.mv rfl (.nil (d5 _ _ (.ret (a _ _ (⟨_, _, _, _, rfl, rfl, rfl, rfl, ?_⟩)))))))))))
    exact ⟨rfl, _, _, _, _, rfl, fun e => by omega, fun hL => absurd (hL.ids k (by omega)).1 r⟩
   try simp only [sps] at r
   refine .qg rfl (.move rfl) (.qg rfl (.move rfl) (.qg rfl (.move rfl) (.qg rfl (.nilCheck rfl) (.qg rfl (.fieldAddr fo_31_3_B rfl) (.qg rfl (.lA on_22_B rfl) (.qg rfl (.move rfl) (.qg rfl (.nilCheck rfl) (.qg rfl (.fieldAddr fo_31_2_B rfl) (.qg rfl (.lA on_22_B rfl) (.qg rfl (.move rfl) (.qg rfl (.iN sl_22_A rfl rfl) (.qg rfl (.lI on_2_A rfl) (.qg rfl (.i1 sl_22_A rfl rfl) (.qg rfl (.lI on_2_A rfl) (.qg rfl (.move rfl) ?_)))))))))))))))
   refine .callQ1g rfl rfl rfl rfl rfl rfl rfl en57 rfl (then_s) (.refl _) ?_
   refine .qg rfl (.cmp rfl rfl rfl) (.q rfl (.pickF rfl rfl) (.done (b9 _ _ ?_)))
   refine .cond rfl ?_ ?_ <;> intro t
   ·
    try simp only [sps] at t
    refine .seq (fun K10 b0 => .region (.mv rfl (.mv rfl (.mv rfl (.mv rfl (.mv rfl (.nil (b0 _ _ (.ret (a _ _ (⟨_, _, _, _, rfl, rfl, rfl, rfl, ?_⟩)))))))))))
    exact ⟨rfl, _, _, _, _, rfl, fun e => by omega, fun hL => absurd (hL.ids k (by omega)).2 t⟩
   try simp only [sps] at t
   refine .skip (d3 _ _ (.region (.mv rfl (.q rfl (.aD rfl rfl rfl) (.mv rfl (.nil ?_))))))
   refine a6 (k + 1) _ _ ?_ ?_ (.p rfl)
   ·
    refine ⟨rfl, ?_⟩
    refine ⟨by omega, fun x hx => ?_⟩
    by_cases e : x < k
    · exact c0 x e
    · obtain rfl : x = k := by omega
      exact ⟨r, t⟩
   omega
  try simp only [sps] at b7
  refine .exit (d1 _ _ (.seq (fun K11 a0 => .seq (fun K12 b2 => .region (.mv rfl (.nil (b2 _ _ (.block ?_))))))))
  refine .loopF (σ := Nat) [0, 6] (fun k => [(8, some (.int .i64 (k : Int)))]) (fun k H' => H = H' ∧ k ≤ c.src.length ∧ ∀ f, f < k → ∀ g, g < c.src.length → c.tgt.getD f 0 = c.src.getD g 0 → ∀ h, h < c.src.length → c.tgt.getD g 0 = c.src.getD h 0 → c.th (c.th f g) h = c.th f (c.th g h)) (fun k => c.src.length - k) (0) rfl (.p rfl) ?_ ?_
  ·
   refine ⟨rfl, ?_⟩
   exact ⟨by omega, fun x hx => by omega⟩
  rintro k _ ⟨rfl, hI⟩ _ b4
  dsimp only [cA, nA]
  obtain ⟨_, c6⟩ := hI
  refine .seq (fun K13 a2 => .seq (fun K14 b1 => .region (.mv rfl (.mv rfl (.q rfl (.cmp rfl rfl rfl) (.nil (b1 _ _ ?_)))))))
  refine .cond rfl ?_ ?_ <;> intro b8
  ·
   try simp only [sps] at b8
   refine .skip (a2 _ _ (.seq (fun K15 a5 => .block (.seq (fun K16 a9 => .region (.mv rfl (.nil (a9 _ _ (.block ?_)))))))))
   refine .loopF (σ := Nat) [0, 6, 8] (fun j => [(9, some (.int .i64 (j : Int)))]) (fun j H' => H = H' ∧ j ≤ c.src.length ∧ ∀ g, g < j → c.tgt.getD k 0 = c.src.getD g 0 → ∀ h, h < c.src.length → c.tgt.getD g 0 = c.src.getD h 0 → c.th (c.th k g) h = c.th k (c.th g h)) (fun j => c.src.length - j) (0) rfl (.p rfl) ?_ ?_
   ·
    refine ⟨rfl, ?_⟩
    exact ⟨by omega, fun x hx => by omega⟩
   rintro j _ ⟨rfl, hI⟩ _ n
   dsimp only [cA, nA]
   obtain ⟨_, a4⟩ := hI
   refine .seq (fun K17 b6 => .seq (fun K18 a1 => .region (.mv rfl (.mv rfl (.q rfl (.cmp rfl rfl rfl) (.nil (a1 _ _ ?_)))))))
   refine .cond rfl ?_ ?_ <;> intro c5
   ·
    try simp only [sps] at c5
    refine .skip (b6 _ _ (.seq (fun K19 b => .block (.seq (fun K20 a8 => .seq (fun K21 b5 => .region (.mv rfl (.mv rfl (.mv rfl ?_)))))))))
    refine .callQ rfl rfl rfl rfl en57 rfl (then_s) ?_
    refine .q rfl (.cmp rfl rfl rfl) (.nil (b5 _ _ ?_))
    refine .cond rfl ?_ ?_ <;> intro c7
    ·
     try simp only [sps] at c7
     refine .exit (b _ _ (.region (.mv rfl (.q rfl (.aD rfl rfl rfl) (.mv rfl (.nil ?_))))))
     refine n (j + 1) _ _ ?_ ?_ (.p rfl)
     ·
      refine ⟨rfl, ?_⟩
      refine ⟨by omega, fun x hx => ?_⟩
      by_cases e : x < j
      · exact a4 x e
      · obtain rfl : x = j := by omega
        first
          | exact fun e => absurd ((hS.th_ge (by omega) (by omega)).2 e) (by omega)
          | exact fun _ h hh => u h (by omega)
     omega
    simp only [decide_eq_false_iff_not] at c7
    have _ := hS.th_lt (f := k) (g := j) (by omega) (by omega)
    have q6 := (hS.th_ge (f := k) (g := j) (by omega) (by omega)).1 (by omega)
    refine .skip (a8 _ _ (.seq (fun K22 a7 => .region (.mv rfl (.nil (a7 _ _ (.block ?_)))))))
    refine .loopF (σ := Nat) [0, 6, 8, 9] (fun i => [(10, some (.int .i64 (i : Int)))]) (fun i H' => H = H' ∧ i ≤ c.src.length ∧ ∀ h, h < i → c.tgt.getD j 0 = c.src.getD h 0 → c.th (c.th k j) h = c.th k (c.th j h)) (fun i => c.src.length - i) (0) rfl (.p rfl) ?_ ?_
    ·
     refine ⟨rfl, ?_⟩
     exact ⟨by omega, fun x hx => by omega⟩
    rintro i _ ⟨rfl, hI⟩ _ s
    dsimp only [cA, nA]
    obtain ⟨_, u⟩ := hI
    refine .seq (fun K23 w => .seq (fun K24 v => .region (.mv rfl (.mv rfl (.q rfl (.cmp rfl rfl rfl) (.nil (v _ _ ?_)))))))
    refine .cond rfl ?_ ?_ <;> intro c4
    ·
     try simp only [sps] at c4
     refine .skip (w _ _ (.seq (fun K25 m => .block (.seq (fun K26 d => .region (.mv rfl (.mv rfl (.mv rfl ?_))))))))
     refine .callQ rfl rfl rfl rfl en57 rfl (then_s) ?_
     refine .q rfl (.cmp rfl rfl rfl) (.mv rfl ?_)
     refine .split (fun b3 => ?_) (fun b3 => ?_)
     ·
      simp only [decide_eq_true_eq, ge_iff_le] at b3
      have _ := hS.th_lt (f := j) (g := i) (by omega) (by omega)
      have q8 := (hS.th_ge (f := j) (g := i) (by omega) (by omega)).1 (by omega)
      refine .qg rfl (.move rfl) (.qg rfl (.move rfl) (.qg rfl (.move rfl) (.qg rfl (.move rfl) ?_)))
      refine .callQg rfl rfl rfl rfl rfl rfl en57 rfl (then_s) ?_
      refine .qg rfl (.move rfl) ?_
      refine .callQg rfl rfl rfl rfl rfl rfl en57 rfl (then_s) ?_
      refine .qg rfl (.move rfl) (.qg rfl (.move rfl) (.qg rfl (.move rfl) (.qg rfl (.move rfl) (.qg rfl (.move rfl) ?_))))
      refine .callQg rfl rfl rfl rfl rfl rfl en57 rfl (then_s) ?_
      refine .callQg rfl rfl rfl rfl rfl rfl en57 rfl (then_s) ?_
      refine .qg rfl (.cmp rfl rfl rfl) (.q rfl (.pickT rfl rfl) (.nil (d _ _ ?_)))
      refine .cond rfl ?_ ?_ <;> intro l
      ·
       try simp only [sps] at l
       refine .seq (fun K27 a3 => .region (.mv rfl (.mv rfl (.mv rfl (.mv rfl (.mv rfl (.mv rfl (.mv rfl (.nil (a3 _ _ (.ret (a _ _ (⟨_, _, _, _, rfl, rfl, rfl, rfl, ?_⟩)))))))))))))
       exact ⟨rfl, _, _, _, _, rfl, fun e => by omega, fun hL => absurd (hL.as k (by omega) j (by omega) q6 i (by omega) q8) l⟩
      try simp only [sps] at l
      refine .skip (m _ _ (.region (.mv rfl (.q rfl (.aD rfl rfl rfl) (.mv rfl (.nil ?_))))))
      refine s (i + 1) _ _ ?_ ?_ (.p rfl)
      ·
       refine ⟨rfl, ?_⟩
       refine ⟨by omega, fun x hx => ?_⟩
       by_cases e : x < i
       · exact u x e
       · obtain rfl : x = i := by omega
         first
           | exact fun e => absurd ((hS.th_ge (by omega) (by omega)).2 e) (by omega)
           | exact fun _ => l
      omega
     try simp only [sps] at b3
     refine .z rfl (.z rfl (.z rfl (.z rfl (.z rfl (.z rfl (.z rfl (.z rfl (.z rfl (.z rfl (.z rfl (.z rfl (.z rfl (.z rfl (.z rfl (.q rfl (.pickF rfl rfl) ?_)))))))))))))))
     refine .nil (d _ _ ?_)
     refine .condF rfl ?_
     refine .skip (m _ _ (.region (.mv rfl (.q rfl (.aD rfl rfl rfl) (.mv rfl (.nil ?_))))))
     refine s (i + 1) _ _ ?_ ?_ (.p rfl)
     ·
      refine ⟨rfl, ?_⟩
      refine ⟨by omega, fun x hx => ?_⟩
      by_cases e : x < i
      · exact u x e
      · obtain rfl : x = i := by omega
        first
          | exact fun e => absurd ((hS.th_ge (by omega) (by omega)).2 e) (by omega)
          | exact fun _ => l
     omega
    try simp only [sps] at c4
    refine .exit (b _ _ (.region (.mv rfl (.q rfl (.aD rfl rfl rfl) (.mv rfl (.nil ?_))))))
    refine n (j + 1) _ _ ?_ ?_ (.p rfl)
    ·
     refine ⟨rfl, ?_⟩
     refine ⟨by omega, fun x hx => ?_⟩
     by_cases e : x < j
     · exact a4 x e
     · obtain rfl : x = j := by omega
       first
         | exact fun e => absurd ((hS.th_ge (by omega) (by omega)).2 e) (by omega)
         | exact fun _ h hh => u h (by omega)
    omega
   try simp only [sps] at c5
   refine .exit (a5 _ _ (.region (.mv rfl (.q rfl (.aD rfl rfl rfl) (.mv rfl (.nil ?_))))))
   refine b4 (k + 1) _ _ ?_ ?_ (.p rfl)
   ·
    refine ⟨rfl, ?_⟩
    refine ⟨by omega, fun x hx => ?_⟩
    by_cases e : x < k
    · exact c6 x e
    · obtain rfl : x = k := by omega
      exact fun g hg => a4 g (by omega)
   omega
  try simp only [sps] at b8
  refine .exit (a0 _ _ (.seq (fun K28 y => .region (.mv rfl (.mv rfl (.mv rfl (.mv rfl (.nil (y _ _ (.ret (a _ _ (⟨_, _, _, _, rfl, rfl, rfl, rfl, ?_⟩))))))))))))
  exact ⟨rfl, _, _, _, _, rfl, fun _ => ⟨fun f hf => c0 f (by omega), fun f hf => c6 f (by omega)⟩, fun _ => rfl⟩
theorem isCategory_c {g o : Nat} {c : Cat} {p : CatP} {H : GHeap} (h : Cat.At H g o c p := by assumption) (hs : c.Small := by assumption) : GCalls Try.prog 63 [.pointer (some ⟨g, o, none⟩)] H (Ret (.bool (B c.Is)) H) := by
  refine GCalls.body (N := 19) (rs := [.tmp 2]) Try.func63 rfl rfl rfl rfl (fun Qx a hend => ?_)
  refine .fg [0] rfl ?_
  refine .seq (fun K1 d => .region (.mv rfl (.nil (d _ _ (.seq (fun K2 e => .seq (fun K3 i => .region (.mv rfl ?_))))))))
  refine .callQ rfl rfl rfl rfl en67 rfl (isShape_c) ?_
  refine .q rfl (.not rfl) (.nil (i _ _ ?_))
  refine .cond rfl ?_ ?_ <;> intro h9
  ·
   try simp only [sps] at h9
   refine .seq (fun K4 f => .region (.mv rfl (.nil (f _ _ (.ret (a _ _ (⟨_, rfl, ?_⟩)))))))
   exact .of (congrArg _ (B_false fun hI => h9 hI.1))
  try simp only [sps] at h9
  refine .skip (e _ _ (.seq (fun K5 b => .region (.mv rfl ?_))))
  refine .call rfl rfl rfl rfl en68 rfl (fault_c) ?_
  rintro _ _ ⟨rfl, _, _, _, _, rfl, hkd⟩
  refine .mv rfl (.q rfl (.extract rfl rfl) (.q rfl (.extract rfl rfl) (.q rfl (.extract rfl rfl) (.q rfl (.extract rfl rfl) (.mv rfl (.mv rfl (.mv rfl (.mv rfl (.nil (b _ _ (.seq (fun K6 j => .region (.mv rfl (.q rfl (.cmp rfl rfl rfl) (.mv rfl ?_)))))))))))))))
  refine .nil (j _ _ (.ret (a _ _ (⟨_, rfl, ?_⟩))))
  exact .of (congrArg _ (by rw [Bool.eq_iff_iff, B_iff, beq_iff_eq, hkd]; exact ⟨fun h => h.2, fun h => ⟨h9, h⟩⟩))
end Go.Proofs.Ytddjdkpjfpnjiaa
namespace Go.Proofs.Ytddjdkpjfpnjiaa
open Go Go.GL Go.RowKit Go.Proofs
variable [MainFlag]
theorem sz_31_D : (Try.prog.info? 31).map (·.size) = some 5 := by kernel_rfl
theorem ag_31_D : aggT Try.prog 31 = some 5 := by kernel_rfl
theorem l02Ends_c {a : Option Addr} {xs : List Int} {n : Nat} {m : Int} {H : GHeap} (h : Ints H a xs := by assumption) (hl : xs.length ≤ 1048576 := by omega) :
    GCalls Try.prog 66 [.slice a xs.length xs.length, .int .i64 (n : Int), .int .i64 m] H (Ret (.bool (decide (xs.length = n) && allIn xs m)) H) := by
  refine GCalls.body (N := 16) (rs := [.tmp 6]) Try.func66 rfl rfl rfl rfl (fun Qx b hend => ?_)
  refine .fg [0, 1, 2] rfl ?_
  refine .seq (fun K1 e => .region (.mv rfl (.nil (e _ _ (.seq (fun K2 d => .region (.mv rfl (.q rfl (.len sl_22_A rfl) (.mv rfl (.q rfl (.cmp rfl rfl rfl) (.mv rfl ?_)))))))))))
  refine .split (fun c => ?_) (fun c => ?_)
  ·
   simp only [beq_iff_eq, beq_eq_false_iff_ne, ne_eq] at c
   refine .qg rfl (.move rfl) (.qg rfl (.move rfl) ?_)
   refine .callQg rfl rfl rfl rfl rfl rfl en50 rfl (l01Map_c) ?_
   refine .q rfl (.pickT rfl rfl) (.mv rfl (.nil (d _ _ (.ret (b _ _ (⟨_, rfl, ?_⟩))))))
   exact .of (congrArg _ (by rw [decide_eq_true (by omega : xs.length = n), Bool.true_and]))
  simp only [beq_iff_eq, beq_eq_false_iff_ne, ne_eq] at c
  refine .z rfl (.z rfl (.z rfl (.q rfl (.pickF rfl rfl) (.mv rfl (.nil (d _ _ (.ret (b _ _ (⟨_, rfl, ?_⟩)))))))))
  exact .of (congrArg _ (by rw [decide_eq_false (by omega : ¬ xs.length = n), Bool.false_and]))
theorem specShape_c {c : Cat} {p : CatP} {H : GHeap} (hin : c.In H p := by assumption) (hs : c.Small := by assumption) : GCalls Try.prog 61 [.agg (c.cells p).toArray] H (Ret (.bool (B c.Shape)) H) := by
  refine GCalls.ret rfl ?_
  refine GCalls.body (N := 159) (rs := [.tmp 2]) Try.func61 rfl rfl rfl rfl (fun Qx a hend => ?_)
  refine .fg [0] rfl ?_
  refine .seq (fun K1 f5 => .region (.d rfl rfl rfl (.box rfl sz_31_D rfl CIs.mk) ?_))
  show GRun _ _ _ _ _ _ (H.push (.row (c.cells p) 31 true))
  have i := GHeap.le_push H (.row (c.cells p) 31 true)
  have hb : Cat.At (H.push (.row (c.cells p) 31 true)) H.next 0 c p := ⟨Mem.new _ _ _ _, hin.mono i⟩
  generalize H.push (.row (c.cells p) 31 true) = H1 at *
  generalize H.next = g at *
  obtain ⟨_, _, _, _, _, i1, _, _, i4⟩ := hb.get
  obtain ⟨_, _, _, -, -, _⟩ := hs
  refine .mv rfl (.nil (f5 _ _ (.seq (fun K2 f6 => .region (.q rfl (.fieldAddr fo_31_1_B rfl) (.q rfl (.lA on_22_B rfl) (.q rfl (.len sl_22_A rfl) (.mv rfl (.nil (f6 _ _ (.seq (fun K3 f7 => .seq (fun K4 w => .region (.q rfl (.fieldAddr fo_31_0_B rfl) (.q rfl (.lA on_2_A rfl) ?_)))))))))))))))
  refine .callQ rfl rfl rfl rfl en58 rfl (l01In_c) ?_
  refine .q rfl (.not rfl) (.mv rfl ?_)
  refine .split (fun a5 => ?_) (fun a5 => ?_)
  ·
   try simp only [sps] at a5
   refine .z rfl (.z rfl (.q rfl (.pickT rfl rfl) (.mv rfl (.z rfl (.z rfl (.z rfl (.z rfl (.z rfl (.z rfl (.z rfl (.q rfl (.pickT rfl rfl) (.mv rfl (.z rfl (.z rfl (.z rfl ?_)))))))))))))))
   refine .z rfl (.z rfl (.z rfl (.z rfl (.q rfl (.pickT rfl rfl) (.mv rfl (.z rfl (.z rfl (.z rfl (.z rfl (.z rfl (.q rfl (.pickT rfl rfl) (.nil (w _ _ ?_)))))))))))))
   refine .condT rfl ?_
   refine .seq (fun K5 g1 => .region (.mv rfl (.nil (g1 _ _ (.ret (a _ _ (⟨_, rfl, ?_⟩)))))))
   exact ⟨congrArg _ (B_false fun hS => by have q1 := hS.obj; have q2 := hS.n40; have q3 := hS.tl; have q4 := hS.il; have q5 := hS.cl; omega), i⟩
  try simp only [sps] at a5
  refine .qg rfl (.move rfl) (.qg rfl (.cmp rfl rfl rfl) (.q rfl (.pickF rfl rfl) (.mv rfl ?_)))
  refine .split (fun a7 => ?_) (fun a7 => ?_)
  ·
   try simp only [sps] at a7
   refine .z rfl (.z rfl (.z rfl (.z rfl (.z rfl (.z rfl (.z rfl (.q rfl (.pickT rfl rfl) (.mv rfl (.z rfl (.z rfl (.z rfl (.z rfl (.z rfl (.z rfl (.z rfl ?_)))))))))))))))
   refine .q rfl (.pickT rfl rfl) (.mv rfl (.z rfl (.z rfl (.z rfl (.z rfl (.z rfl (.q rfl (.pickT rfl rfl) (.nil (w _ _ ?_)))))))))
   refine .condT rfl ?_
   refine .seq (fun K6 f8 => .region (.mv rfl (.nil (f8 _ _ (.ret (a _ _ (⟨_, rfl, ?_⟩)))))))
   exact ⟨congrArg _ (B_false fun hS => by have q1 := hS.obj; have q2 := hS.n40; have q3 := hS.tl; have q4 := hS.il; have q5 := hS.cl; omega), i⟩
  try simp only [sps] at a7
  refine .qg rfl (.fieldAddr fo_31_1_B rfl) (.qg rfl (.lA on_22_B rfl) (.qg rfl (.move rfl) (.qg rfl (.fieldAddr fo_31_0_B rfl) (.qg rfl (.lA on_2_A rfl) ?_))))
  refine .callQg rfl rfl rfl rfl rfl rfl en66 rfl (l02Ends_c) ?_
  refine .qg rfl (.not rfl) (.q rfl (.pickF rfl rfl) (.mv rfl ?_))
  refine .split (fun a4 => ?_) (fun a4 => ?_)
  ·
   try simp only [sps] at a4
   refine .z rfl (.z rfl (.z rfl (.z rfl (.z rfl (.z rfl (.z rfl (.q rfl (.pickT rfl rfl) (.mv rfl (.z rfl (.z rfl (.z rfl (.z rfl (.z rfl (.q rfl (.pickT rfl rfl) (.nil ?_)))))))))))))))
   refine w _ _ ?_
   refine .condT rfl ?_
   refine .seq (fun K7 f9 => .region (.mv rfl (.nil (f9 _ _ (.ret (a _ _ (⟨_, rfl, ?_⟩)))))))
   exact ⟨congrArg _ (B_false fun hS => a4.elim (fun h => h trivial) (fun h => by rw [allIn_iff.2 hS.src] at h; cases h)), i⟩
  try simp only [sps] at a4
  refine .qg rfl (.fieldAddr fo_31_2_B rfl) (.qg rfl (.lA on_22_B rfl) (.qg rfl (.move rfl) (.qg rfl (.fieldAddr fo_31_0_B rfl) (.qg rfl (.lA on_2_A rfl) ?_))))
  refine .callQg rfl rfl rfl rfl rfl rfl en66 rfl (l02Ends_c) ?_
  refine .qg rfl (.not rfl) (.q rfl (.pickF rfl rfl) (.mv rfl ?_))
  refine .split (fun t => ?_) (fun t => ?_)
  ·
   try simp only [sps] at t
   refine .z rfl (.z rfl (.z rfl (.z rfl (.z rfl (.q rfl (.pickT rfl rfl) (.nil (w _ _ ?_)))))))
   refine .condT rfl ?_
   refine .seq (fun K8 g0 => .region (.mv rfl (.nil (g0 _ _ (.ret (a _ _ (⟨_, rfl, ?_⟩)))))))
   exact ⟨congrArg _ (B_false fun hS => t.elim (fun h => h hS.tl) (fun h => by rw [allIn_iff.2 hS.tgt] at h; cases h)), i⟩
  try simp only [sps] at t
  refine .qg rfl (.fieldAddr fo_31_4_B rfl) (.qg rfl (.lA on_23_B rfl) (.qg rfl (.len sl_23_B rfl) (.qg rfl (.move rfl) (.qg rfl (.cmp rfl rfl rfl) (.q rfl (.pickF rfl rfl) (.nil (w _ _ ?_)))))))
  refine .cond rfl ?_ ?_ <;> intro f4
  ·
   try simp only [sps] at f4
   refine .seq (fun K9 g2 => .region (.mv rfl (.nil (g2 _ _ (.ret (a _ _ (⟨_, rfl, ?_⟩)))))))
   exact ⟨congrArg _ (B_false fun hS => by have q1 := hS.obj; have q2 := hS.n40; have q3 := hS.tl; have q4 := hS.il; have q5 := hS.cl; omega), i⟩
  try simp only [sps] at f4
  refine .skip (f7 _ _ (.seq (fun K10 d7 => .seq (fun K11 y => .region (.q rfl (.fieldAddr fo_31_3_B rfl) (.q rfl (.lA on_22_B rfl) (.q rfl (.len sl_22_A rfl) (.q rfl (.fieldAddr fo_31_0_B rfl) (.q rfl (.lA on_2_A rfl) (.q rfl (.cmp rfl rfl rfl) (.mv rfl ?_)))))))))))
  refine .split (fun d6 => ?_) (fun d6 => ?_)
  ·
   try simp only [sps] at d6
   refine .z rfl (.z rfl (.z rfl (.z rfl (.z rfl (.q rfl (.pickT rfl rfl) (.nil (y _ _ ?_)))))))
   refine .condT rfl ?_
   refine .seq (fun K12 e1 => .region (.mv rfl (.nil (e1 _ _ (.ret (a _ _ (⟨_, rfl, ?_⟩)))))))
   exact ⟨congrArg _ (B_false fun hS => by have q1 := hS.obj; have q2 := hS.n40; have q3 := hS.tl; have q4 := hS.il; have q5 := hS.cl; omega), i⟩
  try simp only [sps] at d6
  refine .qg rfl (.move rfl) (.qg rfl (.fieldAddr fo_31_3_B rfl) (.qg rfl (.lA on_22_B rfl) ?_))
  refine .callQg rfl rfl rfl rfl rfl rfl en50 rfl (l01Map_c) ?_
  refine .qg rfl (.not rfl) (.q rfl (.pickF rfl rfl) (.nil (y _ _ ?_)))
  refine .cond rfl ?_ ?_ <;> intro u
  ·
   try simp only [sps] at u
   refine .seq (fun K13 b6 => .region (.mv rfl (.nil (b6 _ _ (.ret (a _ _ (⟨_, rfl, ?_⟩)))))))
   exact ⟨congrArg _ (B_false fun hS => by rw [allIn_iff.2 hS.idn] at u; cases u), i⟩
  try simp only [sps] at u
  refine .skip (d7 _ _ (.seq (fun K14 d8 => .seq (fun K15 d0 => .region (.mv rfl (.nil (d0 _ _ (.block ?_))))))))
  refine .loopF (σ := Nat) [1, 3] (fun k => [(4, some (.int .i64 (k : Int)))]) (fun k H' => H1 = H' ∧ (k : Int) ≤ c.obj ∧ ∀ x, x < k → c.src.getD (c.idn.getD x 0).toNat 0 = x ∧ c.tgt.getD (c.idn.getD x 0).toNat 0 = x) (fun k => c.idn.length - k) (0) rfl (.p rfl) ?_ ?_
  ·
   refine ⟨rfl, ?_⟩
   exact ⟨by omega, fun x hx => by omega⟩
  rintro k _ ⟨rfl, hI⟩ _ d2
  dsimp only [cA, nA]
  obtain ⟨_, f0⟩ := hI
  refine .seq (fun K16 d5 => .seq (fun K17 e8 => .region (.mv rfl (.q rfl (.fieldAddr fo_31_0_B rfl) (.q rfl (.lA on_2_A rfl) (.q rfl (.cmp rfl rfl rfl) (.nil (e8 _ _ ?_))))))))
  refine .cond rfl ?_ ?_ <;> intro f3
  ·
   simp only [decide_eq_true_eq] at f3
   have q1 := u k (by omega)
   refine .skip (d5 _ _ (.seq (fun K18 b4 => .block (.seq (fun K19 a0 => ?_)))))
   refine .regionD mo_B (.qs [0, 1, 2, 3, 4, 5, 6, 7, 8, 9, 10, 11, 12, 13, 14, 15, 16, 17, 18, 19, 20, 21, 22, 23] (.done)) (by kernel_rfl) ?_
   refine .q rfl (.fieldAddr fo_31_1_B rfl) (.q rfl (.lA on_22_B rfl) (.q rfl (.fieldAddr fo_31_3_B rfl) (.q rfl (.lA on_22_B rfl) (.mv rfl rfl (.q rfl (.iN sl_22_A rfl rfl) (.q rfl (.lI on_2_A rfl) (.q rfl (.i1 sl_22_A rfl rfl) (.q rfl (.lI on_2_A rfl) (.mv rfl rfl (.q rfl (.cmp rfl rfl rfl) (.mv rfl rfl ?_)))))))))))
   refine .split (fun a1 => ?_) (fun a1 => ?_)
   ·
    try simp only [sps] at a1
    refine .z rfl (.z rfl (.z rfl (.z rfl (.z rfl (.z rfl (.z rfl (.z rfl (.z rfl (.z rfl (.z rfl (.q rfl (.pickT rfl rfl) (.done (a0 _ _ ?_)))))))))))))
    refine .condT rfl ?_
    refine .seq (fun K20 d4 => .region (.mv rfl (.nil (d4 _ _ (.ret (a _ _ (⟨_, rfl, ?_⟩)))))))
    exact ⟨congrArg _ (B_false fun hS => a1 (hS.ids k (by omega)).1), i⟩
   try simp only [sps] at a1
   refine .qg rfl (.fieldAddr fo_31_2_B rfl) (.qg rfl (.lA on_22_B rfl) (.qg rfl (.fieldAddr fo_31_3_B rfl) (.qg rfl (.lA on_22_B rfl) (.qg rfl (.move rfl) (.qg rfl (.iN sl_22_A rfl rfl) (.qg rfl (.lI on_2_A rfl) (.qg rfl (.i1 sl_22_A rfl rfl) (.qg rfl (.lI on_2_A rfl) (.qg rfl (.move rfl) (.qg rfl (.cmp rfl rfl rfl) (.q rfl (.pickF rfl rfl) (.done (a0 _ _ ?_)))))))))))))
   refine .cond rfl ?_ ?_ <;> intro a6
   ·
    try simp only [sps] at a6
    refine .seq (fun K21 b5 => .region (.mv rfl (.nil (b5 _ _ (.ret (a _ _ (⟨_, rfl, ?_⟩)))))))
    exact ⟨congrArg _ (B_false fun hS => a6 (hS.ids k (by omega)).2), i⟩
   try simp only [sps] at a6
   refine .skip (b4 _ _ (.region (.mv rfl (.q rfl (.aD rfl rfl rfl) (.mv rfl (.nil ?_))))))
   refine d2 (k + 1) _ _ ?_ ?_ (.p rfl)
   ·
    refine ⟨rfl, ?_⟩
    refine ⟨by omega, fun x hx => ?_⟩
    by_cases e : x < k
    · exact f0 x e
    · obtain rfl : x = k := by omega
      exact ⟨a1, a6⟩
   omega
  try simp only [sps] at f3
  refine .exit (d8 _ _ (.seq (fun K22 d3 => .seq (fun K23 b2 => .region (.mv rfl (.nil (b2 _ _ (.block ?_))))))))
  refine .loopF (σ := Nat) [1, 3] (fun k => [(5, some (.int .i64 (k : Int)))]) (fun k H' => H1 = H' ∧ k ≤ c.comp.length ∧ ∀ f, f < k → (c.comp.getD f []).length = c.src.length ∧ ∀ g, g < c.src.length → c.Cell f g) (fun k => c.comp.length - k) (0) rfl (.p rfl) ?_ ?_
  ·
   refine ⟨rfl, ?_⟩
   exact ⟨by omega, fun x hx => by omega⟩
  rintro k _ ⟨rfl, hI⟩ _ e2
  dsimp only [cA, nA]
  obtain ⟨_, e0⟩ := hI
  refine .seq (fun K24 a9 => .seq (fun K25 d1 => .region (.mv rfl (.mv rfl (.q rfl (.cmp rfl rfl rfl) (.nil (d1 _ _ ?_)))))))
  refine .cond rfl ?_ ?_ <;> intro f1
  ·
   simp only [decide_eq_true_eq] at f1
   have _ := i4.2 k (by omega)
   refine .skip (a9 _ _ (.seq (fun K26 c8 => .block (.seq (fun K27 c6 => .seq (fun K28 b3 => .region (.q rfl (.fieldAddr fo_31_4_B rfl) (.q rfl (.lA on_23_B rfl) (.mv rfl ?_)))))))))
   refine .q rfl (.idxN sl_23_B (Intss.sl (by assumption)) rfl rfl (by omega)) ?_
   refine .q rfl (.loadR on_22_B (by assumption) rfl (by omega)) ?_
   refine .q rfl (.len sl_22_A rfl) (.mv rfl (.q rfl (.cmp rfl rfl rfl) (.nil (b3 _ _ ?_))))
   refine .cond rfl ?_ ?_ <;> intro f2
   ·
    try simp only [sps] at f2
    refine .seq (fun K29 e6 => .region (.mv rfl (.nil (e6 _ _ (.ret (a _ _ (⟨_, rfl, ?_⟩)))))))
    exact ⟨congrArg _ (B_false fun hS => by have := hS.row k (by omega); omega), i⟩
   try simp only [sps] at f2
   refine .skip (c6 _ _ (.seq (fun K30 b1 => .region (.mv rfl (.nil (b1 _ _ (.block ?_)))))))
   refine .loopF (σ := Nat) [1, 3, 5] (fun j => [(6, some (.int .i64 (j : Int)))]) (fun j H' => H1 = H' ∧ j ≤ c.src.length ∧ ∀ g, g < j → c.Cell k g) (fun j => c.src.length - j) (0) rfl (.p rfl) ?_ ?_
   ·
    refine ⟨rfl, ?_⟩
    exact ⟨by omega, fun x hx => by omega⟩
   rintro j _ ⟨rfl, hI⟩ _ a3
   dsimp only [cA, nA]
   obtain ⟨_, c7⟩ := hI
   refine .seq (fun K31 c9 => .seq (fun K32 e5 => .region (.mv rfl (.mv rfl (.q rfl (.cmp rfl rfl rfl) (.nil (e5 _ _ ?_)))))))
   refine .cond rfl ?_ ?_ <;> intro a2
   ·
    try simp only [sps] at a2
    refine .skip (c9 _ _ (.seq (fun K33 v => .block (.seq (fun K34 b9 => .region (.q rfl (.fieldAddr fo_31_4_B rfl) (.q rfl (.lA on_23_B rfl) (.mv rfl ?_))))))))
    refine .q rfl (.idxN sl_23_B (Intss.sl (by assumption)) rfl rfl (by omega)) ?_
    refine .q rfl (.loadR on_22_B (by assumption) rfl (by omega)) ?_
    refine .mv rfl (.q rfl (.iN sl_22_A rfl rfl) (.q rfl (.lI on_2_A rfl) (.mv rfl (.nil (b9 _ _ (.seq (fun K35 b0 => .seq (fun K36 e7 => ?_))))))))
    refine .regionD mo_B (.qs [0, 1, 2, 3, 4, 5, 6, 7, 8, 9, 10] (.done)) (by kernel_rfl) ?_
    refine .q rfl (.fieldAddr fo_31_2_B rfl) (.q rfl (.lA on_22_B rfl) (.mv rfl rfl (.q rfl (.iN sl_22_A rfl rfl) (.q rfl (.lI on_2_A rfl) (.q rfl (.fieldAddr fo_31_1_B rfl) (.q rfl (.lA on_22_B rfl) (.mv rfl rfl (.q rfl (.iN sl_22_A rfl rfl) (.q rfl (.lI on_2_A rfl) (.q rfl (.cmp rfl rfl rfl) (.done (e7 _ _ ?_))))))))))))
    refine .cond rfl ?_ ?_ <;> intro b
    ·
     try simp only [sps] at b
     refine .seq (fun K37 e3 => .seq (fun K38 c5 => .region (.mv rfl (.q rfl (.cmp rfl rfl rfl) (.nil (c5 _ _ ?_))))))
     refine .cond rfl ?_ ?_ <;> intro l
     ·
      try simp only [sps] at l
      refine .seq (fun K39 e4 => .region (.mv rfl (.nil (e4 _ _ (.ret (a _ _ (⟨_, rfl, ?_⟩)))))))
      exact ⟨congrArg _ (B_false fun hS => l ((Cat.Cell.neg b).1 (hS.cell k (by omega) j (by omega)))), i⟩
     try simp only [sps] at l
     refine .skip (e3 _ _ (.exit (v _ _ (.region (.mv rfl (.q rfl (.aD rfl rfl rfl) (.mv rfl (.nil ?_))))))))
     refine a3 (j + 1) _ _ ?_ ?_ (.p rfl)
     ·
      refine ⟨rfl, ?_⟩
      refine ⟨by omega, fun x hx => ?_⟩
      by_cases e : x < j
      · exact c7 x e
      · obtain rfl : x = j := by omega
        exact (Cat.Cell.neg b).2 l
     omega
    try simp only [sps] at b
    refine .skip (b0 _ _ (.seq (fun K40 n => ?_)))
    refine .regionD mo_B (.qs [0, 1, 2, 3, 4, 5, 6, 7, 8, 9, 10, 11, 12, 13, 14, 15, 16, 17, 18, 19, 20, 21, 22, 23, 24, 25, 26, 27, 28, 29, 30, 31, 32] (.done)) (by kernel_rfl) ?_
    refine .mv rfl rfl (.q rfl (.cmp rfl rfl rfl) (.mv rfl rfl ?_))
    refine .split (fun r => ?_) (fun r => ?_)
    ·
     try simp only [sps] at r
     refine .z rfl (.z rfl (.z rfl (.q rfl (.pickT rfl rfl) (.mv rfl rfl (.z rfl (.z rfl (.z rfl (.z rfl (.z rfl (.z rfl (.z rfl (.z rfl (.z rfl (.z rfl (.z rfl ?_)))))))))))))))
     refine .q rfl (.pickT rfl rfl) (.mv rfl rfl (.z rfl (.z rfl (.z rfl (.z rfl (.z rfl (.z rfl (.z rfl (.z rfl (.z rfl (.z rfl (.z rfl (.q rfl (.pickT rfl rfl) (.done (n _ _ ?_)))))))))))))))
     refine .condT rfl ?_
     refine .seq (fun K41 d9 => .region (.mv rfl (.nil (d9 _ _ (.ret (a _ _ (⟨_, rfl, ?_⟩)))))))
     exact ⟨congrArg _ (B_false fun hS => by have := (Cat.Cell.pos b).1 (hS.cell k (by omega) j (by omega)); omega), i⟩
    try simp only [sps] at r
    refine .qg rfl (.move rfl) (.qg rfl (.move rfl) (.qg rfl (.cmp rfl rfl rfl) (.q rfl (.pickF rfl rfl) (.mv rfl rfl ?_))))
    refine .split (fun s => ?_) (fun s => ?_)
    ·
     try simp only [sps] at s
     refine .z rfl (.z rfl (.z rfl (.z rfl (.z rfl (.z rfl (.z rfl (.z rfl (.z rfl (.z rfl (.z rfl (.q rfl (.pickT rfl rfl) (.mv rfl rfl (.z rfl (.z rfl (.z rfl ?_)))))))))))))))
     refine .z rfl (.z rfl (.z rfl (.z rfl (.z rfl (.z rfl (.z rfl (.z rfl (.q rfl (.pickT rfl rfl) (.done (n _ _ ?_))))))))))
     refine .condT rfl ?_
     refine .seq (fun K42 b7 => .region (.mv rfl (.nil (b7 _ _ (.ret (a _ _ (⟨_, rfl, ?_⟩)))))))
     exact ⟨congrArg _ (B_false fun hS => by have := (Cat.Cell.pos b).1 (hS.cell k (by omega) j (by omega)); omega), i⟩
    try simp only [sps] at s
    refine .qg rfl (.fieldAddr fo_31_1_B rfl) (.qg rfl (.lA on_22_B rfl) (.qg rfl (.move rfl) (.qg rfl (.i1 sl_22_A rfl rfl) (.qg rfl (.lI on_2_A rfl) (.qg rfl (.fieldAddr fo_31_1_B rfl) (.qg rfl (.lA on_22_B rfl) (.qg rfl (.move rfl) (.qg rfl (.iN sl_22_A rfl rfl) (.qg rfl (.lI on_2_A rfl) (.qg rfl (.cmp rfl rfl rfl) (.q rfl (.pickF rfl rfl) (.mv rfl rfl ?_))))))))))))
    refine .split (fun m => ?_) (fun m => ?_)
    ·
     try simp only [sps] at m
     refine .z rfl (.z rfl (.z rfl (.z rfl (.z rfl (.z rfl (.z rfl (.z rfl (.z rfl (.z rfl (.z rfl (.q rfl (.pickT rfl rfl) (.done (n _ _ ?_)))))))))))))
     refine .condT rfl ?_
     refine .seq (fun K43 e9 => .region (.mv rfl (.nil (e9 _ _ (.ret (a _ _ (⟨_, rfl, ?_⟩)))))))
     exact ⟨congrArg _ (B_false fun hS => m ((Cat.Cell.pos b).1 (hS.cell k (by omega) j (by omega))).2.2.1), i⟩
    try simp only [sps] at m
    refine .qg rfl (.fieldAddr fo_31_2_B rfl) (.qg rfl (.lA on_22_B rfl) (.qg rfl (.move rfl) (.qg rfl (.i1 sl_22_A rfl rfl) (.qg rfl (.lI on_2_A rfl) (.qg rfl (.fieldAddr fo_31_2_B rfl) (.qg rfl (.lA on_22_B rfl) (.qg rfl (.move rfl) (.qg rfl (.iN sl_22_A rfl rfl) (.qg rfl (.lI on_2_A rfl) (.qg rfl (.cmp rfl rfl rfl) (.q rfl (.pickF rfl rfl) (.done (n _ _ ?_)))))))))))))
    refine .cond rfl ?_ ?_ <;> intro o
    ·
     try simp only [sps] at o
     refine .seq (fun K44 a8 => .region (.mv rfl (.nil (a8 _ _ (.ret (a _ _ (⟨_, rfl, ?_⟩)))))))
     exact ⟨congrArg _ (B_false fun hS => o ((Cat.Cell.pos b).1 (hS.cell k (by omega) j (by omega))).2.2.2), i⟩
    try simp only [sps] at o
    refine .skip (v _ _ (.region (.mv rfl (.q rfl (.aD rfl rfl rfl) (.mv rfl (.nil ?_))))))
    refine a3 (j + 1) _ _ ?_ ?_ (.p rfl)
    ·
     refine ⟨rfl, ?_⟩
     refine ⟨by omega, fun x hx => ?_⟩
     by_cases e : x < j
     · exact c7 x e
     · obtain rfl : x = j := by omega
       exact (Cat.Cell.pos b).2 ⟨by omega, by omega, by assumption, by assumption⟩
    omega
   try simp only [sps] at a2
   refine .exit (c8 _ _ (.region (.mv rfl (.q rfl (.aD rfl rfl rfl) (.mv rfl (.nil ?_))))))
   refine e2 (k + 1) _ _ ?_ ?_ (.p rfl)
   ·
    refine ⟨rfl, ?_⟩
    refine ⟨by omega, fun x hx => ?_⟩
    by_cases e : x < k
    · exact e0 x e
    · obtain rfl : x = k := by omega
      exact ⟨by omega, fun g hg => c7 g (by omega)⟩
   omega
  try simp only [sps] at f1
  refine .exit (d3 _ _ (.seq (fun K45 b8 => .region (.mv rfl (.nil (b8 _ _ (.ret (a _ _ (⟨_, rfl, ?_⟩)))))))))
  exact ⟨congrArg _ (B_true ⟨a5, by omega, t.1, a4.2, t.2, by omega, u, by omega, fun x hx => f0 x (by omega), fun f hf => (e0 f (by omega)).1, fun f hf => (e0 f (by omega)).2⟩), i⟩
def FaultN (c : Cat) (H : GHeap) : Value → GHeap → Prop := fun v H' => H.Le H' ∧ ∃ kd b1 b2 b3 : Int, v = .tuple #[.int .i64 kd, .int .i64 b1, .int .i64 b2, .int .i64 b3] ∧ (kd = 0 ↔ c.Laws)
theorem l02Fault_c {c : Cat} {p : CatP} {H : GHeap} (hin : c.In H p := by assumption) (hS : c.Shape := by assumption) : GCalls Try.prog 62 [.agg (c.cells p).toArray] H (FaultR c H) := by
  refine (GCalls.quiet (φ := fun v => ∃ kd b1 b2 b3 : Int, v = .tuple #[.int .i64 kd, .int .i64 b1, .int .i64 b2, .int .i64 b3] ∧ (kd = 0 ↔ c.Laws)) (GCalls.mono (Q := FaultN c H) ?_ fun v H' ⟨h1, kd, b1, b2, b3, h2, h3⟩ => ⟨⟨kd, b1, b2, b3, h2, h3⟩, by rw [h2]; rfl, h1⟩)).mono fun v H' ⟨h1, h2⟩ => ⟨h2.symm, h1⟩
  refine GCalls.body (N := 131) (rs := [.tmp 2, .tmp 3, .tmp 4, .tmp 5]) Try.func62 rfl rfl rfl rfl (fun Qx b hend => ?_)
  refine .fg [0] rfl ?_
  refine .seq (fun K1 d4 => .region (.d rfl rfl rfl (.box rfl sz_31_D rfl CIs.mk) ?_))
  show GRun _ _ _ _ _ _ (H.push (.row (c.cells p) 31 true))
  have t := GHeap.le_push H (.row (c.cells p) 31 true)
  have hb : Cat.At (H.push (.row (c.cells p) 31 true)) H.next 0 c p := ⟨Mem.new _ _ _ _, hin.mono t⟩
  generalize H.push (.row (c.cells p) 31 true) = H1 at *
  generalize H.next = g at *
  obtain ⟨-, _, _, _, _, i1, _, _, i4⟩ := hb.get
  have _ := hS.tl
  have _ := hS.n40
  have _ := hS.il
  have _ := hS.cl
  refine .mv rfl (.mv rfl (.mv rfl (.mv rfl (.nil (d4 _ _ (.seq (fun K2 d5 => .region (.q rfl (.fieldAddr fo_31_1_B rfl) (.q rfl (.lA on_22_B rfl) (.q rfl (.len sl_22_A rfl) (.mv rfl (.nil (d5 _ _ (.seq (fun K3 d7 => .seq (fun K4 d6 => ?_))))))))))))))))
  refine .region (.mv rfl (.nil (d6 _ _ (.block ?_))))
  refine .loopF (σ := Nat) [1, 6] (fun k => [(7, some (.int .i64 (k : Int)))]) (fun k H' => H1 = H' ∧ k ≤ c.src.length ∧ ∀ x, x < k → c.IdOk x) (fun k => c.src.length - k) (0) rfl (.p rfl) ?_ ?_
  ·
   refine ⟨rfl, ?_⟩
   exact ⟨by omega, fun x hx => by omega⟩
  rintro k _ ⟨rfl, hI⟩ _ b0
  dsimp only [cA, nA]
  obtain ⟨_, c9⟩ := hI
  refine .seq (fun K5 e0 => .seq (fun K6 d8 => .region (.mv rfl (.mv rfl (.q rfl (.cmp rfl rfl rfl) (.nil (d8 _ _ ?_)))))))
  refine .cond rfl ?_ ?_ <;> intro d3
  ·
   simp only [decide_eq_true_eq] at d3
   have q1 := hS.src k (by omega)
   have q2 := hS.tgt k (by omega)
   have _ := hS.idn_lt q1.1 q1.2
   have _ := hS.idn_lt q2.1 q2.2
   have _ := i4.2 (c.idn.getD (c.src.getD k 0).toNat 0).toNat (by omega)
   have _ := hS.row (c.idn.getD (c.src.getD k 0).toNat 0).toNat (by omega)
   have _ := i4.2 k (by omega)
   have _ := hS.row k (by omega)
   refine .skip (e0 _ _ (.seq (fun K7 d9 => .block (.seq (fun K8 c8 => ?_)))))
   refine .regionD mo_B (.qs [0, 1, 2, 3, 4, 5, 6, 7, 8, 9, 10, 11, 12, 13, 14, 15, 16, 17, 18, 19, 20, 21, 22, 23, 24, 25, 26, 27, 28, 29, 30, 31, 32, 33, 34, 35, 36, 37] (.done)) (by kernel_rfl) ?_
   refine .q rfl (.fieldAddr fo_31_4_B rfl) (.q rfl (.lA on_23_B rfl) (.q rfl (.fieldAddr fo_31_3_B rfl) (.q rfl (.lA on_22_B rfl) (.q rfl (.fieldAddr fo_31_1_B rfl) (.q rfl (.lA on_22_B rfl) (.mv rfl rfl (.q rfl (.iN sl_22_A rfl rfl) (.q rfl (.lI on_2_A rfl) (.q rfl (.i1 sl_22_A rfl rfl) (.q rfl (.lI on_2_A rfl) ?_))))))))))
   refine .q rfl (.idx1 sl_23_B (Intss.sl (by assumption)) rfl rfl (by omega) (by omega)) ?_
   refine .q rfl (.loadR on_22_B (by assumption) rfl (by omega)) ?_
   refine .mv rfl rfl (.q rfl (.iN sl_22_A rfl rfl) (.q rfl (.lI on_2_A rfl) (.mv rfl rfl (.q rfl (.cmp rfl rfl rfl) (.mv rfl rfl ?_)))))
   refine .split (fun w => ?_) (fun w => ?_)
   ·
    try simp only [sps] at w
    refine .z rfl (.z rfl (.z rfl (.z rfl (.z rfl (.z rfl (.z rfl (.z rfl (.z rfl (.z rfl (.z rfl (.z rfl (.z rfl (.z rfl (.z rfl (.z rfl ?_)))))))))))))))
    refine .z rfl (.z rfl (.q rfl (.pickT rfl rfl) (.done (c8 _ _ ?_))))
    refine .condT rfl ?_
    refine .seq (fun K9 e4 => .region (.mv rfl (.mv rfl (.mv rfl (.mv rfl (.mv rfl (.nil (e4 _ _ (.ret (b _ _ (⟨_, _, _, _, rfl, rfl, rfl, rfl, ?_⟩)))))))))))
    exact ⟨t, _, _, _, _, rfl, fun e => by omega, fun hL => absurd (hL.ids k (by omega)).1 w⟩
   try simp only [sps] at w
   refine .qg rfl (.fieldAddr fo_31_4_B rfl) (.qg rfl (.lA on_23_B rfl) (.qg rfl (.move rfl) ?_))
   refine .qg rfl (.idxN sl_23_B (Intss.sl (by assumption)) rfl rfl (by omega)) ?_
   refine .qg rfl (.loadR on_22_B (by assumption) rfl (by omega)) ?_
   refine .qg rfl (.fieldAddr fo_31_3_B rfl) (.qg rfl (.lA on_22_B rfl) (.qg rfl (.fieldAddr fo_31_2_B rfl) (.qg rfl (.lA on_22_B rfl) (.qg rfl (.move rfl) (.qg rfl (.iN sl_22_A rfl rfl) (.qg rfl (.lI on_2_A rfl) (.qg rfl (.i1 sl_22_A rfl rfl) (.qg rfl (.lI on_2_A rfl) (.qg rfl (.i1 sl_22_A rfl rfl) (.qg rfl (.lI on_2_A rfl) (.qg rfl (.move rfl) (.qg rfl (.cmp rfl rfl rfl) (.q rfl (.pickF rfl rfl) (.done (c8 _ _ ?_)))))))))))))))
   refine .cond rfl ?_ ?_ <;> intro y
   ·
    try simp only [sps] at y
    refine .seq (fun K10 b8 => .region (.mv rfl (.mv rfl (.mv rfl (.mv rfl (.mv rfl (.nil (b8 _ _ (.ret (b _ _ (⟨_, _, _, _, rfl, rfl, rfl, rfl, ?_⟩)))))))))))
    exact ⟨t, _, _, _, _, rfl, fun e => by omega, fun hL => absurd (hL.ids k (by omega)).2 y⟩
   try simp only [sps] at y
   refine .skip (d9 _ _ (.region (.mv rfl (.q rfl (.aD rfl rfl rfl) (.mv rfl (.nil ?_))))))
   refine b0 (k + 1) _ _ ?_ ?_ (.p rfl)
   ·
    refine ⟨rfl, ?_⟩
    refine ⟨by omega, fun x hx => ?_⟩
    by_cases e : x < k
    · exact c9 x e
    · obtain rfl : x = k := by omega
      exact ⟨w, y⟩
   omega
  try simp only [sps] at d3
  refine .exit (d7 _ _ (.seq (fun K11 a3 => .seq (fun K12 c0 => .region (.mv rfl (.nil (c0 _ _ (.block ?_))))))))
  refine .loopF (σ := Nat) [1, 6] (fun k => [(8, some (.int .i64 (k : Int)))]) (fun k H' => H1 = H' ∧ k ≤ c.src.length ∧ ∀ f, f < k → ∀ g, g < c.src.length → c.tgt.getD f 0 = c.src.getD g 0 → ∀ h, h < c.src.length → c.tgt.getD g 0 = c.src.getD h 0 → c.th (c.th f g) h = c.th f (c.th g h)) (fun k => c.src.length - k) (0) rfl (.p rfl) ?_ ?_
  ·
   refine ⟨rfl, ?_⟩
   exact ⟨by omega, fun x hx => by omega⟩
  rintro k _ ⟨rfl, hI⟩ _ c5
  dsimp only [cA, nA]
  obtain ⟨_, d1⟩ := hI
  refine .seq (fun K13 a5 => .seq (fun K14 b9 => .region (.mv rfl (.mv rfl (.q rfl (.cmp rfl rfl rfl) (.nil (b9 _ _ ?_)))))))
  refine .cond rfl ?_ ?_ <;> intro d2
  ·
   try simp only [sps] at d2
   refine .skip (a5 _ _ (.seq (fun K15 a9 => .block (.seq (fun K16 b7 => .region (.mv rfl (.nil (b7 _ _ (.block ?_)))))))))
   refine .loopF (σ := Nat) [1, 6, 8] (fun j => [(9, some (.int .i64 (j : Int)))]) (fun j H' => H1 = H' ∧ j ≤ c.src.length ∧ ∀ g, g < j → c.tgt.getD k 0 = c.src.getD g 0 → ∀ h, h < c.src.length → c.tgt.getD g 0 = c.src.getD h 0 → c.th (c.th k g) h = c.th k (c.th g h)) (fun j => c.src.length - j) (0) rfl (.p rfl) ?_ ?_
   ·
    refine ⟨rfl, ?_⟩
    exact ⟨by omega, fun x hx => by omega⟩
   rintro j _ ⟨rfl, hI⟩ _ s
   dsimp only [cA, nA]
   obtain ⟨_, a8⟩ := hI
   refine .seq (fun K17 b6 => .seq (fun K18 a4 => .region (.mv rfl (.mv rfl (.q rfl (.cmp rfl rfl rfl) (.nil (a4 _ _ ?_)))))))
   refine .cond rfl ?_ ?_ <;> intro c7
   ·
    try simp only [sps] at c7
    refine .skip (b6 _ _ (.seq (fun K19 m => .block (.seq (fun K20 b5 => .seq (fun K21 c6 => ?_))))))
    refine .regionD mo_B (.qs [0, 1, 2, 3, 4, 5, 6, 7, 8, 9, 10] (.done)) (by kernel_rfl) ?_
    refine .q rfl (.fieldAddr fo_31_2_B rfl) (.q rfl (.lA on_22_B rfl) (.mv rfl rfl (.q rfl (.iN sl_22_A rfl rfl) (.q rfl (.lI on_2_A rfl) (.q rfl (.fieldAddr fo_31_1_B rfl) (.q rfl (.lA on_22_B rfl) (.mv rfl rfl (.q rfl (.iN sl_22_A rfl rfl) (.q rfl (.lI on_2_A rfl) (.q rfl (.cmp rfl rfl rfl) (.done (c6 _ _ ?_))))))))))))
    refine .cond rfl ?_ ?_ <;> intro n
    ·
     try simp only [sps] at n
     refine .exit (m _ _ (.region (.mv rfl (.q rfl (.aD rfl rfl rfl) (.mv rfl (.nil ?_))))))
     refine s (j + 1) _ _ ?_ ?_ (.p rfl)
     ·
      refine ⟨rfl, ?_⟩
      refine ⟨by omega, fun x hx => ?_⟩
      by_cases e : x < j
      · exact a8 x e
      · obtain rfl : x = j := by omega
        exact fun e => absurd e n
     omega
    simp only [bne_eq_false_iff_eq] at n
    have _ := (Cat.Cell.pos n).1 (hS.cell k (by omega) j (by omega))
    have _ := i4.2 k (by omega)
    have _ := hS.row k (by omega)
    have _ := i4.2 j (by omega)
    have _ := hS.row j (by omega)
    have _ := i4.2 ((c.comp.getD k []).getD j 0).toNat (by omega)
    have _ := hS.row ((c.comp.getD k []).getD j 0).toNat (by omega)
    refine .skip (b5 _ _ (.seq (fun K22 b4 => .region (.mv rfl (.nil (b4 _ _ (.block ?_)))))))
    refine .loopF (σ := Nat) [1, 6, 8, 9] (fun i => [(10, some (.int .i64 (i : Int)))]) (fun i H' => H1 = H' ∧ i ≤ c.src.length ∧ ∀ h, h < i → c.tgt.getD j 0 = c.src.getD h 0 → c.th (c.th k j) h = c.th k (c.th j h)) (fun i => c.src.length - i) (0) rfl (.p rfl) ?_ ?_
    ·
     refine ⟨rfl, ?_⟩
     exact ⟨by omega, fun x hx => by omega⟩
    rintro i _ ⟨rfl, hI⟩ _ u
    dsimp only [cA, nA]
    obtain ⟨_, a6⟩ := hI
    refine .seq (fun K23 a1 => .seq (fun K24 a0 => .region (.mv rfl (.mv rfl (.q rfl (.cmp rfl rfl rfl) (.nil (a0 _ _ ?_)))))))
    refine .cond rfl ?_ ?_ <;> intro d0
    ·
     try simp only [sps] at d0
     refine .skip (a1 _ _ (.seq (fun K25 r => .block (.seq (fun K26 o => ?_)))))
     refine .regionD mo_B (.qs [0, 1, 2, 3, 4, 5, 6, 7, 8, 9, 10, 11, 12, 13, 14, 15, 16, 17, 18, 19, 20, 21, 22, 23, 24, 25, 26, 27, 28, 29, 30, 31, 32, 33, 34, 35, 36, 37, 38, 39, 40, 41, 42, 43] (.done)) (by kernel_rfl) ?_
     refine .q rfl (.fieldAddr fo_31_2_B rfl) (.q rfl (.lA on_22_B rfl) (.mv rfl rfl (.q rfl (.iN sl_22_A rfl rfl) (.q rfl (.lI on_2_A rfl) (.q rfl (.fieldAddr fo_31_1_B rfl) (.q rfl (.lA on_22_B rfl) (.mv rfl rfl (.q rfl (.iN sl_22_A rfl rfl) (.q rfl (.lI on_2_A rfl) (.q rfl (.cmp rfl rfl rfl) (.mv rfl rfl ?_)))))))))))
     refine .split (fun l => ?_) (fun l => ?_)
     ·
      simp only [beq_iff_eq] at l
      have _ := (Cat.Cell.pos l).1 (hS.cell j (by omega) i (by omega))
      refine .qg rfl (.fieldAddr fo_31_4_B rfl) (.qg rfl (.lA on_23_B rfl) (.qg rfl (.fieldAddr fo_31_4_B rfl) (.qg rfl (.lA on_23_B rfl) (.qg rfl (.move rfl) ?_))))
      refine .qg rfl (.idxN sl_23_B (Intss.sl (by assumption)) rfl rfl (by omega)) ?_
      refine .qg rfl (.loadR on_22_B (by assumption) rfl (by omega)) ?_
      refine .qg rfl (.move rfl) (.qg rfl (.iN sl_22_A rfl rfl) (.qg rfl (.lI on_2_A rfl) ?_))
      refine .qg rfl (.idx1 sl_23_B (Intss.sl (by assumption)) rfl rfl (by omega) (by omega)) ?_
      refine .qg rfl (.loadR on_22_B (by assumption) rfl (by omega)) ?_
      refine .qg rfl (.move rfl) (.qg rfl (.iN sl_22_A rfl rfl) (.qg rfl (.lI on_2_A rfl) (.qg rfl (.fieldAddr fo_31_4_B rfl) (.qg rfl (.lA on_23_B rfl) (.qg rfl (.move rfl) ?_)))))
      refine .qg rfl (.idxN sl_23_B (Intss.sl (by assumption)) rfl rfl (by omega)) ?_
      refine .qg rfl (.loadR on_22_B (by assumption) rfl (by omega)) ?_
      refine .qg rfl (.fieldAddr fo_31_4_B rfl) (.qg rfl (.lA on_23_B rfl) (.qg rfl (.move rfl) ?_))
      refine .qg rfl (.idxN sl_23_B (Intss.sl (by assumption)) rfl rfl (by omega)) ?_
      refine .qg rfl (.loadR on_22_B (by assumption) rfl (by omega)) ?_
      refine .qg rfl (.move rfl) (.qg rfl (.iN sl_22_A rfl rfl) (.qg rfl (.lI on_2_A rfl) (.qg rfl (.i1 sl_22_A rfl rfl) (.qg rfl (.lI on_2_A rfl) (.qg rfl (.cmp rfl rfl rfl) (.q rfl (.pickT rfl rfl) (.done (o _ _ ?_))))))))
      refine .cond rfl ?_ ?_ <;> intro a
      ·
       try simp only [sps] at a
       refine .seq (fun K27 a7 => .region (.mv rfl (.mv rfl (.mv rfl (.mv rfl (.mv rfl (.mv rfl (.mv rfl (.nil (a7 _ _ (.ret (b _ _ (⟨_, _, _, _, rfl, rfl, rfl, rfl, ?_⟩)))))))))))))
       exact ⟨t, _, _, _, _, rfl, fun e => by omega, fun hL => absurd (hL.as k (by omega) j (by omega) n i (by omega) l) a⟩
      try simp only [sps] at a
      refine .skip (r _ _ (.region (.mv rfl (.q rfl (.aD rfl rfl rfl) (.mv rfl (.nil ?_))))))
      refine u (i + 1) _ _ ?_ ?_ (.p rfl)
      ·
       refine ⟨rfl, ?_⟩
       refine ⟨by omega, fun x hx => ?_⟩
       by_cases e : x < i
       · exact a6 x e
       · obtain rfl : x = i := by omega
         exact fun _ => a
      omega
     try simp only [sps] at l
     refine .z rfl (.z rfl (.z rfl (.z rfl (.z rfl (.z rfl (.z rfl (.z rfl (.z rfl (.z rfl (.z rfl (.z rfl (.z rfl (.z rfl (.z rfl (.z rfl ?_)))))))))))))))
     refine .z rfl (.z rfl (.z rfl (.z rfl (.z rfl (.z rfl (.z rfl (.z rfl (.z rfl (.z rfl (.z rfl (.z rfl (.z rfl (.z rfl (.z rfl (.q rfl (.pickF rfl rfl) ?_)))))))))))))))
     refine .done (o _ _ ?_)
     refine .condF rfl ?_
     refine .skip (r _ _ (.region (.mv rfl (.q rfl (.aD rfl rfl rfl) (.mv rfl (.nil ?_))))))
     refine u (i + 1) _ _ ?_ ?_ (.p rfl)
     ·
      refine ⟨rfl, ?_⟩
      refine ⟨by omega, fun x hx => ?_⟩
      by_cases e : x < i
      · exact a6 x e
      · obtain rfl : x = i := by omega
        exact fun e => absurd e l
     omega
    try simp only [sps] at d0
    refine .exit (m _ _ (.region (.mv rfl (.q rfl (.aD rfl rfl rfl) (.mv rfl (.nil ?_))))))
    refine s (j + 1) _ _ ?_ ?_ (.p rfl)
    ·
     refine ⟨rfl, ?_⟩
     refine ⟨by omega, fun x hx => ?_⟩
     by_cases e : x < j
     · exact a8 x e
     · obtain rfl : x = j := by omega
       exact fun _ h hh => a6 h (by omega)
    omega
   try simp only [sps] at c7
   refine .exit (a9 _ _ (.region (.mv rfl (.q rfl (.aD rfl rfl rfl) (.mv rfl (.nil ?_))))))
   refine c5 (k + 1) _ _ ?_ ?_ (.p rfl)
   ·
    refine ⟨rfl, ?_⟩
    refine ⟨by omega, fun x hx => ?_⟩
    by_cases e : x < k
    · exact d1 x e
    · obtain rfl : x = k := by omega
      exact fun g hg => a8 g (by omega)
   omega
  try simp only [sps] at d2
  refine .exit (a3 _ _ (.seq (fun K28 a2 => .region (.mv rfl (.mv rfl (.mv rfl (.mv rfl (.nil (a2 _ _ (.ret (b _ _ (⟨_, _, _, _, rfl, rfl, rfl, rfl, ?_⟩))))))))))))
  exact ⟨t, _, _, _, _, rfl, fun _ => ⟨fun f hf => c9 f (by omega), fun f hf => d1 f (by omega)⟩, fun _ => rfl⟩
theorem l02Is_c {c : Cat} {p : CatP} {H : GHeap} (hin : c.In H p := by assumption) (hs : c.Small := by assumption) : GCalls Try.prog 49 [.agg (c.cells p).toArray] H (Ret (.bool (B c.Is)) H) := by
  refine GCalls.ret rfl ?_
  refine GCalls.body (N := 19) (rs := [.tmp 2]) Try.func49 rfl rfl rfl rfl (fun Qx a hend => ?_)
  refine .fg [0] rfl ?_
  refine .seq (fun K1 f => .region (.d rfl rfl rfl (.box rfl sz_31_D rfl CIs.mk) ?_))
  show GRun _ _ _ _ _ _ (H.push (.row (c.cells p) 31 true))
  have b := GHeap.le_push H (.row (c.cells p) 31 true)
  have hb : Cat.At (H.push (.row (c.cells p) 31 true)) H.next 0 c p := ⟨Mem.new _ _ _ _, hin.mono b⟩
  generalize H.push (.row (c.cells p) 31 true) = H1 at *
  generalize H.next = g at *
  have _ : MemN _ _ _ _ _ := ⟨rfl, hb.1⟩
  have _ := hb.2
  refine .mv rfl (.nil (f _ _ (.seq (fun K2 i => .seq (fun K3 k => .region ?_)))))
  refine .q rfl (.loadM ag_31_D rfl (by assumption)) ?_
  refine .callQ rfl rfl rfl rfl en61 rfl (specShape_c) ?_
  refine .q rfl (.not rfl) (.nil (k _ _ ?_))
  refine .cond rfl ?_ ?_ <;> intro h9
  ·
   try simp only [sps] at h9
   refine .seq (fun K4 j => .region (.mv rfl (.nil (j _ _ (.ret (a _ _ (⟨_, rfl, ?_⟩)))))))
   exact ⟨congrArg _ (B_false fun hI => h9 hI.1), b⟩
  try simp only [sps] at h9
  refine .skip (i _ _ (.seq (fun K5 e => .region ?_)))
  refine .q rfl (.loadM ag_31_D rfl (by assumption)) ?_
  refine .call rfl rfl rfl rfl en62 rfl (l02Fault_c) ?_
  rintro _ _ ⟨rfl, _, _, _, _, rfl, hkd⟩
  refine .mv rfl (.q rfl (.extract rfl rfl) (.q rfl (.extract rfl rfl) (.q rfl (.extract rfl rfl) (.q rfl (.extract rfl rfl) (.mv rfl (.mv rfl (.mv rfl (.mv rfl (.nil (e _ _ (.seq (fun K6 l => .region (.mv rfl (.q rfl (.cmp rfl rfl rfl) (.mv rfl ?_)))))))))))))))
  refine .nil (l _ _ (.ret (a _ _ (⟨_, rfl, ?_⟩))))
  exact ⟨congrArg _ (by rw [Bool.eq_iff_iff, B_iff, beq_iff_eq, hkd]; exact ⟨fun h => h.2, fun h => ⟨h9, h⟩⟩), b⟩
end Go.Proofs.Ytddjdkpjfpnjiaa
