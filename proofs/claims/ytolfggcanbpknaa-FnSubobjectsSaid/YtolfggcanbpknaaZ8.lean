/- Arrows: codes, retractions, sections, inverses. No condition but those of each statement. -/
import Derived.Test.YtolfggcanbpknaaZ7
namespace Go.Proofs.Ytolfggcanbpknaa
open Go Go.GL Go.RowKit Go.Proofs
theorem sl_22_Fa : sliceT Try.prog 22 = some (5, 1) := by kernel_rfl
theorem big_c {a : Option Addr} {xs : List Int} {H : GHeap} : GCalls Try.prog 9 [.slice a xs.length xs.length] H (Ret (.bool (decide (4096 < (xs.length : Int)))) H) := by
  refine GCalls.body (N := 6) (rs := [.tmp 2]) Try.func9 rfl rfl rfl rfl (fun Qx hret hend => ?_)
  refine .fg [0] rfl ?_
  refine .seq (fun K1 hK1 => .region (.mv rfl (.nil (hK1 _ _ (.seq (fun K2 hK2 => .region (.mv rfl (.q rfl (.len sl_22_Fa rfl) (.q rfl (.cmp rfl rfl rfl) (.mv rfl (.nil (hK2 _ _ ?_))))))))))))
  refine .ret ?_
  refine hret _ _ ?_
  refine ⟨_, rfl, ?_⟩
  exact .mk
theorem likeInts_c {a b : Option Addr} {xs ys : List Int} {H : GHeap} (h : Ints H a xs := by assumption) (h' : Ints H b ys := by assumption) (hx : xs.length ≤ 1048576 := by omega) (hy : ys.length ≤ 1048576 := by omega) :
    GCalls Try.prog 21 [.slice a xs.length xs.length, .slice b ys.length ys.length] H (Ret (.bool (decide (xs = ys))) H) := by
  refine GCalls.body (N := 26) (rs := [.tmp 4]) Try.func21 rfl rfl rfl rfl (fun Qx hret hend => ?_)
  refine .fg [0, 1] rfl ?_
  refine .seq (fun K1 hK1 => .region (.mv rfl (.nil (hK1 _ _ (.seq (fun K2 hK2 => .seq (fun K3 hK3 => .region (.mv rfl (.q rfl (.len sl_24_A rfl) (.mv rfl (.q rfl (.len sl_24_A rfl) (.q rfl (.cmp rfl rfl rfl) (.nil (hK3 _ _ ?_))))))))))))))
  refine .cond rfl (fun h10 => ?_) (fun h10 => ?_)
  ·
   try simp only [sps] at h10
   refine .seq (fun K4 hK4 => .region (.mv rfl (.nil (hK4 _ _ ?_))))
   refine .ret ?_
   refine hret _ _ ?_
   refine ⟨_, rfl, ?_⟩
   exact .of (congrArg _ (decide_eq_false fun e => by subst e; first | omega | simp_all))
  try simp only [sps] at h10
  refine .skip ?_
  refine hK2 _ _ (.seq (fun K5 hK5 => .seq (fun K6 hK6 => .region (.mv rfl (.nil (hK6 _ _ ?_))))))
  refine .block ?_
  refine .loopR (σ := Nat) [(0, some _), (1, some _)] (fun k => [(5, some (.int .i64 (k : Int)))]) (fun k H' => H = H' ∧ k ≤ xs.length ∧ ∀ i, i < k → xs.getD i 0 = ys.getD i 0) (fun k => xs.length - k) (0) ⟨rfl, rfl, trivial⟩ ⟨rfl, trivial⟩ ?_ ?_
  ·
   refine ⟨rfl, ?_⟩
   exact ⟨by omega, fun i hi => by omega⟩
  rintro k _ ⟨rfl, hI⟩ KL1 hKL1
  refine .forget (fr' := [(5, some (.int .i64 (k : Int))), (0, some _), (1, some _)]) ⟨rfl, rfl, rfl, trivial⟩ ?_
  obtain ⟨hk, hall⟩ := hI
  refine .seq (fun K7 hK7 => .seq (fun K8 hK8 => .region (.mv rfl (.mv rfl (.q rfl (.len sl_24_A rfl) (.q rfl (.cmp rfl rfl rfl) (.nil (hK8 _ _ ?_))))))))
  refine .cond rfl (fun h14 => ?_) (fun h14 => ?_)
  ·
   try simp only [sps] at h14
   refine .skip ?_
   refine hK7 _ _ (.seq (fun K9 hK9 => ?_))
   refine .block ?_
   refine .seq (fun K10 hK10 => ?_)
   refine .regionD mo_B (.q 0 (.q 1 (.q 2 (.q 3 (.q 4 (.q 5 (.q 6 (.q 7 (.q 8 (.done)))))))))) (by kernel_rfl) ?_
   refine .mv rfl rfl (.mv rfl rfl ?_)
   refine .q rfl (.idxN sl_24_A (by assumption) rfl rfl (by omega)) ?_
   refine .q rfl (.loadI on_2_A (by assumption) rfl (by omega)) ?_
   refine .mv rfl rfl (.mv rfl rfl ?_)
   refine .q rfl (.idxN sl_24_A (by assumption) rfl rfl (by omega)) ?_
   refine .q rfl (.loadI on_2_A (by assumption) rfl (by omega)) ?_
   refine .q rfl (.cmp rfl rfl rfl) ?_
   refine .done ?_
   refine hK10 _ _ ?_
   refine .cond rfl (fun h25 => ?_) (fun h25 => ?_)
   ·
    try simp only [sps] at h25
    refine .seq (fun K11 hK11 => .region (.mv rfl (.nil (hK11 _ _ ?_))))
    refine .ret ?_
    refine hret _ _ ?_
    refine ⟨_, rfl, ?_⟩
    exact .of (congrArg _ (decide_eq_false fun e => by subst e; first | omega | simp_all))
   try simp only [sps] at h25
   refine .skip ?_
   refine hK9 _ _ (.region (.mv rfl ?_))
   refine .q rfl (.add rfl rfl rfl (by omega) (by omega)) ?_
   refine .mv rfl (.nil ?_)
   refine hKL1 (k + 1) _ _ ?_ ?_ ⟨rfl, rfl, rfl, trivial⟩
   ·
    refine ⟨rfl, ?_⟩
    refine ⟨by omega, fun i hi => ?_⟩
    by_cases e : i < k
    · exact hall i e
    · obtain rfl : i = k := by omega
      assumption
   omega
  try simp only [sps] at h14
  refine .exit ?_
  refine hK5 _ _ (.seq (fun K12 hK12 => .region (.mv rfl (.nil (hK12 _ _ ?_)))))
  refine .ret ?_
  refine hret _ _ ?_
  refine ⟨_, rfl, ?_⟩
  exact .of (congrArg _ (decide_eq_true (eq_of_getD (by omega) fun i hi => hall i (by omega))))
theorem arrowCode_c {g o : Nat} {c : Cat} {p : CatP} {a : Option Addr} {xs : List Int} {H : GHeap} (h : Cat.At H g o c p := by assumption) (hs : c.Small := by assumption) (hx : Ints H a xs := by assumption) (hl : xs.length ≤ 1048576 := by omega) :
    GCalls Try.prog 51 [.pointer (some ⟨g, o, none⟩), .slice a xs.length xs.length] H (Ret (.int .i64 (c.code xs)) H) := by
  obtain ⟨n1, n2, n3, n4, n5, n6⟩ := id hs
  refine GCalls.body (N := 13) (rs := [.tmp 4]) Try.func51 rfl rfl rfl rfl (fun Qx hret hend => ?_)
  refine .fg [0, 1] rfl ?_
  refine .seq (fun K1 hK1 => .region (.mv rfl (.nil (hK1 _ _ (.seq (fun K2 hK2 => .seq (fun K3 hK3 => .region (.mv rfl ?_))))))))
  refine .callQ rfl rfl rfl rfl @Try.call61 rfl (isCategory_c) ?_
  refine .q rfl (.not rfl) (.nil (hK3 _ _ ?_))
  refine .cond rfl (fun h7 => ?_) (fun h7 => ?_)
  ·
   try simp only [sps] at h7
   refine .seq (fun K4 hK4 => .region (.mv rfl (.nil (hK4 _ _ ?_))))
   refine .ret ?_
   refine hret _ _ ?_
   refine ⟨_, rfl, ?_⟩
   exact .of (congrArg _ (Cat.code_not h7))
  try simp only [sps] at h7
  refine .skip ?_
  refine hK2 _ _ (.seq (fun K5 hK5 => .seq (fun K6 hK6 => .region (.mv rfl (.mv rfl ?_)))))
  refine .callQ rfl rfl rfl rfl @Try.call77 rfl (arrows_c) ?_
  refine .callQ rfl rfl rfl rfl @Try.call86 rfl (within_c) ?_
  refine .q rfl (.not rfl) (.nil (hK6 _ _ ?_))
  refine .cond rfl (fun h12 => ?_) (fun h12 => ?_)
  ·
   try simp only [sps] at h12
   refine .seq (fun K7 hK7 => .region (.mv rfl (.nil (hK7 _ _ ?_))))
   refine .ret ?_
   refine hret _ _ ?_
   refine ⟨_, rfl, ?_⟩
   exact .of (congrArg _ (Cat.code_out h7 (by rw [h12]; simp)))
  try simp only [sps] at h12
  refine .skip ?_
  refine hK5 _ _ (.seq (fun K8 hK8 => .region (.mv rfl (.nil (hK8 _ _ ?_)))))
  refine .ret ?_
  refine hret _ _ ?_
  refine ⟨_, rfl, ?_⟩
  exact .of (congrArg _ (Cat.code_ok.2 ⟨h7, allIn_iff.2 h12⟩))
set_option maxHeartbeats 4000000 in
theorem extensions_c {g o : Nat} {c : Cat} {p : CatP} {f k : Int} {H : GHeap} (h : Cat.At H g o c p := by assumption) (hS : c.Shape := by assumption) (h0 : 0 ≤ f := by omega) (h1 : f < c.src.length := by omega) (h2 : 0 ≤ k := by omega) (h3 : k < c.src.length := by omega) :
    GCalls Try.prog 92 [.pointer (some ⟨g, o, none⟩), .int .i64 f, .int .i64 k] H (NewInts 2 H (c.ext f k)) := by
  refine GCalls.body (N := 44) (rs := [.tmp 6]) Try.func92 rfl rfl rfl rfl (fun Qx hret hend => ?_)
  refine .fg [0, 1, 2] rfl ?_
  have hle := GHeap.Le.refl H
  have base_h := h
  have q1 := hS.tl
  have q2 := hS.n40
  have q6 := hS.cl
  have q7 := hS.row k.toNat (by omega)
  have q8 := c.hom_le (c.tgt.getD k.toNat 0) (c.tgt.getD f.toNat 0)
  refine .seq (fun K1 hK1 => .region (.mv rfl (.nil (hK1 _ _ (.seq (fun K2 hK2 => .region ?_))))))
  refine .R rfl (.litA rfl sl_24_A ze_2_L rfl rfl rfl rfl) ?_
  rintro _ H10 ⟨g10, rfl, le10, ge10, at10⟩
  replace hle := hle.trans le10
  have lt_at10 := GHeap.ltg at10
  replace h := base_h.mono hle
  obtain ⟨-, -, c2, -, -, -, i2, -, -⟩ := h.get
  replace at10 : GHeap.get H10 g10 = some (.row (ints []) 2 true) := at10
  refine .mv rfl (.nil (hK2 _ _ (.seq (fun K3 hK3 => .seq (fun K4 hK4 => ?_)))))
  refine .regionD mo_B (.q 0 (.q 1 (.q 2 (.q 3 (.q 4 (.q 5 (.q 6 (.q 7 (.q 8 (.q 9 (.q 10 (.q 11 (.q 12 (.q 13 (.q 14 (.q 17 (.c 15 1 (.q 16 (.done))))))))))))))))))) (by kernel_rfl) ?_
  refine .mv rfl rfl (.mv rfl rfl (.q rfl (.nilCheck rfl) (.q rfl (.fieldAddr fo_27_2_B rfl) ?_)))
  refine .q rfl (.load on_24_B rfl (by assumption)) ?_
  refine .mv rfl rfl ?_
  refine .q rfl (.idx1 sl_24_A (by assumption) rfl rfl (by omega) (by omega)) ?_
  refine .q rfl (.loadI on_2_A (by assumption) rfl (by omega)) ?_
  refine .mv rfl rfl (.q rfl (.nilCheck rfl) (.q rfl (.fieldAddr fo_27_2_B rfl) ?_))
  refine .q rfl (.load on_24_B rfl (by assumption)) ?_
  refine .mv rfl rfl ?_
  refine .q rfl (.idx1 sl_24_A (by assumption) rfl rfl (by omega) (by omega)) ?_
  refine .q rfl (.loadI on_2_A (by assumption) rfl (by omega)) ?_
  refine .mv rfl rfl ?_
  refine .call1 rfl rfl rfl rfl rfl @Try.call88 rfl (hom_c) ?_
  rintro _ H26 ⟨le26, g26, rfl, at26, ge26⟩
  have hbl := le26
  refine ⟨hbl, ?_⟩
  replace hle := hle.trans le26
  replace at10 := le26.2 _ _ at10
  have lt_at26 := GHeap.ltg at26
  replace h := base_h.mono hle
  clear c2 i2
  refine .m rfl rfl rfl rfl hbl (.len sl_24_A rfl) ?_
  refine .done ?_
  refine hK4 _ _ ?_
  refine .block ?_
  refine .loopR (σ := Nat × Nat × Nat) [(0, some _), (1, some _), (2, some _), (26, some _), (27, some _)] (fun (i, gL7, nL7) => [(28, some (.int .i64 (i : Int))), (7, some (.slice (some ⟨gL7, 0, none⟩) nL7 nL7))]) (fun (i, gL7, nL7) H' => St [g10] H26 H' ∧ H'.get gL7 = some (.row (ints (((c.hom (c.tgt.getD k.toNat 0) (c.tgt.getD f.toNat 0)).take i).filter fun x => decide (c.th k x = f))) 2 true) ∧ (gL7 = g10 ∨ H26.next ≤ gL7) ∧ nL7 = (((c.hom (c.tgt.getD k.toNat 0) (c.tgt.getD f.toNat 0)).take i).filter fun x => decide (c.th k x = f)).length ∧ i ≤ (c.hom (c.tgt.getD k.toNat 0) (c.tgt.getD f.toNat 0)).length) (fun (i, gL7, nL7) => (c.hom (c.tgt.getD k.toNat 0) (c.tgt.getD f.toNat 0)).length - i) ((0, _, _)) ⟨rfl, rfl, rfl, rfl, rfl, trivial⟩ ⟨rfl, rfl, trivial⟩ ?_ ?_
  ·
   refine ⟨.refl _ _, by first | assumption | exact at10 | simpa using at10, .inl rfl, by first | rfl | assumption | simp | omega, ?_⟩
   omega
  rintro ⟨i, gL7, nL7⟩ HL1 ⟨lst1, at_L7, pl_L7, ln_L7, hI⟩ KL1 hKL1
  refine .forget (fr' := [(28, some (.int .i64 (i : Int))), (7, some (.slice (some ⟨gL7, 0, none⟩) nL7 nL7)), (0, some _), (1, some _), (2, some _), (26, some _), (27, some _)]) ⟨rfl, rfl, rfl, rfl, rfl, rfl, rfl, trivial⟩ ?_
  have ge_L7 : H.next ≤ gL7 := by omega
  have nx_HL1 := lst1.nx
  replace hle := hle.st lst1 (fun k hk => ⟨by omega, trivial⟩)
  replace at26 := lst1.s at26
  replace h := base_h.mono hle
  have i26 := Ints.of_get at26
  have hfl := filt_le (c.hom (c.tgt.getD k.toNat 0) (c.tgt.getD f.toNat 0)) (fun x => decide (c.th k x = f)) i
  refine .seq (fun K5 hK5 => .region (.q rfl (.cmp rfl rfl rfl) (.nil (hK5 _ _ (.seq (fun K6 hK6 => ?_))))))
  refine .cond rfl (fun h29 => ?_) (fun h29 => ?_)
  ·
   simp only [sps] at h29
   obtain ⟨j, j1', -, -, j4'⟩ := c.hom_get (x := (c.tgt.getD k.toNat 0)) (y := (c.tgt.getD f.toNat 0)) (i := i) (by omega)
   refine .skip ?_
   refine hK6 _ _ (.seq (fun K7 hK7 => ?_))
   refine .block ?_
   refine .seq (fun K8 hK8 => .region ?_)
   refine .q rfl (.idxN sl_24_A (by first | assumption | exact SlA.of_row at26 (by first | rfl | (simp; done) | (simp <;> omega))) rfl rfl (by omega)) ?_
   refine .q rfl (.loadI on_2_A (by first | assumption | exact Ints.of_get at26) rfl (by omega)) ?_
   refine .mv rfl (.nil (hK8 _ _ (.seq (fun K9 hK9 => .region (.mv rfl (.mv rfl (.mv rfl ?_)))))))
   refine .callQ rfl rfl rfl rfl @Try.call52 rfl (then_s) ?_
   refine .mv rfl (.q rfl (.cmp rfl rfl rfl) (.nil (hK9 _ _ ?_)))
   refine .cond rfl (fun h37 => ?_) (fun h37 => ?_)
   ·
    try simp only [sps] at h37
    refine .region (.mv rfl (.mv rfl ?_))
    refine .R rfl (.litA rfl sl_24_A ze_2_L rfl rfl rfl rfl) ?_
    rintro _ H40 ⟨g40, rfl, le40, ge40, at40⟩
    replace hle := hle.trans le40
    replace lst1 := lst1.le le40
    replace at_L7 := le40.2 _ _ at_L7
    have lt_at40 := GHeap.ltg at40
    replace h := base_h.mono hle
    clear i26
    refine .R rfl (.appendI rfl sl_24_A ze_2_L rfl by_2_L sl_24_A rfl rfl (by assumption) (by assumption) (by first | omega | (simp <;> omega)) (by omega) (by omega)) ?_
    rintro _ H41 ⟨g41, rfl, st41, ge41, at41⟩
    replace hle := hle.st st41 (fun k hk => ⟨by omega, trivial⟩)
    replace lst1 := lst1.sA st41
    replace h := base_h.mono hle
    refine .mv rfl (.nil (hK7 _ _ (.region ?_)))
    refine .q rfl (.add rfl rfl rfl (by omega) (by omega)) ?_
    refine .mv rfl (.nil ?_)
    refine hKL1 ((i + 1, _, _)) _ _ ?_ ?_ ⟨rfl, rfl, rfl, rfl, rfl, rfl, rfl, trivial⟩
    ·
     refine ⟨lst1, by first | assumption | (rw [filt_T (by omega) (by simp only [sps]; assumption)]; assumption) | (rw [filt_F (by omega) (by simp only [sps]; assumption)]; assumption), by omega, by first | omega | (simp only [List.length_append, List.length_cons, List.length_nil] <;> omega) | (rw [filt_T (by omega) (by simp only [sps]; assumption)] <;> (first | omega | (simp only [List.length_append, List.length_cons, List.length_nil] <;> omega))) | (rw [filt_F (by omega) (by simp only [sps]; assumption)] <;> (first | omega | (simp only [List.length_append, List.length_cons, List.length_nil] <;> omega))), ?_⟩
     omega
    (dsimp only; omega)
   try simp only [sps] at h37
   refine .skip ?_
   refine hK7 _ _ (.region ?_)
   refine .q rfl (.add rfl rfl rfl (by omega) (by omega)) ?_
   refine .mv rfl (.nil ?_)
   refine hKL1 ((i + 1, _, _)) _ _ ?_ ?_ ⟨rfl, rfl, rfl, rfl, rfl, rfl, rfl, trivial⟩
   ·
    refine ⟨lst1, by first | assumption | (rw [filt_T (by omega) (by simp only [sps]; assumption)]; assumption) | (rw [filt_F (by omega) (by simp only [sps]; assumption)]; assumption), by omega, by first | omega | (simp only [List.length_append, List.length_cons, List.length_nil] <;> omega) | (rw [filt_T (by omega) (by simp only [sps]; assumption)] <;> (first | omega | (simp only [List.length_append, List.length_cons, List.length_nil] <;> omega))) | (rw [filt_F (by omega) (by simp only [sps]; assumption)] <;> (first | omega | (simp only [List.length_append, List.length_cons, List.length_nil] <;> omega))), ?_⟩
    omega
   (dsimp only; omega)
  try simp only [sps] at h29
  refine .exit ?_
  refine hK3 _ _ (.seq (fun K10 hK10 => .region (.mv rfl (.mv rfl (.nil (hK10 _ _ ?_))))))
  refine .ret ?_
  refine hret _ _ ?_
  refine ⟨_, rfl, ?_⟩
  obtain rfl : i = (c.hom (c.tgt.getD k.toNat 0) (c.tgt.getD f.toNat 0)).length := by omega
  rw [List.take_length] at at_L7 ln_L7
  exact ⟨hle, _, by rw [ln_L7]; rfl, at_L7, ge_L7⟩
set_option maxHeartbeats 4000000 in
theorem lifts_c {g o : Nat} {c : Cat} {p : CatP} {f k : Int} {H : GHeap} (h : Cat.At H g o c p := by assumption) (hS : c.Shape := by assumption) (h0 : 0 ≤ f := by omega) (h1 : f < c.src.length := by omega) (h2 : 0 ≤ k := by omega) (h3 : k < c.src.length := by omega) :
    GCalls Try.prog 74 [.pointer (some ⟨g, o, none⟩), .int .i64 f, .int .i64 k] H (NewInts 2 H (c.lif f k)) := by
  refine GCalls.body (N := 44) (rs := [.tmp 6]) Try.func74 rfl rfl rfl rfl (fun Qx hret hend => ?_)
  refine .fg [0, 1, 2] rfl ?_
  have hle := GHeap.Le.refl H
  have base_h := h
  have q1 := hS.tl
  have q2 := hS.n40
  have q6 := hS.cl
  have q8 := c.hom_le (c.src.getD f.toNat 0) (c.src.getD k.toNat 0)
  refine .seq (fun K1 hK1 => .region (.mv rfl (.nil (hK1 _ _ (.seq (fun K2 hK2 => .region ?_))))))
  refine .R rfl (.litA rfl sl_24_A ze_2_L rfl rfl rfl rfl) ?_
  rintro _ H10 ⟨g10, rfl, le10, ge10, at10⟩
  replace hle := hle.trans le10
  have lt_at10 := GHeap.ltg at10
  replace h := base_h.mono hle
  obtain ⟨-, c1, -, -, -, i1, -, -, -⟩ := h.get
  replace at10 : GHeap.get H10 g10 = some (.row (ints []) 2 true) := at10
  refine .mv rfl (.nil (hK2 _ _ (.seq (fun K3 hK3 => .seq (fun K4 hK4 => ?_)))))
  refine .regionD mo_B (.q 0 (.q 1 (.q 2 (.q 3 (.q 4 (.q 5 (.q 6 (.q 7 (.q 8 (.q 9 (.q 10 (.q 11 (.q 12 (.q 13 (.q 14 (.q 17 (.c 15 1 (.q 16 (.done))))))))))))))))))) (by kernel_rfl) ?_
  refine .mv rfl rfl (.mv rfl rfl (.q rfl (.nilCheck rfl) (.q rfl (.fieldAddr fo_27_1_B rfl) ?_)))
  refine .q rfl (.load on_24_B rfl (by assumption)) ?_
  refine .mv rfl rfl ?_
  refine .q rfl (.idx1 sl_24_A (by assumption) rfl rfl (by omega) (by omega)) ?_
  refine .q rfl (.loadI on_2_A (by assumption) rfl (by omega)) ?_
  refine .mv rfl rfl (.q rfl (.nilCheck rfl) (.q rfl (.fieldAddr fo_27_1_B rfl) ?_))
  refine .q rfl (.load on_24_B rfl (by assumption)) ?_
  refine .mv rfl rfl ?_
  refine .q rfl (.idx1 sl_24_A (by assumption) rfl rfl (by omega) (by omega)) ?_
  refine .q rfl (.loadI on_2_A (by assumption) rfl (by omega)) ?_
  refine .mv rfl rfl ?_
  refine .call1 rfl rfl rfl rfl rfl @Try.call88 rfl (hom_c) ?_
  rintro _ H26 ⟨le26, g26, rfl, at26, ge26⟩
  have hbl := le26
  refine ⟨hbl, ?_⟩
  replace hle := hle.trans le26
  replace at10 := le26.2 _ _ at10
  have lt_at26 := GHeap.ltg at26
  replace h := base_h.mono hle
  clear c1 i1
  refine .m rfl rfl rfl rfl hbl (.len sl_24_A rfl) ?_
  refine .done ?_
  refine hK4 _ _ ?_
  refine .block ?_
  refine .loopR (σ := Nat × Nat × Nat) [(0, some _), (1, some _), (2, some _), (26, some _), (27, some _)] (fun (i, gL7, nL7) => [(28, some (.int .i64 (i : Int))), (7, some (.slice (some ⟨gL7, 0, none⟩) nL7 nL7))]) (fun (i, gL7, nL7) H' => St [g10] H26 H' ∧ H'.get gL7 = some (.row (ints (((c.hom (c.src.getD f.toNat 0) (c.src.getD k.toNat 0)).take i).filter fun x => decide (c.th x k = f))) 2 true) ∧ (gL7 = g10 ∨ H26.next ≤ gL7) ∧ nL7 = (((c.hom (c.src.getD f.toNat 0) (c.src.getD k.toNat 0)).take i).filter fun x => decide (c.th x k = f)).length ∧ i ≤ (c.hom (c.src.getD f.toNat 0) (c.src.getD k.toNat 0)).length) (fun (i, gL7, nL7) => (c.hom (c.src.getD f.toNat 0) (c.src.getD k.toNat 0)).length - i) ((0, _, _)) ⟨rfl, rfl, rfl, rfl, rfl, trivial⟩ ⟨rfl, rfl, trivial⟩ ?_ ?_
  ·
   refine ⟨.refl _ _, by first | assumption | exact at10 | simpa using at10, .inl rfl, by first | rfl | assumption | simp | omega, ?_⟩
   omega
  rintro ⟨i, gL7, nL7⟩ HL1 ⟨lst1, at_L7, pl_L7, ln_L7, hI⟩ KL1 hKL1
  refine .forget (fr' := [(28, some (.int .i64 (i : Int))), (7, some (.slice (some ⟨gL7, 0, none⟩) nL7 nL7)), (0, some _), (1, some _), (2, some _), (26, some _), (27, some _)]) ⟨rfl, rfl, rfl, rfl, rfl, rfl, rfl, trivial⟩ ?_
  have ge_L7 : H.next ≤ gL7 := by omega
  have nx_HL1 := lst1.nx
  replace hle := hle.st lst1 (fun k hk => ⟨by omega, trivial⟩)
  replace at26 := lst1.s at26
  replace h := base_h.mono hle
  have i26 := Ints.of_get at26
  have hfl := filt_le (c.hom (c.src.getD f.toNat 0) (c.src.getD k.toNat 0)) (fun x => decide (c.th x k = f)) i
  refine .seq (fun K5 hK5 => .region (.q rfl (.cmp rfl rfl rfl) (.nil (hK5 _ _ (.seq (fun K6 hK6 => ?_))))))
  refine .cond rfl (fun h29 => ?_) (fun h29 => ?_)
  ·
   simp only [sps] at h29
   obtain ⟨j, j1', -, -, j4'⟩ := c.hom_get (x := (c.src.getD f.toNat 0)) (y := (c.src.getD k.toNat 0)) (i := i) (by omega)
   refine .skip ?_
   refine hK6 _ _ (.seq (fun K7 hK7 => ?_))
   refine .block ?_
   refine .seq (fun K8 hK8 => .region ?_)
   refine .q rfl (.idxN sl_24_A (by first | assumption | exact SlA.of_row at26 (by first | rfl | (simp; done) | (simp <;> omega))) rfl rfl (by omega)) ?_
   refine .q rfl (.loadI on_2_A (by first | assumption | exact Ints.of_get at26) rfl (by omega)) ?_
   refine .mv rfl (.nil (hK8 _ _ (.seq (fun K9 hK9 => .region (.mv rfl (.mv rfl (.mv rfl ?_)))))))
   refine .callQ rfl rfl rfl rfl @Try.call52 rfl (then_s) ?_
   refine .mv rfl (.q rfl (.cmp rfl rfl rfl) (.nil (hK9 _ _ ?_)))
   refine .cond rfl (fun h37 => ?_) (fun h37 => ?_)
   ·
    try simp only [sps] at h37
    refine .region (.mv rfl (.mv rfl ?_))
    refine .R rfl (.litA rfl sl_24_A ze_2_L rfl rfl rfl rfl) ?_
    rintro _ H40 ⟨g40, rfl, le40, ge40, at40⟩
    replace hle := hle.trans le40
    replace lst1 := lst1.le le40
    replace at_L7 := le40.2 _ _ at_L7
    have lt_at40 := GHeap.ltg at40
    replace h := base_h.mono hle
    clear i26
    refine .R rfl (.appendI rfl sl_24_A ze_2_L rfl by_2_L sl_24_A rfl rfl (by assumption) (by assumption) (by first | omega | (simp <;> omega)) (by omega) (by omega)) ?_
    rintro _ H41 ⟨g41, rfl, st41, ge41, at41⟩
    replace hle := hle.st st41 (fun k hk => ⟨by omega, trivial⟩)
    replace lst1 := lst1.sA st41
    replace h := base_h.mono hle
    refine .mv rfl (.nil (hK7 _ _ (.region ?_)))
    refine .q rfl (.add rfl rfl rfl (by omega) (by omega)) ?_
    refine .mv rfl (.nil ?_)
    refine hKL1 ((i + 1, _, _)) _ _ ?_ ?_ ⟨rfl, rfl, rfl, rfl, rfl, rfl, rfl, trivial⟩
    ·
     refine ⟨lst1, by first | assumption | (rw [filt_T (by omega) (by simp only [sps]; assumption)]; assumption) | (rw [filt_F (by omega) (by simp only [sps]; assumption)]; assumption), by omega, by first | omega | (simp only [List.length_append, List.length_cons, List.length_nil] <;> omega) | (rw [filt_T (by omega) (by simp only [sps]; assumption)] <;> (first | omega | (simp only [List.length_append, List.length_cons, List.length_nil] <;> omega))) | (rw [filt_F (by omega) (by simp only [sps]; assumption)] <;> (first | omega | (simp only [List.length_append, List.length_cons, List.length_nil] <;> omega))), ?_⟩
     omega
    (dsimp only; omega)
   try simp only [sps] at h37
   refine .skip ?_
   refine hK7 _ _ (.region ?_)
   refine .q rfl (.add rfl rfl rfl (by omega) (by omega)) ?_
   refine .mv rfl (.nil ?_)
   refine hKL1 ((i + 1, _, _)) _ _ ?_ ?_ ⟨rfl, rfl, rfl, rfl, rfl, rfl, rfl, trivial⟩
   ·
    refine ⟨lst1, by first | assumption | (rw [filt_T (by omega) (by simp only [sps]; assumption)]; assumption) | (rw [filt_F (by omega) (by simp only [sps]; assumption)]; assumption), by omega, by first | omega | (simp only [List.length_append, List.length_cons, List.length_nil] <;> omega) | (rw [filt_T (by omega) (by simp only [sps]; assumption)] <;> (first | omega | (simp only [List.length_append, List.length_cons, List.length_nil] <;> omega))) | (rw [filt_F (by omega) (by simp only [sps]; assumption)] <;> (first | omega | (simp only [List.length_append, List.length_cons, List.length_nil] <;> omega))), ?_⟩
    omega
   (dsimp only; omega)
  try simp only [sps] at h29
  refine .exit ?_
  refine hK3 _ _ (.seq (fun K10 hK10 => .region (.mv rfl (.mv rfl (.nil (hK10 _ _ ?_))))))
  refine .ret ?_
  refine hret _ _ ?_
  refine ⟨_, rfl, ?_⟩
  obtain rfl : i = (c.hom (c.src.getD f.toNat 0) (c.src.getD k.toNat 0)).length := by omega
  rw [List.take_length] at at_L7 ln_L7
  exact ⟨hle, _, by rw [ln_L7]; rfl, at_L7, ge_L7⟩
theorem retractions_c {g o : Nat} {c : Cat} {p : CatP} {f : Int} {H : GHeap} (h : Cat.At H g o c p := by assumption) (hS : c.Shape := by assumption) (h0 : 0 ≤ f := by omega) (h1 : f < c.src.length := by omega) :
    GCalls Try.prog 57 [.pointer (some ⟨g, o, none⟩), .int .i64 f] H (NewInts 2 H (c.retr f)) := by
  rw [← Cat.ext_retr hS h0 h1]
  refine GCalls.body (N := 21) (rs := [.tmp 4]) Try.func57 rfl rfl rfl rfl (fun Qx hret hend => ?_)
  refine .fg [0, 1] rfl ?_
  have hle := GHeap.Le.refl H
  have base_h := h
  obtain ⟨-, c1, -, c3, -, i1, -, i3, -⟩ := h.get
  have q1 := hS.tl
  have q2 := hS.n40
  have q3 := hS.il
  have q4 := hS.src f.toNat (by omega)
  have q5 := hS.idn (c.src.getD f.toNat 0).toNat (by omega)
  refine .seq (fun K1 hK1 => .region (.mv rfl (.nil (hK1 _ _ (.seq (fun K2 hK2 => ?_))))))
  refine .regionD mo_B (.q 0 (.q 1 (.q 2 (.q 3 (.q 4 (.q 5 (.q 6 (.q 7 (.q 8 (.q 9 (.q 10 (.q 11 (.q 12 (.q 13 (.q 14 (.c 15 0 (.q 16 (.done)))))))))))))))))) (by kernel_rfl) ?_
  refine .mv rfl rfl (.mv rfl rfl (.q rfl (.nilCheck rfl) (.q rfl (.fieldAddr fo_27_3_B rfl) ?_)))
  refine .q rfl (.load on_24_B rfl (by assumption)) ?_
  refine .mv rfl rfl (.q rfl (.nilCheck rfl) (.q rfl (.fieldAddr fo_27_1_B rfl) ?_))
  refine .q rfl (.load on_24_B rfl (by assumption)) ?_
  refine .mv rfl rfl ?_
  refine .q rfl (.idx1 sl_24_A (by assumption) rfl rfl (by omega) (by omega)) ?_
  refine .q rfl (.loadI on_2_A (by assumption) rfl (by omega)) ?_
  refine .q rfl (.idx1 sl_24_A (by assumption) rfl rfl (by omega) (by omega)) ?_
  refine .q rfl (.loadI on_2_A (by assumption) rfl (by omega)) ?_
  refine .mv rfl rfl ?_
  refine .call0 rfl rfl rfl rfl rfl @Try.call92 rfl (extensions_c) ?_
  rintro _ H20 ⟨le20, g20, rfl, at20, ge20⟩
  replace hle := hle.trans le20
  replace h := base_h.mono hle
  clear c1 c3 i1 i3
  refine .mv rfl rfl ?_
  refine .done ?_
  refine hK2 _ _ ?_
  refine .ret ?_
  refine hret _ _ ?_
  refine ⟨_, rfl, ?_⟩
  exact ⟨hle, _, rfl, at20, by omega⟩
theorem sections_c {g o : Nat} {c : Cat} {p : CatP} {f : Int} {H : GHeap} (h : Cat.At H g o c p := by assumption) (hS : c.Shape := by assumption) (h0 : 0 ≤ f := by omega) (h1 : f < c.src.length := by omega) :
    GCalls Try.prog 58 [.pointer (some ⟨g, o, none⟩), .int .i64 f] H (NewInts 2 H (c.sect f)) := by
  rw [← Cat.lif_sect hS h0 h1]
  refine GCalls.body (N := 21) (rs := [.tmp 4]) Try.func58 rfl rfl rfl rfl (fun Qx hret hend => ?_)
  refine .fg [0, 1] rfl ?_
  have hle := GHeap.Le.refl H
  have base_h := h
  obtain ⟨-, -, c2, c3, -, -, i2, i3, -⟩ := h.get
  have q1 := hS.tl
  have q2 := hS.n40
  have q3 := hS.il
  have q4 := hS.tgt f.toNat (by omega)
  have q5 := hS.idn (c.tgt.getD f.toNat 0).toNat (by omega)
  refine .seq (fun K1 hK1 => .region (.mv rfl (.nil (hK1 _ _ (.seq (fun K2 hK2 => ?_))))))
  refine .regionD mo_B (.q 0 (.q 1 (.q 2 (.q 3 (.q 4 (.q 5 (.q 6 (.q 7 (.q 8 (.q 9 (.q 10 (.q 11 (.q 12 (.q 13 (.q 14 (.c 15 0 (.q 16 (.done)))))))))))))))))) (by kernel_rfl) ?_
  refine .mv rfl rfl (.mv rfl rfl (.q rfl (.nilCheck rfl) (.q rfl (.fieldAddr fo_27_3_B rfl) ?_)))
  refine .q rfl (.load on_24_B rfl (by assumption)) ?_
  refine .mv rfl rfl (.q rfl (.nilCheck rfl) (.q rfl (.fieldAddr fo_27_2_B rfl) ?_))
  refine .q rfl (.load on_24_B rfl (by assumption)) ?_
  refine .mv rfl rfl ?_
  refine .q rfl (.idx1 sl_24_A (by assumption) rfl rfl (by omega) (by omega)) ?_
  refine .q rfl (.loadI on_2_A (by assumption) rfl (by omega)) ?_
  refine .q rfl (.idx1 sl_24_A (by assumption) rfl rfl (by omega) (by omega)) ?_
  refine .q rfl (.loadI on_2_A (by assumption) rfl (by omega)) ?_
  refine .mv rfl rfl ?_
  refine .call0 rfl rfl rfl rfl rfl @Try.call74 rfl (lifts_c) ?_
  rintro _ H20 ⟨le20, g20, rfl, at20, ge20⟩
  replace hle := hle.trans le20
  replace h := base_h.mono hle
  clear c2 c3 i2 i3
  refine .mv rfl rfl ?_
  refine .done ?_
  refine hK2 _ _ ?_
  refine .ret ?_
  refine hret _ _ ?_
  refine ⟨_, rfl, ?_⟩
  exact ⟨hle, _, rfl, at20, by omega⟩
end Go.Proofs.Ytolfggcanbpknaa
namespace Go.Proofs.Ytolfggcanbpknaa
open Go Go.GL Go.RowKit Go.Proofs
end Go.Proofs.Ytolfggcanbpknaa
namespace Go.Proofs.Ytolfggcanbpknaa
open Go Go.GL Go.RowKit Go.Proofs
end Go.Proofs.Ytolfggcanbpknaa
namespace Go.Proofs.Ytolfggcanbpknaa
open Go Go.GL Go.RowKit Go.Proofs
end Go.Proofs.Ytolfggcanbpknaa
namespace Go.Proofs.Ytolfggcanbpknaa
open Go Go.GL Go.RowKit Go.Proofs
end Go.Proofs.Ytolfggcanbpknaa
namespace Go.Proofs.Ytolfggcanbpknaa
open Go Go.GL Go.RowKit Go.Proofs
end Go.Proofs.Ytolfggcanbpknaa
namespace Go.Proofs.Ytolfggcanbpknaa
open Go Go.GL Go.RowKit Go.Proofs
end Go.Proofs.Ytolfggcanbpknaa
namespace Go.Proofs.Ytolfggcanbpknaa
open Go Go.GL Go.RowKit Go.Proofs
theorem l01Own_c {a : Option Addr} {xs : List Int} {H : GHeap} (h : Ints H a xs := by assumption) (hl : xs.length ≤ 1048576 := by omega) :
    GCalls Try.prog 102 [.slice a xs.length xs.length] H (NewInts 2 H xs) := by
  refine GCalls.body (N := 6) (rs := [.tmp 2]) Try.func102 rfl rfl rfl rfl (fun Qx hret hend => ?_)
  refine .fg [0] rfl ?_
  have hle := GHeap.Le.refl H
  have base_h := h
  refine .seq (fun K1 hK1 => .region (.mv rfl (.nil (hK1 _ _ (.seq (fun K2 hK2 => .region ?_))))))
  refine .R rfl (.litA rfl sl_24_A ze_2_L rfl rfl rfl rfl) ?_
  rintro _ H3 ⟨g3, rfl, le3, ge3, at3⟩
  replace hle := hle.trans le3
  have lt_at3 := GHeap.ltg at3
  replace h := base_h.mono hle
  replace at3 : GHeap.get H3 g3 = some (.row (ints []) 2 true) := at3
  refine .mv rfl ?_
  refine .R rfl (.appendL rfl sl_24_A ze_2_L rfl by_2_L sl_24_A rfl rfl (by assumption) (by first | assumption | exact Ints.of_get (by assumption)) (by first | omega | (simp <;> omega)) (by omega) (by omega)) ?_
  rintro _ H5 ⟨g5, rfl, st5, ge5, at5⟩
  replace hle := hle.st st5 (fun k hk => ⟨by omega, trivial⟩)
  refine .mv rfl (.nil (hK2 _ _ ?_))
  refine .ret ?_
  refine hret _ _ ?_
  refine ⟨_, rfl, ?_⟩
  exact ⟨hle, _, by rw [Nat.zero_add], by simpa using at5, by omega⟩
end Go.Proofs.Ytolfggcanbpknaa
namespace Go.GL
structure Cans (xs : List Int) (n : Nat) (X : Int → Nat → Int) : Prop where
  all : ∀ i j, i < j → j < xs.length → ∃ w, w < n ∧ X (xs.getD i 0) w ≠ X (xs.getD j 0) w
theorem Cans.iff {xs : List Int} {n : Nat} {X : Int → Nat → Int} (hn : xs.Nodup) : Cans xs n X ↔ ∀ g ∈ xs, ∀ h ∈ xs, (∀ w, w < n → X g w = X h w) → g = h := by
  constructor
  · intro hc g hg h hh he
    obtain ⟨i, hi, rfl⟩ := mem_getD hg
    obtain ⟨j, hj, rfl⟩ := mem_getD hh
    rcases Nat.lt_trichotomy i j with e | e | e
    · obtain ⟨w, h1, h2⟩ := hc.all i j e hj
      exact absurd (he w h1) h2
    · rw [e]
    · obtain ⟨w, h1, h2⟩ := hc.all j i e hi
      exact absurd (he w h1).symm h2
  · intro h
    refine ⟨fun i j hij hj => Classical.byContradiction fun hno => ?_⟩
    have e := h _ (getD_mem (xs := xs) (i := i) (by omega)) _ (getD_mem hj) fun w hw => Classical.byContradiction fun hne => hno ⟨w, hw, hne⟩
    have p := List.pairwise_iff_getElem.1 hn i j (by omega) hj hij
    rw [List.getD_eq_getElem?_getD, List.getElem?_eq_getElem (by omega), List.getD_eq_getElem?_getD, List.getElem?_eq_getElem hj] at e
    exact p e
structure Cat.Jm (c : Cat) (x : Int) (fs : List Int) : Prop where
  all : ∀ g h : Nat, g < c.src.length → h < c.src.length → c.src.getD g 0 = c.src.getD h 0 → c.tgt.getD g 0 = x → c.tgt.getD h 0 = x → (∀ w, w < fs.length → c.th g (fs.getD w 0) = c.th h (fs.getD w 0)) → g = h
structure Cat.Je (c : Cat) (x : Int) (fs : List Int) : Prop where
  all : ∀ g h : Nat, g < c.src.length → h < c.src.length → c.tgt.getD g 0 = c.tgt.getD h 0 → c.src.getD g 0 = x → c.src.getD h 0 = x → (∀ w, w < fs.length → c.th (fs.getD w 0) g = c.th (fs.getD w 0) h) → g = h
structure Cat.Mono (c : Cat) (f : Int) : Prop where
  all : ∀ g h : Nat, g < c.src.length → h < c.src.length → c.src.getD g 0 = c.src.getD h 0 → c.tgt.getD g 0 = c.S f → c.tgt.getD h 0 = c.S f → c.th g f = c.th h f → g = h
structure Cat.Epi (c : Cat) (f : Int) : Prop where
  all : ∀ g h : Nat, g < c.src.length → h < c.src.length → c.tgt.getD g 0 = c.tgt.getD h 0 → c.src.getD g 0 = c.T f → c.src.getD h 0 = c.T f → c.th f g = c.th f h → g = h
theorem Cat.Jm.one {c : Cat} {f : Int} : c.Jm (c.S f) [f] ↔ c.Mono f :=
  ⟨fun h => ⟨fun a b h1 h2 h3 h4 h5 h6 => h.all a b h1 h2 h3 h4 h5 fun w hw => by
    obtain rfl : w = 0 := by rw [List.length_singleton] at hw; omega
    exact h6⟩,
    fun h => ⟨fun a b h1 h2 h3 h4 h5 h6 => h.all a b h1 h2 h3 h4 h5 (h6 0 (by simp))⟩⟩
theorem Cat.Je.one {c : Cat} {f : Int} : c.Je (c.T f) [f] ↔ c.Epi f :=
  ⟨fun h => ⟨fun a b h1 h2 h3 h4 h5 h6 => h.all a b h1 h2 h3 h4 h5 fun w hw => by
    obtain rfl : w = 0 := by rw [List.length_singleton] at hw; omega
    exact h6⟩,
    fun h => ⟨fun a b h1 h2 h3 h4 h5 h6 => h.all a b h1 h2 h3 h4 h5 (h6 0 (by simp))⟩⟩
theorem Cat.hom_nd (c : Cat) (x y : Int) : (c.hom x y).Nodup := filtN_nd _ _
theorem Cat.Jm.iff {c : Cat} {x : Int} {fs : List Int} (hS : c.Shape) : c.Jm x fs ↔ ∀ s : Nat, (s : Int) < c.obj → Cans (c.hom s x) fs.length (fun g w => c.th g (fs.getD w 0)) := by
  constructor
  · intro h s hs
    refine (Cans.iff (c.hom_nd _ _)).2 fun g hg k hk he => ?_
    obtain ⟨a, a1, a2, a3, rfl⟩ := Cat.mem_hom.1 hg
    obtain ⟨b, b1, b2, b3, rfl⟩ := Cat.mem_hom.1 hk
    rw [h.all a b a1 b1 (by omega) a3 b3 he]
  · intro h
    refine ⟨fun a b a1 b1 e1 e2 e3 he => ?_⟩
    have q := hS.src a a1
    have := (Cans.iff (c.hom_nd _ _)).1 (h (c.src.getD a 0).toNat (by omega)) a (Cat.mem_hom.2 ⟨a, a1, by omega, e2, rfl⟩) b (Cat.mem_hom.2 ⟨b, b1, by omega, e3, rfl⟩) he
    omega
theorem Cat.Je.iff {c : Cat} {x : Int} {fs : List Int} (hS : c.Shape) : c.Je x fs ↔ ∀ s : Nat, (s : Int) < c.obj → Cans (c.hom x s) fs.length (fun g w => c.th (fs.getD w 0) g) := by
  constructor
  · intro h s hs
    refine (Cans.iff (c.hom_nd _ _)).2 fun g hg k hk he => ?_
    obtain ⟨a, a1, a2, a3, rfl⟩ := Cat.mem_hom.1 hg
    obtain ⟨b, b1, b2, b3, rfl⟩ := Cat.mem_hom.1 hk
    rw [h.all a b a1 b1 (by omega) a2 b2 he]
  · intro h
    refine ⟨fun a b a1 b1 e1 e2 e3 he => ?_⟩
    have q := hS.tgt a (by have := hS.tl; omega)
    have := (Cans.iff (c.hom_nd _ _)).1 (h (c.tgt.getD a 0).toNat (by omega)) a (Cat.mem_hom.2 ⟨a, a1, e2, by omega, rfl⟩) b (Cat.mem_hom.2 ⟨b, b1, e3, by omega, rfl⟩) he
    omega
theorem Cat.retr_mono {c : Cat} (hI : c.Is) {f : Nat} (hf : f < c.src.length) {r : Int} (hr : r ∈ c.retr f) : c.Mono f := by
  have hS := hI.1
  obtain ⟨k, k1, k2, k3, k4, rfl⟩ := Cat.mem_retr.1 hr
  have eS : c.S (f : Int) = c.src.getD f 0 := by unfold Cat.S; rw [Int.toNat_natCast]
  have eT : c.T (f : Int) = c.tgt.getD f 0 := by unfold Cat.T; rw [Int.toNat_natCast]
  have key : ∀ a, a < c.src.length → c.tgt.getD a 0 = c.S (f : Int) → c.th (c.th a f) k = a := fun a a1 a2 => by
    rw [hI.2.as a a1 f hf (by rw [a2, eS]) k k1 (by rw [k2, eT]), k4, ← a2]
    exact (hI.2.ids a a1).2
  refine ⟨fun a b a1 b1 e1 e2 e3 e4 => ?_⟩
  have := key a a1 e2
  rw [e4, key b b1 e3] at this
  omega
theorem Cat.code_nil {c : Cat} : c.code [] = 0 ↔ c.Is := by
  rw [Cat.code_ok]
  exact ⟨fun h => h.1, fun h => ⟨h, allIn_iff.2 fun i hi => by simp at hi⟩⟩
theorem Cat.code_nil1 {c : Cat} (h : ¬ c.Is) : c.code [] = 1 := Cat.code_not h
theorem one_bd {f n : Int} (h : 0 ≤ f ∧ f < n) : ∀ w, w < [f].length → 0 ≤ [f].getD w 0 ∧ [f].getD w 0 < n := fun w hw => by
  obtain rfl : w = 0 := by rw [List.length_singleton] at hw; omega
  exact h
end Go.GL
namespace Go.Proofs.Ytolfggcanbpknaa
open Go Go.GL Go.RowKit Go.Proofs
theorem on_61_Fc : oneT Try.prog 61 = true := by kernel_rfl
theorem sz_61_Fc : (Try.prog.info? 61).map (·.size) = some 1 := by kernel_rfl
theorem sz_24_Fc : (Try.prog.info? 24).map (·.size) = some 1 := by kernel_rfl
theorem cancels_c {g fn n : Nat} {xs : List Int} {cap : Array Value} {Y : Int → Nat → Int} {H : GHeap} (hg : H.get g = some (.row (ints xs) 2 true)) (hl : xs.length ≤ 1048576) (hn : n ≤ 1048576)
    (hcall : ∀ (xs : Array Value) (w : World), (callFunc fn xs).run Try.prog w = .ok (.enter fn xs) w)
    (hq : ∀ i w : Nat, i < xs.length → w < n → GCalls Try.prog fn ([.int .i64 (xs.getD i 0), .int .i64 (w : Int)] ++ cap.toList) H (Ret (.int .i64 (Y (xs.getD i 0) w)) H)) :
    GCalls Try.prog 113 [.slice (some ⟨g, 0, none⟩) xs.length xs.length, .int .i64 (n : Int), .func (.func fn) #[] cap] H (Ret (.bool (B (Cans xs n Y))) H) := by
  have ix := Ints.of_get hg
  refine GCalls.body (N := 49) (rs := [.tmp 6]) Try.func113 rfl rfl rfl rfl (fun Qx hret hend => ?_)
  refine .fg [0, 1, 2] rfl ?_
  refine .seq (fun K1 hK1 => .region (.mv rfl (.nil (hK1 _ _ (.seq (fun K2 hK2 => .seq (fun K3 hK3 => .region (.mv rfl (.q rfl (.len sl_24_A rfl) (.mv rfl (.nil (hK3 _ _ ?_))))))))))))
  refine .block ?_
  refine .loopR (σ := Nat) [(0, some _), (1, some _), (2, some _), (13, some _), (14, some _)] (fun i => [(15, some (.int .i64 (i : Int)))]) (fun i H' => H = H' ∧ i ≤ xs.length ∧ ∀ a b, a < i → a < b → b < xs.length → ∃ w, w < n ∧ Y (xs.getD a 0) w ≠ Y (xs.getD b 0) w) (fun i => xs.length - i) (0) ⟨rfl, rfl, rfl, rfl, rfl, trivial⟩ ⟨rfl, trivial⟩ ?_ ?_
  ·
   refine ⟨rfl, ?_⟩
   exact ⟨by omega, fun a b h => by omega⟩
  rintro i _ ⟨rfl, hI⟩ KL1 hKL1
  refine .forget (fr' := [(15, some (.int .i64 (i : Int))), (0, some _), (1, some _), (2, some _), (13, some _), (14, some _)]) ⟨rfl, rfl, rfl, rfl, rfl, rfl, trivial⟩ ?_
  obtain ⟨hi, ha⟩ := hI
  refine .seq (fun K4 hK4 => .region (.q rfl (.cmp rfl rfl rfl) (.nil (hK4 _ _ (.seq (fun K5 hK5 => ?_))))))
  refine .cond rfl (fun h16 => ?_) (fun h16 => ?_)
  ·
   simp only [sps] at h16
   refine .skip ?_
   refine hK5 _ _ (.seq (fun K6 hK6 => ?_))
   refine .block ?_
   refine .seq (fun K7 hK7 => .region (.mv rfl ?_))
   refine .q rfl (.idxN sl_24_A (by first | assumption | exact SlA.of_row hg (by first | rfl | (simp; done) | (simp <;> omega))) rfl rfl (by omega)) ?_
   refine .q rfl (.loadI on_2_A (by first | assumption | exact Ints.of_get hg) rfl (by omega)) ?_
   refine .mv rfl (.mv rfl (.nil (hK7 _ _ (.seq (fun K8 hK8 => .region (.mv rfl (.mv rfl ?_)))))))
   refine .q rfl (.add rfl rfl rfl (by omega) (by omega)) ?_
   refine .q rfl (.slice (l := i + 1) (h := xs.length) sl_24_A rfl hg ⟨_, rfl⟩ rfl (by omega) (by omega)) ?_
   refine .q rfl (.len sl_24_A rfl) (.mv rfl (.nil (hK8 _ _ ?_)))
   refine .block ?_
   refine .loopR (σ := Nat) [(0, some _), (1, some _), (2, some _), (8, some _), (13, some _), (14, some _), (15, some _), (23, some _), (24, some _)] (fun j => [(25, some (.int .i64 (j : Int)))]) (fun j H' => H = H' ∧ j ≤ xs.length - (i + 1) ∧ ∀ b, b < j → ∃ w, w < n ∧ Y (xs.getD i 0) w ≠ Y (xs.getD (i + 1 + b) 0) w) (fun j => xs.length - j) (0) ⟨rfl, rfl, rfl, rfl, rfl, rfl, rfl, rfl, rfl, trivial⟩ ⟨rfl, trivial⟩ ?_ ?_
   ·
    refine ⟨rfl, ?_⟩
    exact ⟨by omega, fun b h => by omega⟩
   rintro j _ ⟨rfl, hI⟩ KL2 hKL2
   refine .forget (fr' := [(25, some (.int .i64 (j : Int))), (0, some _), (1, some _), (2, some _), (8, some _), (13, some _), (14, some _), (15, some _), (23, some _), (24, some _)]) ⟨rfl, rfl, rfl, rfl, rfl, rfl, rfl, rfl, rfl, rfl, trivial⟩ ?_
   obtain ⟨hj, hb⟩ := hI
   refine .seq (fun K9 hK9 => .region (.q rfl (.cmp rfl rfl rfl) (.nil (hK9 _ _ (.seq (fun K10 hK10 => ?_))))))
   refine .cond rfl (fun h26 => ?_) (fun h26 => ?_)
   ·
    simp only [sps] at h26
    refine .skip ?_
    refine hK10 _ _ (.seq (fun K11 hK11 => ?_))
    refine .block ?_
    refine .seq (fun K12 hK12 => .region ?_)
    have iD : SlA H (some ⟨g, 0 + (i + 1) * 1, none⟩) (xs.length - (i + 1)) (fun t => .int .i64 (xs.getD (i + 1 + t) 0)) := .inr ⟨g, _, rfl, fun t ht => by
      rw [GHeap.cell_of hg, show 0 + (i + 1) * 1 + t = i + 1 + t by omega]; exact ints_get (by omega)⟩
    refine .q rfl (.idxN (j := j) sl_24_A iD rfl rfl (by omega)) ?_
    refine .q rfl (.loadE on_2_A iD rfl (by omega)) ?_
    refine .mv rfl (.nil (hK12 _ _ (.seq (fun K13 hK13 => .region (.mv rfl (.nil (hK13 _ _ (.seq (fun K14 hK14 => .seq (fun K15 hK15 => .region (.mv rfl (.nil (hK15 _ _ ?_)))))))))))))
    refine .block ?_
    refine .loopR (σ := Nat × Bool) [(0, some _), (1, some _), (2, some _), (8, some _), (10, some _), (13, some _), (14, some _), (15, some _), (23, some _), (24, some _), (25, some _)] (fun (w, e) => [(12, some (.int .i64 (w : Int))), (11, some (.bool e))]) (fun (w, e) H' => H = H' ∧ w ≤ n ∧ (e = true → ∀ u, u < w → Y (xs.getD i 0) u = Y (xs.getD (i + 1 + j) 0) u) ∧ (e = false → ∃ u, u < n ∧ Y (xs.getD i 0) u ≠ Y (xs.getD (i + 1 + j) 0) u)) (fun (w, e) => n - w) ((0, true)) ⟨rfl, rfl, rfl, rfl, rfl, rfl, rfl, rfl, rfl, rfl, rfl, trivial⟩ ⟨rfl, rfl, trivial⟩ ?_ ?_
    ·
     refine ⟨rfl, ?_⟩
     exact ⟨by omega, fun _ u h => by omega, fun h => by cases h⟩
    rintro ⟨w, e⟩ _ ⟨rfl, hI⟩ KL3 hKL3
    refine .forget (fr' := [(12, some (.int .i64 (w : Int))), (11, some (.bool e)), (0, some _), (1, some _), (2, some _), (8, some _), (10, some _), (13, some _), (14, some _), (15, some _), (23, some _), (24, some _), (25, some _)]) ⟨rfl, rfl, rfl, rfl, rfl, rfl, rfl, rfl, rfl, rfl, rfl, rfl, rfl, trivial⟩ ?_
    obtain ⟨hw, he1, he2⟩ := hI
    refine .seq (fun K16 hK16 => .seq (fun K17 hK17 => .region (.mv rfl (.mv rfl (.q rfl (.cmp rfl rfl rfl) (.mv rfl ?_))))))
    refine .split (fun h32 => ?_) (fun h32 => ?_)
    ·
     try simp only [sps] at h32
     refine .qg rfl (.move rfl) (.q rfl (.pickT rfl rfl) (.nil (hK17 _ _ ?_)))
     refine .cond rfl (fun h34 => ?_) (fun h34 => ?_)
     ·
      try simp only [sps] at h34
      refine .skip ?_
      refine hK16 _ _ (.seq (fun K18 hK18 => ?_))
      refine .block ?_
      refine .region (.mv rfl (.mv rfl (.mv rfl ?_)))
      refine .callV rfl rfl rfl rfl rfl hcall rfl ((hq i w (by omega) (by omega))) ?_
      rintro _ _ ⟨rfl, rfl⟩
      refine .mv rfl (.mv rfl (.mv rfl ?_))
      refine .callV rfl rfl rfl rfl rfl hcall rfl ((hq (i + 1 + j) w (by omega) (by omega))) ?_
      rintro _ _ ⟨rfl, rfl⟩
      refine .q rfl (.cmp rfl rfl rfl) (.mv rfl (.nil (hK18 _ _ (.region (.mv rfl ?_)))))
      refine .q rfl (.add rfl rfl rfl (by omega) (by omega)) ?_
      refine .mv rfl (.nil ?_)
      refine hKL3 ((w + 1, Y (xs.getD i 0) w == Y (xs.getD (i + 1 + j) 0) w)) _ _ ?_ ?_ ⟨rfl, rfl, rfl, rfl, rfl, rfl, rfl, rfl, rfl, rfl, rfl, rfl, rfl, trivial⟩
      ·
       refine ⟨rfl, ?_⟩
       refine ⟨by omega, fun q u hu => ?_, fun q => ⟨w, by omega, beq_eq_false_iff_ne.1 q⟩⟩
       by_cases e3 : u < w
       · exact he1 h34 u e3
       · obtain rfl : u = w := by omega
         exact beq_iff_eq.1 q
      (dsimp only; omega)
     try simp only [sps] at h34
     refine .exit ?_
     refine hK14 _ _ (.seq (fun K19 hK19 => .region (.mv rfl (.nil (hK19 _ _ ?_)))))
     refine .cond rfl (fun h46 => ?_) (fun h46 => ?_)
     ·
      try simp only [sps] at h46
      refine .seq (fun K20 hK20 => .region (.mv rfl (.nil (hK20 _ _ ?_))))
      refine .ret ?_
      refine hret _ _ ?_
      refine ⟨_, rfl, ?_⟩
      exact .of (congrArg _ (B_false fun hc => by
        obtain ⟨w2, -, -⟩ := hc.all i (i + 1 + j) (by omega) (by omega)
        first
        | exact w4 (he1 h46 w2 (by omega))
        | (rw [h46] at h34; cases h34)))
     have hne := he2 h46
     refine .skip ?_
     refine hK11 _ _ (.region ?_)
     refine .q rfl (.add rfl rfl rfl (by omega) (by omega)) ?_
     refine .mv rfl (.nil ?_)
     refine hKL2 (j + 1) _ _ ?_ ?_ ⟨rfl, rfl, rfl, rfl, rfl, rfl, rfl, rfl, rfl, rfl, trivial⟩
     ·
      refine ⟨rfl, ?_⟩
      refine ⟨by omega, fun b h => ?_⟩
      by_cases e : b < j
      · exact hb b e
      · obtain rfl : b = j := by omega
        exact hne
     omega
    try simp only [sps] at h32
    refine .z rfl (.q rfl (.pickF rfl rfl) (.nil (hK17 _ _ ?_)))
    refine .condF rfl ?_
    refine .exit ?_
    refine hK14 _ _ (.seq (fun K21 hK21 => .region (.mv rfl (.nil (hK21 _ _ ?_)))))
    refine .cond rfl (fun h46 => ?_) (fun h46 => ?_)
    ·
     try simp only [sps] at h46
     refine .seq (fun K22 hK22 => .region (.mv rfl (.nil (hK22 _ _ ?_))))
     refine .ret ?_
     refine hret _ _ ?_
     refine ⟨_, rfl, ?_⟩
     exact .of (congrArg _ (B_false fun hc => by
       obtain ⟨w2, w3, w4⟩ := hc.all i (i + 1 + j) (by omega) (by omega)
       first
       | exact w4 (he1 h46 w2 (by omega))
       | (rw [h46] at h34; cases h34)))
    have hne := he2 h46
    refine .skip ?_
    refine hK11 _ _ (.region ?_)
    refine .q rfl (.add rfl rfl rfl (by omega) (by omega)) ?_
    refine .mv rfl (.nil ?_)
    refine hKL2 (j + 1) _ _ ?_ ?_ ⟨rfl, rfl, rfl, rfl, rfl, rfl, rfl, rfl, rfl, rfl, trivial⟩
    ·
     refine ⟨rfl, ?_⟩
     refine ⟨by omega, fun b h => ?_⟩
     by_cases e : b < j
     · exact hb b e
     · obtain rfl : b = j := by omega
       exact hne
    omega
   try simp only [sps] at h26
   refine .exit ?_
   refine hK6 _ _ (.region ?_)
   refine .q rfl (.add rfl rfl rfl (by omega) (by omega)) ?_
   refine .mv rfl (.nil ?_)
   refine hKL1 (i + 1) _ _ ?_ ?_ ⟨rfl, rfl, rfl, rfl, rfl, rfl, trivial⟩
   ·
    refine ⟨rfl, ?_⟩
    refine ⟨by omega, fun a b h1 h2 h3 => ?_⟩
    by_cases e : a < i
    · exact ha a b e h2 h3
    · obtain rfl : a = i := by omega
      have := hb (b - (a + 1)) (by omega)
      rwa [show a + 1 + (b - (a + 1)) = b by omega] at this
   omega
  try simp only [sps] at h16
  refine .exit ?_
  refine hK2 _ _ (.seq (fun K23 hK23 => .region (.mv rfl (.nil (hK23 _ _ ?_)))))
  refine .ret ?_
  refine hret _ _ ?_
  refine ⟨_, rfl, ?_⟩
  exact .of (congrArg _ (B_true ⟨fun a b h1 h2 => ha a b (by omega) h1 h2⟩))
theorem jMono1_c {g o g3 g5 : Nat} {c : Cat} {p : CatP} {a : Option Addr} {fs : List Int} {k : Int} {w : Nat} {e3 e5 : TypeId} {H : GHeap} (h : Cat.At H g o c p) (h3 : H.get g3 = some (.row [.pointer (some ⟨g, o, none⟩)] e3 true)) (h5 : H.get g5 = some (.row [.slice a fs.length fs.length] e5 true)) (hx : Ints H a fs)
    (hS : c.Shape) (k0 : 0 ≤ k) (k1 : k < c.src.length) (hw : w < fs.length) (hf : 0 ≤ fs.getD w 0 ∧ fs.getD w 0 < c.src.length) :
    GCalls Try.prog 114 [.int .i64 k, .int .i64 (w : Int), .pointer (some ⟨g3, 0, none⟩), .pointer (some ⟨g5, 0, none⟩)] H (Ret (.int .i64 (c.th k (fs.getD w 0))) H) := by
  have u3 : H.cell g3 0 = some (.pointer (some ⟨g, o, none⟩)) := by rw [GHeap.cell_of h3]; rfl
  have u5 : H.cell g5 0 = some (.slice a fs.length fs.length) := by rw [GHeap.cell_of h5]; rfl
  refine GCalls.body (N := 14) (rs := [.tmp 6]) Try.func114 rfl rfl rfl rfl (fun Qx hret hend => ?_)
  refine .fg [0, 1, 2, 3] rfl ?_
  refine .seq (fun K1 hK1 => .region (.mv rfl (.nil (hK1 _ _ (.seq (fun K2 hK2 => ?_))))))
  refine .regionD mo_B (.q 0 (.q 1 (.q 2 (.q 3 (.q 4 (.q 5 (.c 6 0 (.q 7 (.done))))))))) (by kernel_rfl) ?_
  refine .q rfl (.load on_61_Fc rfl (by assumption)) ?_
  refine .mv rfl rfl ?_
  refine .q rfl (.load on_24_B rfl (by assumption)) ?_
  refine .mv rfl rfl ?_
  refine .q rfl (.idxN sl_24_A (by assumption) rfl rfl (by omega)) ?_
  refine .q rfl (.loadI on_2_A (by assumption) rfl (by omega)) ?_
  refine .callQ0 rfl rfl rfl rfl rfl @Try.call52 rfl (then_s) ?_
  refine .mv rfl rfl ?_
  refine .done ?_
  refine hK2 _ _ ?_
  refine .ret ?_
  refine hret _ _ ?_
  refine ⟨_, rfl, ?_⟩
  exact .mk
theorem jEpi1_c {g o g3 g5 : Nat} {c : Cat} {p : CatP} {a : Option Addr} {fs : List Int} {k : Int} {w : Nat} {e3 e5 : TypeId} {H : GHeap} (h : Cat.At H g o c p) (h3 : H.get g3 = some (.row [.pointer (some ⟨g, o, none⟩)] e3 true)) (h5 : H.get g5 = some (.row [.slice a fs.length fs.length] e5 true)) (hx : Ints H a fs)
    (hS : c.Shape) (k0 : 0 ≤ k) (k1 : k < c.src.length) (hw : w < fs.length) (hf : 0 ≤ fs.getD w 0 ∧ fs.getD w 0 < c.src.length) :
    GCalls Try.prog 116 [.int .i64 k, .int .i64 (w : Int), .pointer (some ⟨g3, 0, none⟩), .pointer (some ⟨g5, 0, none⟩)] H (Ret (.int .i64 (c.th (fs.getD w 0) k)) H) := by
  have u3 : H.cell g3 0 = some (.pointer (some ⟨g, o, none⟩)) := by rw [GHeap.cell_of h3]; rfl
  have u5 : H.cell g5 0 = some (.slice a fs.length fs.length) := by rw [GHeap.cell_of h5]; rfl
  refine GCalls.body (N := 14) (rs := [.tmp 6]) Try.func116 rfl rfl rfl rfl (fun Qx hret hend => ?_)
  refine .fg [0, 1, 2, 3] rfl ?_
  refine .seq (fun K1 hK1 => .region (.mv rfl (.nil (hK1 _ _ (.seq (fun K2 hK2 => ?_))))))
  refine .regionD mo_B (.q 0 (.q 1 (.q 2 (.q 3 (.q 4 (.q 5 (.c 6 0 (.q 7 (.done))))))))) (by kernel_rfl) ?_
  refine .q rfl (.load on_61_Fc rfl (by assumption)) ?_
  refine .q rfl (.load on_24_B rfl (by assumption)) ?_
  refine .mv rfl rfl ?_
  refine .q rfl (.idxN sl_24_A (by assumption) rfl rfl (by omega)) ?_
  refine .q rfl (.loadI on_2_A (by assumption) rfl (by omega)) ?_
  refine .mv rfl rfl ?_
  refine .callQ0 rfl rfl rfl rfl rfl @Try.call52 rfl (then_s) ?_
  refine .mv rfl rfl ?_
  refine .done ?_
  refine hK2 _ _ ?_
  refine .ret ?_
  refine hret _ _ ?_
  refine ⟨_, rfl, ?_⟩
  exact .mk
theorem jointlyMono_c {g o : Nat} {c : Cat} {p : CatP} {x : Int} {a : Option Addr} {fs : List Int} {H : GHeap} (h : Cat.At H g o c p := by assumption) (hx : Ints H a fs := by assumption) (hS : c.Shape := by assumption) (hl : fs.length ≤ 1048576 := by omega) (hf : ∀ w, w < fs.length → 0 ≤ fs.getD w 0 ∧ fs.getD w 0 < c.src.length) :
    GCalls Try.prog 93 [.pointer (some ⟨g, o, none⟩), .int .i64 x, .slice a fs.length fs.length] H (Ret (.bool (B (c.Jm x fs))) H) := by
  refine GCalls.ret rfl ?_
  have q1 := hS.obj
  have q2 := hS.n40
  refine GCalls.body (N := 25) (rs := [.tmp 6]) Try.func93 rfl rfl rfl rfl (fun Qx hret hend => ?_)
  refine .fg [0, 1, 2] rfl ?_
  have hle := GHeap.Le.refl H
  have base_h := h
  have base_hx := hx
  refine .seq (fun K1 hK1 => .region ?_)
  refine .R rfl (.boxR rfl sz_61_Fc rfl) ?_
  rintro _ H3 ⟨g3, rfl, le3, ge3, at3⟩
  replace hle := hle.trans le3
  replace h := base_h.mono hle
  refine .R rfl (.boxR rfl sz_24_Fc rfl) ?_
  rintro _ H5 ⟨g5, rfl, le5, ge5, at5⟩
  replace hle := hle.trans le5
  replace at3 := le5.2 _ _ at3
  replace h := base_h.mono hle
  refine .mv rfl (.nil (hK1 _ _ (.seq (fun K2 hK2 => .seq (fun K3 hK3 => .region (.mv rfl (.nil (hK3 _ _ ?_))))))))
  refine .block ?_
  refine .loopR (σ := Nat) [(1, some _), (3, some _), (5, some _)] (fun s => [(7, some (.int .i64 (s : Int)))]) (fun s H' => St [] H5 H' ∧ (s : Int) ≤ c.obj ∧ ∀ t : Nat, t < s → Cans (c.hom t x) fs.length (fun g w => c.th g (fs.getD w 0))) (fun s => c.obj.toNat - s) (0) ⟨rfl, rfl, rfl, trivial⟩ ⟨rfl, trivial⟩ ?_ ?_
  ·
   refine ⟨.refl _ _, ?_⟩
   exact ⟨by omega, fun t h => by omega⟩
  rintro s HL1 ⟨lst1, hI⟩ KL1 hKL1
  refine .forget (fr' := [(7, some (.int .i64 (s : Int))), (1, some _), (3, some _), (5, some _)]) ⟨rfl, rfl, rfl, rfl, trivial⟩ ?_
  replace hle := hle.st lst1 (fun k hk => trivial)
  replace at3 := lst1.same _ _ trivial at3
  replace at5 := lst1.same _ _ trivial at5
  replace h := base_h.mono hle
  obtain ⟨c0, -, -, -, -, -, -, -, -⟩ := h.get
  obtain ⟨hs, ha⟩ := hI
  refine .seq (fun K4 hK4 => .seq (fun K5 hK5 => .region (.mv rfl ?_)))
  refine .q rfl (.load on_61_Fc rfl (by first | assumption | exact Mem.of_get at3 0 _ rfl)) ?_
  refine .q rfl (.nilCheck rfl) (.q rfl (.fieldAddr fo_27_0_B rfl) ?_)
  refine .q rfl (.load on_2_A rfl (by assumption)) ?_
  refine .q rfl (.cmp rfl rfl rfl) (.nil (hK5 _ _ ?_))
  refine .cond rfl (fun h13 => ?_) (fun h13 => ?_)
  ·
   try simp only [sps] at h13
   refine .skip ?_
   refine hK4 _ _ (.seq (fun K6 hK6 => ?_))
   refine .block ?_
   refine .seq (fun K7 hK7 => ?_)
   refine .regionD mo_B (.q 0 (.q 1 (.q 2 (.q 4 (.q 5 (.q 6 (.c 3 1 (.c 7 0 (.q 8 (.done)))))))))) (by kernel_rfl) ?_
   refine .q rfl (.load on_61_Fc rfl (by first | assumption | exact Mem.of_get at3 0 _ rfl)) ?_
   refine .mv rfl rfl (.mv rfl rfl ?_)
   refine .q rfl (.load on_24_B rfl (by first | assumption | exact Mem.of_get at5 0 _ rfl)) ?_
   refine .q rfl (.len sl_24_A rfl) (.q rfl (.makeFunc rfl) ?_)
   refine .call1 rfl rfl rfl rfl rfl @Try.call88 rfl (hom_c) ?_
   rintro _ H19 ⟨le19, g19, rfl, at19, ge19⟩
   have hbl := le19
   refine ⟨hbl, ?_⟩
   replace hle := hle.trans le19
   replace lst1 := lst1.le le19
   replace at3 := le19.2 _ _ at3
   replace at5 := le19.2 _ _ at5
   replace h := base_h.mono hle
   replace hx := base_hx.mono hle
   clear c0
   have i19 := Ints.of_get at19
   refine .callQ0 rfl rfl rfl rfl rfl @Try.call113 rfl (cancels_c (Y := fun g w => c.th g (fs.getD w 0)) at19 (by have := c.hom_le s x; omega) (by omega) @Try.call114 (fun i w hi hw => by
     obtain ⟨j, j1, -, -, j4⟩ := c.hom_get hi
     exact jMono1_c h at3 at5 hx hS (by omega) (by omega) hw (hf w hw))) ?_
   refine .q rfl (.not rfl) ?_
   refine .done ?_
   refine hK7 _ _ ?_
   refine .cond rfl (fun h24 => ?_) (fun h24 => ?_)
   ·
    try simp only [sps] at h24
    refine .seq (fun K8 hK8 => .region (.mv rfl (.nil (hK8 _ _ ?_))))
    refine .ret ?_
    refine hret _ _ ?_
    refine ⟨_, rfl, ?_⟩
    exact ⟨congrArg _ (B_false fun q => h24 ((Cat.Jm.iff hS).1 q s (by omega))), hle⟩
   try simp only [sps] at h24
   refine .skip ?_
   refine hK6 _ _ (.region (.mv rfl ?_))
   refine .q rfl (.add rfl rfl rfl (by omega) (by omega)) ?_
   refine .mv rfl (.nil ?_)
   refine hKL1 (s + 1) _ _ ?_ ?_ ⟨rfl, rfl, rfl, rfl, trivial⟩
   ·
    refine ⟨lst1, ?_⟩
    refine ⟨by omega, fun t ht => ?_⟩
    by_cases e : t < s
    · exact ha t e
    · obtain rfl : t = s := by omega
      exact h24
   omega
  try simp only [sps] at h13
  refine .exit ?_
  refine hK2 _ _ (.seq (fun K9 hK9 => .region (.mv rfl (.nil (hK9 _ _ ?_)))))
  refine .ret ?_
  refine hret _ _ ?_
  refine ⟨_, rfl, ?_⟩
  exact ⟨congrArg _ (B_true ((Cat.Jm.iff hS).2 fun t ht => ha t (by omega))), hle⟩
theorem jointlyEpi_c {g o : Nat} {c : Cat} {p : CatP} {x : Int} {a : Option Addr} {fs : List Int} {H : GHeap} (h : Cat.At H g o c p := by assumption) (hx : Ints H a fs := by assumption) (hS : c.Shape := by assumption) (hl : fs.length ≤ 1048576 := by omega) (hf : ∀ w, w < fs.length → 0 ≤ fs.getD w 0 ∧ fs.getD w 0 < c.src.length) :
    GCalls Try.prog 99 [.pointer (some ⟨g, o, none⟩), .int .i64 x, .slice a fs.length fs.length] H (Ret (.bool (B (c.Je x fs))) H) := by
  refine GCalls.ret rfl ?_
  have q1 := hS.obj
  have q2 := hS.n40
  refine GCalls.body (N := 25) (rs := [.tmp 6]) Try.func99 rfl rfl rfl rfl (fun Qx hret hend => ?_)
  refine .fg [0, 1, 2] rfl ?_
  have hle := GHeap.Le.refl H
  have base_h := h
  have base_hx := hx
  refine .seq (fun K1 hK1 => .region ?_)
  refine .R rfl (.boxR rfl sz_61_Fc rfl) ?_
  rintro _ H3 ⟨g3, rfl, le3, ge3, at3⟩
  replace hle := hle.trans le3
  replace h := base_h.mono hle
  refine .R rfl (.boxR rfl sz_24_Fc rfl) ?_
  rintro _ H5 ⟨g5, rfl, le5, ge5, at5⟩
  replace hle := hle.trans le5
  replace at3 := le5.2 _ _ at3
  replace h := base_h.mono hle
  refine .mv rfl (.nil (hK1 _ _ (.seq (fun K2 hK2 => .seq (fun K3 hK3 => .region (.mv rfl (.nil (hK3 _ _ ?_))))))))
  refine .block ?_
  refine .loopR (σ := Nat) [(1, some _), (3, some _), (5, some _)] (fun s => [(7, some (.int .i64 (s : Int)))]) (fun s H' => St [] H5 H' ∧ (s : Int) ≤ c.obj ∧ ∀ t : Nat, t < s → Cans (c.hom x t) fs.length (fun g w => c.th (fs.getD w 0) g)) (fun s => c.obj.toNat - s) (0) ⟨rfl, rfl, rfl, trivial⟩ ⟨rfl, trivial⟩ ?_ ?_
  ·
   refine ⟨.refl _ _, ?_⟩
   exact ⟨by omega, fun t h => by omega⟩
  rintro s HL1 ⟨lst1, hI⟩ KL1 hKL1
  refine .forget (fr' := [(7, some (.int .i64 (s : Int))), (1, some _), (3, some _), (5, some _)]) ⟨rfl, rfl, rfl, rfl, trivial⟩ ?_
  replace hle := hle.st lst1 (fun k hk => trivial)
  replace at3 := lst1.same _ _ trivial at3
  replace at5 := lst1.same _ _ trivial at5
  replace h := base_h.mono hle
  obtain ⟨c0, -, -, -, -, -, -, -, -⟩ := h.get
  obtain ⟨hs, ha⟩ := hI
  refine .seq (fun K4 hK4 => .seq (fun K5 hK5 => .region (.mv rfl ?_)))
  refine .q rfl (.load on_61_Fc rfl (by first | assumption | exact Mem.of_get at3 0 _ rfl)) ?_
  refine .q rfl (.nilCheck rfl) (.q rfl (.fieldAddr fo_27_0_B rfl) ?_)
  refine .q rfl (.load on_2_A rfl (by assumption)) ?_
  refine .q rfl (.cmp rfl rfl rfl) (.nil (hK5 _ _ ?_))
  refine .cond rfl (fun h13 => ?_) (fun h13 => ?_)
  ·
   try simp only [sps] at h13
   refine .skip ?_
   refine hK4 _ _ (.seq (fun K6 hK6 => ?_))
   refine .block ?_
   refine .seq (fun K7 hK7 => ?_)
   refine .regionD mo_B (.q 0 (.q 1 (.q 2 (.q 4 (.q 5 (.q 6 (.c 3 1 (.c 7 0 (.q 8 (.done)))))))))) (by kernel_rfl) ?_
   refine .q rfl (.load on_61_Fc rfl (by first | assumption | exact Mem.of_get at3 0 _ rfl)) ?_
   refine .mv rfl rfl (.mv rfl rfl ?_)
   refine .q rfl (.load on_24_B rfl (by first | assumption | exact Mem.of_get at5 0 _ rfl)) ?_
   refine .q rfl (.len sl_24_A rfl) (.q rfl (.makeFunc rfl) ?_)
   refine .call1 rfl rfl rfl rfl rfl @Try.call88 rfl (hom_c) ?_
   rintro _ H19 ⟨le19, g19, rfl, at19, ge19⟩
   have hbl := le19
   refine ⟨hbl, ?_⟩
   replace hle := hle.trans le19
   replace lst1 := lst1.le le19
   replace at3 := le19.2 _ _ at3
   replace at5 := le19.2 _ _ at5
   replace h := base_h.mono hle
   replace hx := base_hx.mono hle
   clear c0
   have i19 := Ints.of_get at19
   refine .callQ0 rfl rfl rfl rfl rfl @Try.call113 rfl (cancels_c (Y := fun g w => c.th (fs.getD w 0) g) at19 (by have := c.hom_le x s; omega) (by omega) @Try.call116 (fun i w hi hw => by
     obtain ⟨j, j1, -, -, j4⟩ := c.hom_get hi
     exact jEpi1_c h at3 at5 hx hS (by omega) (by omega) hw (hf w hw))) ?_
   refine .q rfl (.not rfl) ?_
   refine .done ?_
   refine hK7 _ _ ?_
   refine .cond rfl (fun h24 => ?_) (fun h24 => ?_)
   ·
    try simp only [sps] at h24
    refine .seq (fun K8 hK8 => .region (.mv rfl (.nil (hK8 _ _ ?_))))
    refine .ret ?_
    refine hret _ _ ?_
    refine ⟨_, rfl, ?_⟩
    exact ⟨congrArg _ (B_false fun q => h24 ((Cat.Je.iff hS).1 q s (by omega))), hle⟩
   try simp only [sps] at h24
   refine .skip ?_
   refine hK6 _ _ (.region (.mv rfl ?_))
   refine .q rfl (.add rfl rfl rfl (by omega) (by omega)) ?_
   refine .mv rfl (.nil ?_)
   refine hKL1 (s + 1) _ _ ?_ ?_ ⟨rfl, rfl, rfl, rfl, trivial⟩
   ·
    refine ⟨lst1, ?_⟩
    refine ⟨by omega, fun t ht => ?_⟩
    by_cases e : t < s
    · exact ha t e
    · obtain rfl : t = s := by omega
      exact h24
   omega
  try simp only [sps] at h13
  refine .exit ?_
  refine hK2 _ _ (.seq (fun K9 hK9 => .region (.mv rfl (.nil (hK9 _ _ ?_)))))
  refine .ret ?_
  refine hret _ _ ?_
  refine ⟨_, rfl, ?_⟩
  exact ⟨congrArg _ (B_true ((Cat.Je.iff hS).2 fun t ht => ha t (by omega))), hle⟩
theorem isMono_c {g o : Nat} {c : Cat} {p : CatP} {f : Int} {H : GHeap} (h : Cat.At H g o c p := by assumption) (hS : c.Shape := by assumption) (f0 : 0 ≤ f := by omega) (f1 : f < c.src.length := by omega) :
    GCalls Try.prog 59 [.pointer (some ⟨g, o, none⟩), .int .i64 f] H (Ret (.bool (B (c.Mono f))) H) := by
  refine GCalls.ret rfl ?_
  rw [← B_congr Cat.Jm.one]
  refine GCalls.body (N := 16) (rs := [.tmp 4]) Try.func59 rfl rfl rfl rfl (fun Qx hret hend => ?_)
  refine .fg [0, 1] rfl ?_
  have hle := GHeap.Le.refl H
  have base_h := h
  obtain ⟨-, c1, -, -, -, i1, -, -, -⟩ := h.get
  have q1 := hS.tl
  have q2 := hS.n40
  refine .seq (fun K1 hK1 => .region (.mv rfl (.nil (hK1 _ _ (.seq (fun K2 hK2 => .region (.mv rfl (.mv rfl (.q rfl (.nilCheck rfl) (.q rfl (.fieldAddr fo_27_1_B rfl) ?_))))))))))
  refine .q rfl (.load on_24_B rfl (by assumption)) ?_
  refine .mv rfl ?_
  refine .q rfl (.idx1 sl_24_A (by assumption) rfl rfl (by omega) (by omega)) ?_
  refine .q rfl (.loadI on_2_A (by assumption) rfl (by omega)) ?_
  refine .mv rfl ?_
  refine .R rfl (.litA rfl sl_24_A ze_2_L rfl rfl rfl rfl) ?_
  rintro _ H14 ⟨g14, rfl, le14, ge14, at14⟩
  replace hle := hle.trans le14
  replace h := base_h.mono hle
  clear c1 i1
  refine .callQ rfl rfl rfl rfl @Try.call93 rfl (jointlyMono_c (fs := [f]) (hx := Ints.of_get (by assumption)) (hl := by simp) (hf := one_bd ⟨f0, f1⟩)) ?_
  refine .mv rfl (.nil (hK2 _ _ ?_))
  refine .ret ?_
  refine hret _ _ ?_
  refine ⟨_, rfl, ?_⟩
  exact ⟨rfl, hle⟩
theorem isEpi_c {g o : Nat} {c : Cat} {p : CatP} {f : Int} {H : GHeap} (h : Cat.At H g o c p := by assumption) (hS : c.Shape := by assumption) (f0 : 0 ≤ f := by omega) (f1 : f < c.src.length := by omega) :
    GCalls Try.prog 63 [.pointer (some ⟨g, o, none⟩), .int .i64 f] H (Ret (.bool (B (c.Epi f))) H) := by
  refine GCalls.ret rfl ?_
  rw [← B_congr Cat.Je.one]
  refine GCalls.body (N := 16) (rs := [.tmp 4]) Try.func63 rfl rfl rfl rfl (fun Qx hret hend => ?_)
  refine .fg [0, 1] rfl ?_
  have hle := GHeap.Le.refl H
  have base_h := h
  obtain ⟨-, -, c2, -, -, -, i2, -, -⟩ := h.get
  have q1 := hS.tl
  have q2 := hS.n40
  refine .seq (fun K1 hK1 => .region (.mv rfl (.nil (hK1 _ _ (.seq (fun K2 hK2 => .region (.mv rfl (.mv rfl (.q rfl (.nilCheck rfl) (.q rfl (.fieldAddr fo_27_2_B rfl) ?_))))))))))
  refine .q rfl (.load on_24_B rfl (by assumption)) ?_
  refine .mv rfl ?_
  refine .q rfl (.idx1 sl_24_A (by assumption) rfl rfl (by omega) (by omega)) ?_
  refine .q rfl (.loadI on_2_A (by assumption) rfl (by omega)) ?_
  refine .mv rfl ?_
  refine .R rfl (.litA rfl sl_24_A ze_2_L rfl rfl rfl rfl) ?_
  rintro _ H14 ⟨g14, rfl, le14, ge14, at14⟩
  replace hle := hle.trans le14
  replace h := base_h.mono hle
  clear c2 i2
  refine .callQ rfl rfl rfl rfl @Try.call99 rfl (jointlyEpi_c (fs := [f]) (hx := Ints.of_get (by assumption)) (hl := by simp) (hf := one_bd ⟨f0, f1⟩)) ?_
  refine .mv rfl (.nil (hK2 _ _ ?_))
  refine .ret ?_
  refine hret _ _ ?_
  refine ⟨_, rfl, ?_⟩
  exact ⟨rfl, hle⟩
theorem l05Mono_c {c : Cat} {p : CatP} {f : Int} {H : GHeap} (hin : c.In H p := by assumption) (hs : c.Small := by assumption) (hS : c.Shape := by assumption) (f0 : 0 ≤ f := by omega) (f1 : f < c.src.length := by omega) :
    GCalls Try.prog 60 [.agg (c.cells p).toArray, .int .i64 f] H (Ret (.bool (B (c.Mono f))) H) := by
  refine GCalls.ret rfl ?_
  have q1 := hS.tl
  have q2 := hS.n40
  have q3 := hS.cl
  refine GCalls.body (N := 79) (rs := [.tmp 4]) Try.func60 rfl rfl rfl rfl (fun Qx hret hend => ?_)
  refine .fg [0, 1] rfl ?_
  have hle := GHeap.Le.refl H
  have base_hin := hin
  refine .seq (fun K1 hK1 => .region ?_)
  refine .R rfl (.boxR rfl sz_27_D rfl) ?_
  rintro _ H2 ⟨g2, rfl, le2, ge2, at2⟩
  replace hle := hle.trans le2
  replace hin := base_hin.mono hle
  have hb2 : Cat.At _ g2 0 c p := ⟨Mem.of_get at2, hin⟩
  obtain ⟨-, c12, c22, -, c42, i12, i22, -, i42⟩ := hb2.get
  refine .mv rfl (.nil (hK1 _ _ (.seq (fun K2 hK2 => .seq (fun K3 hK3 => .region (.mv rfl (.nil (hK3 _ _ ?_))))))))
  refine .block ?_
  refine .loopR (σ := Nat) [(1, some _), (2, some _)] (fun i => [(5, some (.int .i64 (i : Int)))]) (fun i H' => H2 = H' ∧ i ≤ c.src.length ∧ ∀ a b, a < i → a < b → b < c.src.length → ¬ (c.src.getD a 0 = c.src.getD b 0 ∧ c.tgt.getD a 0 = c.S f ∧ c.tgt.getD b 0 = c.S f ∧ c.th a f = c.th b f)) (fun i => c.src.length - i) (0) ⟨rfl, rfl, trivial⟩ ⟨rfl, trivial⟩ ?_ ?_
  ·
   refine ⟨rfl, ?_⟩
   exact ⟨by omega, fun a b h => by omega⟩
  rintro i _ ⟨rfl, hI⟩ KL1 hKL1
  refine .forget (fr' := [(5, some (.int .i64 (i : Int))), (1, some _), (2, some _)]) ⟨rfl, rfl, rfl, trivial⟩ ?_
  obtain ⟨hi, ha⟩ := hI
  refine .seq (fun K4 hK4 => .seq (fun K5 hK5 => .region (.mv rfl (.q rfl (.fieldAddr fo_27_1_B rfl) ?_))))
  refine .q rfl (.load on_24_B rfl (by first | assumption | exact Mem.of_get at2 1 _ rfl)) ?_
  refine .q rfl (.len sl_24_A rfl) (.q rfl (.cmp rfl rfl rfl) (.nil (hK5 _ _ ?_)))
  refine .cond rfl (fun h11 => ?_) (fun h11 => ?_)
  ·
   simp only [sps] at h11
   refine .skip ?_
   refine hK4 _ _ (.seq (fun K6 hK6 => ?_))
   refine .block ?_
   refine .seq (fun K7 hK7 => .region (.mv rfl ?_))
   refine .q rfl (.add rfl rfl rfl (by omega) (by omega)) ?_
   refine .mv rfl (.nil (hK7 _ _ ?_))
   refine .block ?_
   refine .loopR (σ := Nat) [(1, some _), (2, some _), (5, some _)] (fun j => [(6, some (.int .i64 (j : Int)))]) (fun j H' => H2 = H' ∧ (i < j ∧ j ≤ c.src.length) ∧ ∀ b, i < b → b < j → ¬ (c.src.getD i 0 = c.src.getD b 0 ∧ c.tgt.getD i 0 = c.S f ∧ c.tgt.getD b 0 = c.S f ∧ c.th i f = c.th b f)) (fun j => c.src.length - j) (i + 1) ⟨rfl, rfl, rfl, trivial⟩ ⟨rfl, trivial⟩ ?_ ?_
   ·
    refine ⟨rfl, ?_⟩
    exact ⟨by omega, fun b h h' => by omega⟩
   rintro j _ ⟨rfl, hI⟩ KL2 hKL2
   refine .forget (fr' := [(6, some (.int .i64 (j : Int))), (1, some _), (2, some _), (5, some _)]) ⟨rfl, rfl, rfl, rfl, trivial⟩ ?_
   obtain ⟨hj, hb⟩ := hI
   refine .seq (fun K8 hK8 => .seq (fun K9 hK9 => .region (.mv rfl (.q rfl (.fieldAddr fo_27_1_B rfl) ?_))))
   refine .q rfl (.load on_24_B rfl (by first | assumption | exact Mem.of_get at2 1 _ rfl)) ?_
   refine .q rfl (.len sl_24_A rfl) (.q rfl (.cmp rfl rfl rfl) (.nil (hK9 _ _ ?_)))
   refine .cond rfl (fun h20 => ?_) (fun h20 => ?_)
   ·
    simp only [sps] at h20
    have r1 := hS.row i (by omega)
    have r2 := hS.row j (by omega)
    refine .skip ?_
    refine hK8 _ _ (.seq (fun K10 hK10 => ?_))
    refine .block ?_
    refine .seq (fun K11 hK11 => ?_)
    refine .regionD mo_B (.q 0 (.q 1 (.q 2 (.q 3 (.q 4 (.q 5 (.q 6 (.q 7 (.q 8 (.q 9 (.q 10 (.q 11 (.q 12 (.q 13 (.q 14 (.q 15 (.q 16 (.q 17 (.q 18 (.q 19 (.q 20 (.q 21 (.q 22 (.q 23 (.q 24 (.q 25 (.q 26 (.q 27 (.q 28 (.q 29 (.q 30 (.q 31 (.q 32 (.q 33 (.q 34 (.q 35 (.q 36 (.q 37 (.q 38 (.q 39 (.q 40 (.q 41 (.q 42 (.q 43 (.q 44 (.q 45 (.q 46 (.q 47 (.q 48 (.q 49 (.q 50 (.q 51 (.q 52 (.q 53 (.q 54 (.q 55 (.done))))))))))))))))))))))))))))))))))))))))))))))))))))))))) (by kernel_rfl) ?_
    refine .cut [(1, some _), (2, some _), (5, some _), (6, some _), (16, some _), (17, some _), (18, some _), (19, some _), (20, some _)] ⟨rfl, rfl, rfl, rfl, rfl, rfl, rfl, rfl, rfl, trivial⟩ (fun rest fr' H' => ∃ e : Bool, Sub ((78, some (.bool e)) :: rest) fr' ∧ H2 = H' ∧ (e = false → ¬ (c.src.getD i 0 = c.src.getD j 0 ∧ c.tgt.getD i 0 = c.S f ∧ c.tgt.getD j 0 = c.S f ∧ c.th i f = c.th j f)) ∧ (e = true → (c.src.getD i 0 = c.src.getD j 0 ∧ c.tgt.getD i 0 = c.S f ∧ c.tgt.getD j 0 = c.S f ∧ c.th i f = c.th j f))) ?_ ?_
    ·
     refine .q rfl (.fieldAddr fo_27_1_B rfl) ?_
     refine .q rfl (.load on_24_B rfl (by first | assumption | exact Mem.of_get at2 1 _ rfl)) ?_
     refine .mv rfl rfl ?_
     refine .q rfl (.idxN sl_24_A (by assumption) rfl rfl (by omega)) ?_
     refine .q rfl (.loadI on_2_A (by assumption) rfl (by omega)) ?_
     refine .q rfl (.fieldAddr fo_27_1_B rfl) ?_
     refine .q rfl (.load on_24_B rfl (by first | assumption | exact Mem.of_get at2 1 _ rfl)) ?_
     refine .mv rfl rfl ?_
     refine .q rfl (.idxN sl_24_A (by assumption) rfl rfl (by omega)) ?_
     refine .q rfl (.loadI on_2_A (by assumption) rfl (by omega)) ?_
     refine .q rfl (.cmp rfl rfl rfl) (.mv rfl rfl ?_)
     refine .split (fun h34 => ?_) (fun h34 => ?_)
     ·
      try simp only [sps] at h34
      refine .qg rfl (.fieldAddr fo_27_2_B rfl) ?_
      refine .qg rfl (.load on_24_B rfl (by first | assumption | exact Mem.of_get at2 2 _ rfl)) ?_
      refine .qg rfl (.move rfl) ?_
      refine .qg rfl (.idxN sl_24_A (by assumption) rfl rfl (by omega)) ?_
      refine .qg rfl (.loadI on_2_A (by assumption) rfl (by omega)) ?_
      refine .qg rfl (.fieldAddr fo_27_1_B rfl) ?_
      refine .qg rfl (.load on_24_B rfl (by first | assumption | exact Mem.of_get at2 1 _ rfl)) ?_
      refine .qg rfl (.move rfl) ?_
      refine .qg rfl (.idx1 sl_24_A (by assumption) rfl rfl (by omega) (by omega)) ?_
      refine .qg rfl (.loadI on_2_A (by assumption) rfl (by omega)) ?_
      refine .qg rfl (.cmp rfl rfl rfl) (.q rfl (.pickT rfl rfl) (.mv rfl rfl ?_))
      refine .split (fun h47 => ?_) (fun h47 => ?_)
      ·
       try simp only [sps] at h47
       refine .qg rfl (.fieldAddr fo_27_2_B rfl) ?_
       refine .qg rfl (.load on_24_B rfl (by first | assumption | exact Mem.of_get at2 2 _ rfl)) ?_
       refine .qg rfl (.move rfl) ?_
       refine .qg rfl (.idxN sl_24_A (by assumption) rfl rfl (by omega)) ?_
       refine .qg rfl (.loadI on_2_A (by assumption) rfl (by omega)) ?_
       refine .qg rfl (.fieldAddr fo_27_1_B rfl) ?_
       refine .qg rfl (.load on_24_B rfl (by first | assumption | exact Mem.of_get at2 1 _ rfl)) ?_
       refine .qg rfl (.move rfl) ?_
       refine .qg rfl (.idx1 sl_24_A (by assumption) rfl rfl (by omega) (by omega)) ?_
       refine .qg rfl (.loadI on_2_A (by assumption) rfl (by omega)) ?_
       refine .qg rfl (.cmp rfl rfl rfl) (.q rfl (.pickT rfl rfl) (.mv rfl rfl ?_))
       refine .split (fun h60 => ?_) (fun h60 => ?_)
       ·
        try simp only [sps] at h60
        refine .qg rfl (.fieldAddr fo_27_4_B rfl) ?_
        refine .qg rfl (.load on_25_B rfl (by first | assumption | exact Mem.of_get at2 4 _ rfl)) ?_
        refine .qg rfl (.move rfl) ?_
        refine .qg rfl (.idxN sl_25_B (Intss.sl (by assumption)) rfl rfl (by omega)) ?_
        refine .qg rfl (.loadR on_24_B (by assumption) rfl (by omega)) ?_
        refine .qg rfl (.move rfl) ?_
        have w1 := i42.2 i (by omega)
        refine .qg rfl (.idx1 sl_24_A (by assumption) rfl rfl (by omega) (by omega)) ?_
        refine .qg rfl (.loadI on_2_A (by assumption) rfl (by omega)) ?_
        refine .qg rfl (.fieldAddr fo_27_4_B rfl) ?_
        refine .qg rfl (.load on_25_B rfl (by first | assumption | exact Mem.of_get at2 4 _ rfl)) ?_
        refine .qg rfl (.move rfl) ?_
        refine .qg rfl (.idxN sl_25_B (Intss.sl (by assumption)) rfl rfl (by omega)) ?_
        refine .qg rfl (.loadR on_24_B (by assumption) rfl (by omega)) ?_
        refine .qg rfl (.move rfl) ?_
        have w2 := i42.2 j (by omega)
        refine .qg rfl (.idx1 sl_24_A (by assumption) rfl rfl (by omega) (by omega)) ?_
        refine .qg rfl (.loadI on_2_A (by assumption) rfl (by omega)) ?_
        refine .qg rfl (.cmp rfl rfl rfl) (.q rfl (.pickT rfl rfl) ?_)
        refine .done ?_
        refine ⟨_, ⟨rfl, rfl, rfl, rfl, rfl, rfl, rfl, rfl, rfl, rfl, trivial⟩, rfl, ?_⟩
        exact ⟨fun q => by simp only [sps] at q; exact fun z => q z.2.2.2, fun q => by simp only [sps] at q; exact ⟨h34, h47, h60, q⟩⟩
       try simp only [sps] at h60
       refine .z rfl (.z rfl (.z rfl (.z rfl (.z rfl (.z rfl (.z rfl (.z rfl (.z rfl (.z rfl (.z rfl (.z rfl (.z rfl (.z rfl (.z rfl (.z rfl ?_)))))))))))))))
       refine .z rfl (.q rfl (.pickF rfl rfl) ?_)
       refine .done ?_
       refine ⟨_, ⟨rfl, rfl, rfl, rfl, rfl, rfl, rfl, rfl, rfl, rfl, trivial⟩, rfl, ?_⟩
       exact ⟨fun _ z => h60 z.2.2.1, fun q => by cases q⟩
      try simp only [sps] at h47
      refine .z rfl (.z rfl (.z rfl (.z rfl (.z rfl (.z rfl (.z rfl (.z rfl (.z rfl (.z rfl (.z rfl (.q rfl (.pickF rfl rfl) (.mv rfl rfl (.z rfl (.z rfl (.z rfl ?_)))))))))))))))
      refine .z rfl (.z rfl (.z rfl (.z rfl (.z rfl (.z rfl (.z rfl (.z rfl (.z rfl (.z rfl (.z rfl (.z rfl (.z rfl (.z rfl (.q rfl (.pickF rfl rfl) ?_))))))))))))))
      refine .done ?_
      refine ⟨_, ⟨rfl, rfl, rfl, rfl, rfl, rfl, rfl, rfl, rfl, rfl, trivial⟩, rfl, ?_⟩
      exact ⟨fun _ z => h47 z.2.1, fun q => by cases q⟩
     try simp only [sps] at h34
     refine .z rfl (.z rfl (.z rfl (.z rfl (.z rfl (.z rfl (.z rfl (.z rfl (.z rfl (.z rfl (.z rfl (.q rfl (.pickF rfl rfl) (.mv rfl rfl (.z rfl (.z rfl (.z rfl ?_)))))))))))))))
     refine .z rfl (.z rfl (.z rfl (.z rfl (.z rfl (.z rfl (.z rfl (.z rfl (.q rfl (.pickF rfl rfl) (.mv rfl rfl (.z rfl (.z rfl (.z rfl (.z rfl (.z rfl (.z rfl ?_)))))))))))))))
     refine .z rfl (.z rfl (.z rfl (.z rfl (.z rfl (.z rfl (.z rfl (.z rfl (.z rfl (.z rfl (.z rfl (.q rfl (.pickF rfl rfl) ?_)))))))))))
     refine .done ?_
     refine ⟨_, ⟨rfl, rfl, rfl, rfl, rfl, rfl, rfl, rfl, rfl, rfl, trivial⟩, rfl, ?_⟩
     exact ⟨fun _ z => h34 z.1, fun q => by cases q⟩
    rintro frJ7 _ ⟨e, hsubJ7, rfl, hJ7⟩
    refine hK11 _ _ ?_
    refine .forget hsubJ7 ?_
    refine .cond rfl (fun h78 => ?_) (fun h78 => ?_)
    ·
     try simp only [sps] at h78
     refine .seq (fun K12 hK12 => .region (.mv rfl (.nil (hK12 _ _ ?_))))
     refine .ret ?_
     refine hret _ _ ?_
     refine ⟨_, rfl, ?_⟩
     obtain ⟨z1, z2, z3, z4⟩ := hJ7.2 h78
     exact ⟨congrArg _ (B_false fun q => by have := q.all i j (by omega) (by omega) z1 z2 z3 z4; omega), hle⟩
    try simp only [sps] at h78
    refine .skip ?_
    refine hK10 _ _ (.region (.mv rfl ?_))
    refine .q rfl (.add rfl rfl rfl (by omega) (by omega)) ?_
    refine .mv rfl (.nil ?_)
    refine hKL2 (j + 1) _ _ ?_ ?_ ⟨rfl, rfl, rfl, rfl, trivial⟩
    ·
     refine ⟨rfl, ?_⟩
     refine ⟨by omega, fun b h1 h2 => ?_⟩
     by_cases e : b < j
     · exact hb b h1 e
     · obtain rfl : b = j := by omega
       exact hJ7.1 h78
    omega
   try simp only [sps] at h20
   refine .exit ?_
   refine hK6 _ _ (.region (.mv rfl ?_))
   refine .q rfl (.add rfl rfl rfl (by omega) (by omega)) ?_
   refine .mv rfl (.nil ?_)
   refine hKL1 (i + 1) _ _ ?_ ?_ ⟨rfl, rfl, rfl, trivial⟩
   ·
    refine ⟨rfl, ?_⟩
    refine ⟨by omega, fun a b h1 h2 h3 => ?_⟩
    by_cases e : a < i
    · exact ha a b e h2 h3
    · obtain rfl : a = i := by omega
      exact hb b h2 (by omega)
   omega
  try simp only [sps] at h11
  refine .exit ?_
  refine hK2 _ _ (.seq (fun K13 hK13 => .region (.mv rfl (.nil (hK13 _ _ ?_)))))
  refine .ret ?_
  refine hret _ _ ?_
  refine ⟨_, rfl, ?_⟩
  exact ⟨congrArg _ (B_true ⟨fun a b h1 h2 h3 h4 h5 h6 => Classical.byContradiction fun ne => by
    rcases Nat.lt_or_gt_of_ne ne with e | e
    · exact ha a b (by omega) e (by omega) ⟨h3, h4, h5, h6⟩
    · exact ha b a (by omega) e (by omega) ⟨h3.symm, h5, h4, h6.symm⟩⟩), hle⟩
end Go.Proofs.Ytolfggcanbpknaa
namespace Go.Proofs.Ytolfggcanbpknaa
open Go Go.GL Go.RowKit Go.Proofs
end Go.Proofs.Ytolfggcanbpknaa
namespace Go.GL
end Go.GL
namespace Go.GL
def Con.z : Con := ⟨0, []⟩
def conV (r : Nat → Option Addr) (cs : List Con) : List Value := (List.range cs.length).flatMap fun i => (cs.getD i .z).cells ⟨r i⟩
structure ConsAt (T e : TypeId) (b0 : Nat) (H : GHeap) (g : Nat) (r : Nat → Option Addr) (cs : List Con) : Prop where
  hd : H.get g = some (.row (conV r cs) T true)
  rows : OwnL b0 H e r (cs.map Con.lg)
structure GathC (T1 T2 Tx e : TypeId) (go gx b0 e0 : Nat) (x : Int) (pre : List Con) (b : Nat) (fs : List (List Int)) (gF : Nat) (H : GHeap) : Prop where
  hd : H.get go = some (.row [.slice (some ⟨gF, 0, none⟩) (pre ++ fs.map fun l => (⟨x, l⟩ : Con)).length (pre ++ fs.map fun l => (⟨x, l⟩ : Con)).length] T1 true)
  ix : H.get gx = some (.row [.int .i64 x] Tx true)
  rows : ∃ r, H.get gF = some (.row (conV r (pre ++ fs.map fun l => (⟨x, l⟩ : Con))) T2 true) ∧ OwnL b0 H e r ((pre ++ fs.map fun l => (⟨x, l⟩ : Con)).map Con.lg) ∧ ∀ i, i < (pre ++ fs.map fun l => (⟨x, l⟩ : Con)).length → ∀ g, r i = some ⟨g, 0, none⟩ → g < e0 ∨ b ≤ g
theorem take_snocZ {l : List (List Int)} {i : Nat} (h : i < l.length) : l.take (i + 1) = l.take i ++ [l.getD i []] := by
  rw [List.take_add_one, List.getElem?_eq_getElem h, List.getD_eq_getElem?_getD, List.getElem?_eq_getElem h]; rfl
end Go.GL
namespace Go.Proofs.Ytolfggcanbpknaa
open Go Go.GL Go.RowKit Go.Proofs
theorem ze_24_Hj : zeroT Try.prog 24 = some ([.slice none 0 0], 1) := by kernel_rfl
theorem by_24_Hj : (Try.prog.info? 24).map (·.bytes) = some 24 := by kernel_rfl
theorem ze_27_Hj : zeroT Try.prog 27 = some ([.int .i64 0, .slice none 0 0, .slice none 0 0, .slice none 0 0, .slice none 0 0], 5) := by kernel_rfl
theorem bt_27_Hj : buildT Try.prog 27 = some ([.int .i64 0, .slice none 0 0, .slice none 0 0, .slice none 0 0, .slice none 0 0], [(0, 1), (1, 1), (2, 1), (3, 1), (4, 1)]) := by kernel_rfl
end Go.Proofs.Ytolfggcanbpknaa
namespace Go.Proofs.Ytolfggcanbpknaa
open Go Go.GL Go.RowKit Go.Proofs
end Go.Proofs.Ytolfggcanbpknaa
namespace Go.Proofs.Ytolfggcanbpknaa
open Go Go.GL Go.RowKit Go.Proofs
theorem l02Fits_c {c : Cat} {p : CatP} {H : GHeap} (hin : c.In H p := by assumption) :
    GCalls Try.prog 109 [.agg (c.cells p).toArray] H (Ret (.bool (B (c.obj ≤ 8 ∧ c.src.length ≤ 40))) H) := by
  refine GCalls.ret rfl ?_
  refine GCalls.body (N := 12) (rs := [.tmp 2]) Try.func109 rfl rfl rfl rfl (fun Qx hret hend => ?_)
  refine .fg [0] rfl ?_
  have hle := GHeap.Le.refl H
  have base_hin := hin
  refine .seq (fun K1 hK1 => .region ?_)
  refine .R rfl (.boxR rfl sz_27_D rfl) ?_
  rintro _ H1 ⟨g1, rfl, le1, ge1, at1⟩
  replace hle := hle.trans le1
  replace hin := base_hin.mono hle
  have hb1 : Cat.At _ g1 0 c p := ⟨Mem.of_get at1, hin⟩
  obtain ⟨c01, c11, -, -, -, -, -, -, -⟩ := hb1.get
  refine .mv rfl (.nil (hK1 _ _ (.seq (fun K2 hK2 => .region (.q rfl (.fieldAddr fo_27_0_B rfl) ?_)))))
  refine .q rfl (.load on_2_A rfl (by first | assumption | exact Mem.of_get at1 0 _ rfl)) ?_
  refine .q rfl (.cmp rfl rfl rfl) (.mv rfl ?_)
  refine .split (fun h6 => ?_) (fun h6 => ?_)
  ·
   try simp only [sps] at h6
   refine .qg rfl (.fieldAddr fo_27_1_B rfl) ?_
   refine .qg rfl (.load on_24_B rfl (by first | assumption | exact Mem.of_get at1 1 _ rfl)) ?_
   refine .qg rfl (.len sl_24_A rfl) (.qg rfl (.cmp rfl rfl rfl) (.q rfl (.pickT rfl rfl) (.mv rfl (.nil (hK2 _ _ ?_)))))
   refine .ret ?_
   refine hret _ _ ?_
   refine ⟨_, rfl, ?_⟩
   exact ⟨congrArg _ (by unfold B; first | (rw [decide_eq_decide]; omega) | (rw [decide_eq_false_iff_not]; omega)), hle⟩
  try simp only [sps] at h6
  refine .z rfl (.z rfl (.z rfl (.z rfl (.q rfl (.pickF rfl rfl) (.mv rfl (.nil (hK2 _ _ ?_)))))))
  refine .ret ?_
  refine hret _ _ ?_
  refine ⟨_, rfl, ?_⟩
  exact ⟨congrArg _ (by unfold B; first | (rw [decide_eq_decide]; omega) | (rw [decide_eq_false_iff_not]; omega)), hle⟩
set_option maxHeartbeats 4000000 in
theorem l01Own2O_c {a : Option Addr} {pss : List (List Int)} {r : Nat → Option Addr} {H : GHeap} (h : Intss H a pss r := by assumption) (hl : pss.length ≤ 1048576 := by omega) (hl2 : ∀ i, (pss.getD i []).length ≤ 1048576) :
    GCalls Try.prog 125 [.slice a pss.length pss.length] H (fun v H' => H.Le H' ∧ ∃ g rr, v = .slice (some ⟨g, 0, none⟩) pss.length pss.length ∧ H'.get g = some (.row (slsL rr pss) 24 true) ∧ H.next ≤ g ∧ OwnL H.next H' 2 rr pss) := by
  refine GCalls.body (N := 21) (rs := [.tmp 2]) Try.func125 rfl rfl rfl rfl (fun Qx hret hend => ?_)
  refine .fg [0] rfl ?_
  have hle := GHeap.Le.refl H
  have base_h := h
  refine .seq (fun K1 hK1 => .region (.mv rfl (.nil (hK1 _ _ (.seq (fun K2 hK2 => .region ?_))))))
  refine .R rfl (.litA rfl sl_25_B ze_24_Hj rfl rfl rfl rfl) ?_
  rintro _ H5 ⟨g5, rfl, le5, ge5, at5⟩
  replace hle := hle.trans le5
  have lt_at5 := GHeap.ltg at5
  refine .mv rfl (.nil (hK2 _ _ (.seq (fun K3 hK3 => .seq (fun K4 hK4 => .region (.mv rfl (.nil (hK4 _ _ ?_))))))))
  refine .block ?_
  refine .loopR (σ := Nat × (Nat → Option Addr) × Nat × Nat) [(0, some _)] (fun (i, rr, gL3, nL3) => [(4, some (.int .i64 (i : Int))), (3, some (.slice (some ⟨gL3, 0, none⟩) nL3 nL3))]) (fun (i, rr, gL3, nL3) H' => St [g5] H5 H' ∧ H'.get gL3 = some (.row ((slsL rr (pss.take i))) 24 true) ∧ (gL3 = g5 ∨ H5.next ≤ gL3) ∧ nL3 = (slsL rr (pss.take i)).length ∧ i ≤ pss.length ∧ OwnL H.next H' 2 rr (pss.take i)) (fun (i, rr, gL3, nL3) => pss.length - i) ((0, fun _ => none, _, _)) ⟨rfl, trivial⟩ ⟨rfl, rfl, trivial⟩ ?_ ?_
  ·
   refine ⟨.refl _ _, by first | assumption | exact at5 | simpa using at5, .inl rfl, by first | rfl | assumption | simp | omega, ?_⟩
   exact ⟨by omega, .nil _ _ _ _⟩
  rintro ⟨i, rr, gL3, nL3⟩ HL1 ⟨lst1, at_L3, pl_L3, ln_L3, hI⟩ KL1 hKL1
  refine .forget (fr' := [(4, some (.int .i64 (i : Int))), (3, some (.slice (some ⟨gL3, 0, none⟩) nL3 nL3)), (0, some _)]) ⟨rfl, rfl, rfl, trivial⟩ ?_
  have ge_L3 : H.next ≤ gL3 := by omega
  have nx_HL1 := lst1.nx
  replace hle := hle.st lst1 (fun k hk => ⟨by omega, trivial⟩)
  have lt_at_L3 := GHeap.ltg at_L3
  replace h := base_h.mono hle
  have rk := St.refl [gL3] HL1
  obtain ⟨hi, hR⟩ := hI
  have hat3 := at_L3
  have htk : (pss.take i).length = i := by rw [List.length_take]; omega
  have hfl : (slsL rr (pss.take i)).length = (pss.take i).length := length_slsL _ _
  have hli := hl2 i
  refine .seq (fun K5 hK5 => .seq (fun K6 hK6 => .region (.mv rfl (.mv rfl (.q rfl (.len sl_25_B rfl) (.q rfl (.cmp rfl rfl rfl) (.nil (hK6 _ _ ?_))))))))
  refine .cond rfl (fun h9 => ?_) (fun h9 => ?_)
  ·
   simp only [sps] at h9
   have u1 := h.2 i (by omega)
   refine .skip ?_
   refine hK5 _ _ (.seq (fun K7 hK7 => ?_))
   refine .block ?_
   refine .region (.mv rfl (.mv rfl (.mv rfl ?_)))
   refine .q rfl (.idxN sl_25_B (Intss.sl (by assumption)) rfl rfl (by omega)) ?_
   refine .q rfl (.loadR on_24_B (by assumption) rfl (by omega)) ?_
   refine .call rfl rfl rfl rfl @Try.call102 rfl (l01Own_c) ?_
   rintro _ H17 ⟨le17, g17, rfl, at17, ge17⟩
   replace lst1 := lst1.le le17
   replace rk := rk.le le17
   replace at_L3 := le17.2 _ _ at_L3
   have lt_at17 := GHeap.ltg at17
   clear u1
   refine .R rfl (.litA rfl sl_25_B ze_24_Hj rfl rfl rfl rfl) ?_
   rintro _ H18 ⟨g18, rfl, le18, ge18, at18⟩
   replace lst1 := lst1.le le18
   replace rk := rk.le le18
   replace at_L3 := le18.2 _ _ at_L3
   replace at17 := le18.2 _ _ at17
   have lt_at18 := GHeap.ltg at18
   refine .R rfl (.appendV rfl sl_25_B ze_24_Hj rfl by_24_Hj sl_25_B rfl rfl (by assumption) (by assumption) (by first | omega | (simp <;> omega)) rfl rfl (by omega) (by omega)) ?_
   rintro _ H19 ⟨g19, rfl, st19, ge19, at19⟩
   replace lst1 := lst1.sA st19
   replace rk := rk.sA st19
   replace at17 := st19.s at17
   refine .mv rfl (.nil (hK7 _ _ (.region (.mv rfl ?_))))
   refine .q rfl (.add rfl rfl rfl (by omega) (by omega)) ?_
   refine .mv rfl (.nil ?_)
   refine hKL1 ((i + 1, upd rr (pss.take i).length (some ⟨g17, 0, none⟩), _, _)) _ _ ?_ ?_ ⟨rfl, rfl, rfl, trivial⟩
   ·
    refine ⟨lst1, by first | assumption | (rw [take_snocZ (by omega), slsL_snoc]; assumption), by omega, by first | omega | (simp only [List.length_append, List.length_cons, List.length_nil] <;> omega) | (rw [take_snocZ (by omega), slsL_snoc] <;> (first | omega | (simp only [List.length_append, List.length_cons, List.length_nil] <;> omega))), ?_⟩
    exact ⟨by omega, by rw [take_snocZ (by omega)]; exact hR.snoc (x := pss.getD i []) (rk.lasts1 hat3 rfl) (by assumption) (by omega) (by omega)⟩
   (dsimp only; omega)
  try simp only [sps] at h9
  refine .exit ?_
  refine hK3 _ _ (.seq (fun K8 hK8 => .region (.mv rfl (.mv rfl (.nil (hK8 _ _ ?_))))))
  refine .ret ?_
  refine hret _ _ ?_
  refine ⟨_, rfl, ?_⟩
  obtain rfl : i = pss.length := by omega
  rw [List.take_length] at hR at_L3 ln_L3
  exact ⟨hle, gL3, rr, by rw [ln_L3, length_slsL], at_L3, by omega, hR⟩
set_option maxHeartbeats 4000000 in
theorem l02OwnO_c {c : Cat} {p : CatP} {H : GHeap} (hin : c.In H p := by assumption) (hs : c.Small := by assumption) :
    GCalls Try.prog 111 [.agg (c.cells p).toArray] H (NewCatO 2 24 H c) := by
  obtain ⟨n1, n2, n3, n4, n5, -⟩ := hs
  refine GCalls.body (N := 18) (rs := [.cell 2 27]) Try.func111 rfl rfl rfl rfl (fun Qx hret hend => ?_)
  refine .fg [0] rfl ?_
  have hle := GHeap.Le.refl H
  have base_hin := hin
  refine .seq (fun K1 hK1 => .region ?_)
  refine .R rfl (.boxR rfl sz_27_D rfl) ?_
  rintro _ H1 ⟨g1, rfl, le1, ge1, at1⟩
  replace hle := hle.trans le1
  have lt_at1 := GHeap.ltg at1
  replace hin := base_hin.mono hle
  have hb1 : Cat.At _ g1 0 c p := ⟨Mem.of_get at1, hin⟩
  refine .R rfl (.allocR rfl ze_27_Hj rfl) ?_
  rintro _ H2 ⟨g2, rfl, le2, ge2, at2⟩
  replace hle := hle.trans le2
  replace at1 := le2.2 _ _ at1
  have lt_at2 := GHeap.ltg at2
  replace hin := base_hin.mono hle
  clear hb1
  have hb1 : Cat.At _ g1 0 c p := ⟨Mem.of_get at1, hin⟩
  obtain ⟨c01, c11, c21, c31, c41, i11, -, -, -⟩ := hb1.get
  refine .nil (hK1 _ _ (.seq (fun K2 hK2 => ?_)))
  refine .regionD mo_B (.q 0 (.q 1 (.q 2 (.q 3 (.q 5 (.q 6 (.q 8 (.q 9 (.q 11 (.q 12 (.c 4 1 (.c 7 1 (.c 10 1 (.c 13 1 (.q 14 (.c 15 0 (.done))))))))))))))))) (by kernel_rfl) ?_
  refine .q rfl (.fieldAddr fo_27_0_B rfl) ?_
  refine .q rfl (.load on_2_A rfl (by first | assumption | exact Mem.of_get at1 0 _ rfl)) ?_
  refine .q rfl (.fieldAddr fo_27_1_B rfl) ?_
  refine .q rfl (.load on_24_B rfl (by first | assumption | exact Mem.of_get at1 1 _ rfl)) ?_
  refine .q rfl (.fieldAddr fo_27_2_B rfl) ?_
  refine .q rfl (.load on_24_B rfl (by first | assumption | exact Mem.of_get at1 2 _ rfl)) ?_
  refine .q rfl (.fieldAddr fo_27_3_B rfl) ?_
  refine .q rfl (.load on_24_B rfl (by first | assumption | exact Mem.of_get at1 3 _ rfl)) ?_
  refine .q rfl (.fieldAddr fo_27_4_B rfl) ?_
  refine .q rfl (.load on_25_B rfl (by first | assumption | exact Mem.of_get at1 4 _ rfl)) ?_
  refine .call1 rfl rfl rfl rfl rfl @Try.call102 rfl (l01Own_c) ?_
  rintro _ H7 ⟨le7, g7, rfl, at7, ge7⟩
  have hbl := le7
  refine ⟨hbl, ?_⟩
  replace hle := hle.trans le7
  replace at1 := le7.2 _ _ at1
  replace at2 := le7.2 _ _ at2
  have lt_at7 := GHeap.ltg at7
  replace hin := base_hin.mono hle
  clear hb1 c01 c11 c21 c31 c41 i11
  have hb1 : Cat.At _ g1 0 c p := ⟨Mem.of_get at1, hin⟩
  obtain ⟨-, -, -, -, -, -, i21, -, -⟩ := hb1.get
  refine .call1 rfl rfl rfl rfl rfl @Try.call102 rfl (l01Own_c) ?_
  rintro _ H10 ⟨le10, g10, rfl, at10, ge10⟩
  replace hbl := hbl.trans le10
  refine ⟨hbl, ?_⟩
  replace hle := hle.trans le10
  replace at1 := le10.2 _ _ at1
  replace at2 := le10.2 _ _ at2
  replace at7 := le10.2 _ _ at7
  have lt_at10 := GHeap.ltg at10
  replace hin := base_hin.mono hle
  clear hb1 i21
  have hb1 : Cat.At _ g1 0 c p := ⟨Mem.of_get at1, hin⟩
  obtain ⟨-, -, -, -, -, -, -, i31, -⟩ := hb1.get
  refine .call1 rfl rfl rfl rfl rfl @Try.call102 rfl (l01Own_c) ?_
  rintro _ H13 ⟨le13, g13, rfl, at13, ge13⟩
  replace hbl := hbl.trans le13
  refine ⟨hbl, ?_⟩
  have nx_H13 := le13.1
  replace hle := hle.trans le13
  replace at1 := le13.2 _ _ at1
  replace at2 := le13.2 _ _ at2
  replace at7 := le13.2 _ _ at7
  replace at10 := le13.2 _ _ at10
  have lt_at13 := GHeap.ltg at13
  replace hin := base_hin.mono hle
  clear hb1 i31
  have hb1 : Cat.At _ g1 0 c p := ⟨Mem.of_get at1, hin⟩
  obtain ⟨-, -, -, -, -, -, -, -, i41⟩ := hb1.get
  refine .call1 rfl rfl rfl rfl rfl @Try.call125 rfl (l01Own2O_c (hl2 := n5)) ?_
  rintro _ H16 ⟨le16, g16, rr16, rfl, at16, ge16, v16⟩
  replace hbl := hbl.trans le16
  refine ⟨hbl, ?_⟩
  replace hle := hle.trans le16
  replace at1 := le16.2 _ _ at1
  replace at2 := le16.2 _ _ at2
  replace at7 := le16.2 _ _ at7
  replace at10 := le16.2 _ _ at10
  replace at13 := le16.2 _ _ at13
  replace hin := base_hin.mono hle
  clear hb1 i41
  have hb1 : Cat.At _ g1 0 c p := ⟨Mem.of_get at1, hin⟩
  refine .m rfl rfl rfl rfl hbl (.build bt_27_Hj rfl rfl rfl) ?_
  have hat2 := at2
  refine .r0 rfl rfl rfl (.fillA rfl sz_27_D rfl rfl rfl rfl) ?_
  rintro _ H1015 ⟨rfl, st1015, at1015⟩
  replace hle := hle.st st1015 (fun k hk => ⟨by omega, trivial⟩)
  replace at1 := st1015.s at1
  replace at7 := st1015.s at7
  replace at10 := st1015.s at10
  replace at13 := st1015.s at13
  replace at16 := st1015.s at16
  replace hin := base_hin.mono hle
  clear hb1
  have hb1 : Cat.At _ g1 0 c p := ⟨Mem.of_get at1, hin⟩
  refine .done ?_
  refine hK2 _ _ ?_
  refine .ret ?_
  refine hret _ _ ?_
  refine ⟨_, _, _, _, rfl, ag_27_D, (by rfl), (Mem.of_get at1015), ?_⟩
  exact ⟨hle, g7, g10, g13, g16, rr16, rfl, at7, at10, at13, at16, by omega, by omega, by omega, by omega, by omega, by omega, by omega, (v16.st st1015 (.cons (v16.neT hat2 rfl) (.nil _ _))).low (by omega), v16.lowNe (by omega), v16.lowNe (by omega), v16.lowNe (by omega)⟩
end Go.Proofs.Ytolfggcanbpknaa
namespace Go.Proofs.Ytolfggcanbpknaa
open Go Go.GL Go.RowKit Go.Proofs
theorem sz_2_Ch : (Try.prog.info? 2).map (·.size) = some 1 := by kernel_rfl
theorem sz_24_Ch : (Try.prog.info? 24).map (·.size) = some 1 := by kernel_rfl
theorem sz_25_Ch : (Try.prog.info? 25).map (·.size) = some 1 := by kernel_rfl
set_option maxHeartbeats 8000000 in
theorem l03Sum_c {c d : Cat} {p q : CatP} {N : Nat} {H : GHeap} (hin : c.In H p := by assumption) (hin1 : d.In H q := by assumption) (hc : c.Rect N) (hd : d.Rect N) (hN : N ≤ 100000) :
    GCalls Try.prog 107 [.agg (c.cells p).toArray, .agg (d.cells q).toArray] H (NewCatO 2 24 H (c.sum d)) := by
  obtain ⟨a1, a2, a3, -, -, a6, -, a8, a9, -⟩ := id hc
  obtain ⟨b1, b2, b3, b4, b5, b6, b7, b8, b9, b10⟩ := id hd
  refine GCalls.body (N := 142) (rs := [.cell 4 27]) Try.func107 rfl rfl rfl rfl (fun Qx hret hend => ?_)
  refine .fg [0, 1] rfl ?_
  have hle := GHeap.Le.refl H
  have base_hin := hin
  have base_hin1 := hin1
  refine .seq (fun K1 hK1 => .region ?_)
  refine .R rfl (.boxR rfl sz_27_D rfl) ?_
  rintro _ H2 ⟨g2, rfl, le2, ge2, at2⟩
  replace hle := hle.trans le2
  have lt_at2 := GHeap.ltg at2
  replace hin := base_hin.mono hle
  have hb2 : Cat.At _ g2 0 c p := ⟨Mem.of_get at2, hin⟩
  refine .R rfl (.boxR rfl sz_27_D rfl) ?_
  rintro _ H3 ⟨g3, rfl, le3, ge3, at3⟩
  replace hle := hle.trans le3
  replace at2 := le3.2 _ _ at2
  have lt_at3 := GHeap.ltg at3
  replace hin := base_hin.mono hle
  replace hin1 := base_hin1.mono hle
  clear hb2
  have hb2 : Cat.At _ g2 0 c p := ⟨Mem.of_get at2, hin⟩
  have hb3 : Cat.At _ g3 0 d q := ⟨Mem.of_get at3, hin1⟩
  refine .R rfl (.allocR rfl ze_27_Hj rfl) ?_
  rintro _ H4 ⟨g4, rfl, le4, ge4, at4⟩
  have nx_H4 := le4.1
  replace hle := hle.trans le4
  replace at2 := le4.2 _ _ at2
  replace at3 := le4.2 _ _ at3
  have lt_at4 := GHeap.ltg at4
  replace hin := base_hin.mono hle
  replace hin1 := base_hin1.mono hle
  clear hb2
  have hb2 : Cat.At _ g2 0 c p := ⟨Mem.of_get at2, hin⟩
  obtain ⟨c02, c12, -, -, -, -, -, -, -⟩ := hb2.get
  have hi2 := hb2.2
  clear hb3
  have hb3 : Cat.At _ g3 0 d q := ⟨Mem.of_get at3, hin1⟩
  refine .nil (hK1 _ _ (.seq (fun K2 hK2 => ?_)))
  refine .regionD mo_B (.q 0 (.q 1 (.q 2 (.q 3 (.q 4 (.q 5 (.q 6 (.done)))))))) (by kernel_rfl) ?_
  refine .q rfl (.fieldAddr fo_27_0_B rfl) ?_
  refine .q rfl (.load on_2_A rfl (by first | assumption | exact Mem.of_get at2 0 _ rfl)) ?_
  refine .q rfl (.fieldAddr fo_27_1_B rfl) ?_
  refine .q rfl (.load on_24_B rfl (by first | assumption | exact Mem.of_get at2 1 _ rfl)) ?_
  refine .q rfl (.len sl_24_A rfl) (.mv rfl rfl (.mv rfl rfl ?_))
  refine .done ?_
  refine hK2 _ _ (.seq (fun K3 hK3 => .region ?_))
  refine .q rfl (.loadM ag_27_D rfl ⟨rfl, Mem.of_get at2⟩) ?_
  refine .call rfl rfl rfl rfl @Try.call111 rfl (l02OwnO_c (hs := hc.small (by omega))) ?_
  rintro _ H22 ⟨le22, gF, gT, gI, gC, rr, rfl, v22⟩
  have aF := v22.a1
  have aT := v22.a2
  have aI := v22.a3
  have aC := v22.a4
  have bF := v22.b1
  have bT := v22.b2
  have bI := v22.b3
  have bC := v22.b4
  have n12 := v22.n12
  have n13 := v22.n13
  have n23 := v22.n23
  have n4 := row_ne aC aF rfl
  have n5 := row_ne aC aT rfl
  have n6 := row_ne aC aI rfl
  have rk := St.refl [gI] H22
  replace hle := hle.trans le22
  replace at2 := le22.2 _ _ at2
  replace at3 := le22.2 _ _ at3
  replace at4 := le22.2 _ _ at4
  have lt_aF := GHeap.ltg aF
  have lt_aT := GHeap.ltg aT
  have lt_aI := GHeap.ltg aI
  have lt_aC := GHeap.ltg aC
  replace hin := base_hin.mono hle
  replace hin1 := base_hin1.mono hle
  clear hb2 c02 c12 hi2
  have hb2 : Cat.At _ g2 0 c p := ⟨Mem.of_get at2, hin⟩
  clear hb3
  have hb3 : Cat.At _ g3 0 d q := ⟨Mem.of_get at3, hin1⟩
  refine .R rfl (.allocR rfl ze_27_Hj rfl) ?_
  rintro _ H7 ⟨g7, rfl, le7, ge7, at7⟩
  have nx_H7 := le7.1
  replace hle := hle.trans le7
  replace rk := rk.le le7
  replace at2 := le7.2 _ _ at2
  replace at3 := le7.2 _ _ at3
  replace at4 := le7.2 _ _ at4
  replace aF := le7.2 _ _ aF
  replace aT := le7.2 _ _ aT
  replace aI := le7.2 _ _ aI
  replace aC := le7.2 _ _ aC
  replace hin := base_hin.mono hle
  replace hin1 := base_hin1.mono hle
  clear hb2
  have hb2 : Cat.At _ g2 0 c p := ⟨Mem.of_get at2, hin⟩
  clear hb3
  have hb3 : Cat.At _ g3 0 d q := ⟨Mem.of_get at3, hin1⟩
  refine .r0 rfl rfl (.fillA rfl sz_27_D rfl rfl rfl rfl) ?_
  rintro _ H2003 ⟨rfl, st2003, at2003⟩
  have nx_H2003 := st2003.nx
  replace hle := hle.st st2003 (fun k hk => ⟨by omega, trivial⟩)
  replace rk := rk.sA st2003
  have ne_g2_g7 : NE g2 g7 := .a
  replace at2 := st2003.s at2 ne_g2_g7.ne
  have ne_g3_g7 : NE g3 g7 := .a
  replace at3 := st2003.s at3 ne_g3_g7.ne
  have ne_g4_g7 : NE g4 g7 := .a
  replace at4 := st2003.s at4 ne_g4_g7.ne
  have ne_gF_g7 : NE gF g7 := .a
  replace aF := st2003.s aF ne_gF_g7.ne
  have ne_gT_g7 : NE gT g7 := .a
  replace aT := st2003.s aT ne_gT_g7.ne
  have ne_gI_g7 : NE gI g7 := .a
  replace aI := st2003.s aI ne_gI_g7.ne
  have ne_gC_g7 : NE gC g7 := .a
  replace aC := st2003.s aC ne_gC_g7.ne
  replace hin := base_hin.mono hle
  replace hin1 := base_hin1.mono hle
  clear hb2
  have hb2 : Cat.At _ g2 0 c p := ⟨Mem.of_get at2, hin⟩
  clear hb3
  have hb3 : Cat.At _ g3 0 d q := ⟨Mem.of_get at3, hin1⟩
  obtain ⟨c03, -, -, -, -, -, -, -, -⟩ := hb3.get
  refine .nil (hK3 _ _ (.seq (fun K4 hK4 => .region (.mv rfl (.q rfl (.fieldAddr fo_27_0_B rfl) ?_)))))
  refine .q rfl (.load on_2_A rfl (by first | assumption | exact Mem.of_get at3 0 _ rfl)) ?_
  refine .q rfl (.add rfl rfl rfl (by omega) (by omega)) ?_
  refine .q rfl (.fieldAddr fo_27_0_B rfl) ?_
  refine .r0 rfl rfl (.storeR rfl sz_2_Ch rfl rfl rfl (by assumption) (by first | exact Nat.le_of_ble_eq_true rfl | (simp; done) | (simp <;> omega))) ?_
  rintro _ H3005 ⟨rfl, st3005, at3005⟩
  have nx_H3005 := st3005.nx
  replace hle := hle.st st3005 (fun k hk => ⟨by omega, trivial⟩)
  replace rk := rk.sA st3005
  replace at2 := st3005.s at2 ne_g2_g7.ne
  replace at3 := st3005.s at3 ne_g3_g7.ne
  replace at4 := st3005.s at4 ne_g4_g7.ne
  replace aF := st3005.s aF ne_gF_g7.ne
  replace aT := st3005.s aT ne_gT_g7.ne
  replace aI := st3005.s aI ne_gI_g7.ne
  replace aC := st3005.s aC ne_gC_g7.ne
  have lt_at3005 := GHeap.ltg at3005
  replace hin := base_hin.mono hle
  replace hin1 := base_hin1.mono hle
  clear hb2
  have hb2 : Cat.At _ g2 0 c p := ⟨Mem.of_get at2, hin⟩
  clear hb3 c03
  have hb3 : Cat.At _ g3 0 d q := ⟨Mem.of_get at3, hin1⟩
  try simp only [Nat.zero_add, List.set_cons_succ, List.set_cons_zero] at at3005
  refine .nil (hK4 _ _ (.seq (fun K5 hK5 => .seq (fun K6 hK6 => .region (.mv rfl (.nil (hK6 _ _ ?_)))))))
  refine .block ?_
  refine .loopR (σ := Nat × Nat) [(3, some _), (4, some _), (5, some _), (6, some _), (7, some _)] (fun (y, gLI) => [(8, some (.int .i64 (y : Int)))]) (fun (y, gLI) H' => St [gI, g7] H3005 H' ∧ H'.get gLI = some (.row (ints (c.idn ++ (d.idn.take y).map (· + (c.src.length : Int)))) 2 true) ∧ PL gLI gI H3005.next ∧ H'.get g7 = some (.row ([.int .i64 (c.obj + d.obj), .slice (some ⟨gF, 0, none⟩) c.src.length c.src.length, .slice (some ⟨gT, 0, none⟩) c.tgt.length c.tgt.length, .slice (some ⟨gLI, 0, none⟩) (c.idn.length + y) (c.idn.length + y), .slice (some ⟨gC, 0, none⟩) c.comp.length c.comp.length]) 27 true) ∧ gLI ≠ g7 ∧ (y : Int) ≤ d.obj) (fun (y, gLI) => (d.obj - y : Int).toNat) ((0, gI)) ⟨rfl, rfl, rfl, rfl, rfl, trivial⟩ ⟨rfl, trivial⟩ ?_ ?_
  ·
   refine ⟨.refl _ _, by simpa using aI, ⟨.inl rfl⟩, by assumption, by omega, ?_⟩
   omega
  rintro ⟨y, gLI⟩ HL1 ⟨lst1, at_LI, pl_LI, at_Lg7, ap1_0, hI⟩ KL1 hKL1
  refine .forget (fr' := [(8, some (.int .i64 (y : Int))), (3, some _), (4, some _), (5, some _), (6, some _), (7, some _)]) ⟨rfl, rfl, rfl, rfl, rfl, rfl, trivial⟩ ?_
  have ge_LI : H.next ≤ gLI := pl_LI.ge (by omega) (by omega)
  have nx_HL1 := lst1.nx
  replace hle := hle.st lst1 (fun k hk => ⟨by omega, by omega, trivial⟩)
  replace rk := rk.st lst1 (fun k hk ho => by simp only [out, and_true] at ho ⊢ <;> exact ⟨by first | exact ho | exact ho.1 | exact ho.2 | exact ho.2.1 | exact ho.2.2 | exact ho.2.2.1 | exact ho.2.2.2 | omega, by first | exact ho | exact ho.1 | exact ho.2 | exact ho.2.1 | exact ho.2.2 | exact ho.2.2.1 | exact ho.2.2.2 | omega⟩)
  have ne_g2_gI : NE g2 gI := .a
  replace at2 := lst1.same _ _ ⟨ne_g2_gI.ne, ne_g2_g7.ne, trivial⟩ at2
  have ne_g3_gI : NE g3 gI := .a
  replace at3 := lst1.same _ _ ⟨ne_g3_gI.ne, ne_g3_g7.ne, trivial⟩ at3
  replace at4 := lst1.same _ _ ⟨(by first | assumption | omega), ne_g4_g7.ne, trivial⟩ at4
  replace aF := lst1.same _ _ ⟨(by first | assumption | omega), ne_gF_g7.ne, trivial⟩ aF
  replace aT := lst1.same _ _ ⟨(by first | assumption | omega), ne_gT_g7.ne, trivial⟩ aT
  replace aC := lst1.same _ _ ⟨(by first | assumption | omega), ne_gC_g7.ne, trivial⟩ aC
  have lt_at_Lg7 := GHeap.ltg at_Lg7
  replace hin := base_hin.mono hle
  replace hin1 := base_hin1.mono hle
  clear hb2
  have hb2 : Cat.At _ g2 0 c p := ⟨Mem.of_get at2, hin⟩
  clear hb3
  have hb3 : Cat.At _ g3 0 d q := ⟨Mem.of_get at3, hin1⟩
  obtain ⟨c03, -, -, c33, -, -, -, i33, -⟩ := hb3.get
  have hfl : (c.idn ++ (d.idn.take y).map (· + (c.src.length : Int))).length = c.idn.length + y := by simp; omega
  refine .seq (fun K7 hK7 => .seq (fun K8 hK8 => .region (.mv rfl (.q rfl (.fieldAddr fo_27_0_B rfl) ?_))))
  refine .q rfl (.load on_2_A rfl (by first | assumption | exact Mem.of_get at3 0 _ rfl)) ?_
  refine .q rfl (.cmp rfl rfl rfl) (.nil (hK8 _ _ ?_))
  refine .cond rfl (fun h31 => ?_) (fun h31 => ?_)
  ·
   simp only [sps] at h31
   have r1 := b7 y (by omega)
   refine .skip ?_
   refine hK7 _ _ (.seq (fun K9 hK9 => ?_))
   refine .block ?_
   refine .regionD mo_B (.q 0 (.q 1 (.q 2 (.q 3 (.q 4 (.q 5 (.q 6 (.q 7 (.q 8 (.c 9 1 (.c 10 0 (.q 11 (.c 12 0 (.done)))))))))))))) (by kernel_rfl) ?_
   refine .q rfl (.fieldAddr fo_27_3_B rfl) ?_
   refine .q rfl (.load on_24_B rfl (by first | assumption | exact Mem.of_get at_Lg7 3 _ rfl)) ?_
   refine .q rfl (.fieldAddr fo_27_3_B rfl) ?_
   refine .q rfl (.load on_24_B rfl (by first | assumption | exact Mem.of_get at3 3 _ rfl)) ?_
   refine .mv rfl rfl ?_
   refine .q rfl (.idxN sl_24_A (by assumption) rfl rfl (by omega)) ?_
   refine .q rfl (.loadI on_2_A (by assumption) rfl (by omega)) ?_
   refine .mv rfl rfl ?_
   refine .q rfl (.add rfl rfl rfl (by omega) (by omega)) ?_
   refine .c1 rfl rfl rfl rfl (.litA rfl sl_24_A ze_2_L rfl rfl rfl rfl) ?_
   rintro _ H43 ⟨g43, rfl, le43, ge43, at43⟩
   have hbl := le43
   refine ⟨hbl, ?_⟩
   replace hle := hle.trans le43
   replace lst1 := lst1.le le43
   replace at2 := le43.2 _ _ at2
   replace at3 := le43.2 _ _ at3
   replace at_LI := le43.2 _ _ at_LI
   replace at_Lg7 := le43.2 _ _ at_Lg7
   have lt_at43 := GHeap.ltg at43
   replace hin := base_hin.mono hle
   replace hin1 := base_hin1.mono hle
   clear hb2
   have hb2 : Cat.At _ g2 0 c p := ⟨Mem.of_get at2, hin⟩
   clear hb3 c03 c33 i33
   have hb3 : Cat.At _ g3 0 d q := ⟨Mem.of_get at3, hin1⟩
   refine .c0 rfl rfl rfl rfl (.appendI rfl sl_24_A ze_2_L rfl by_2_L sl_24_A rfl rfl (by assumption) (by assumption) (by first | omega | (simp <;> omega)) (by omega) (by omega)) ?_
   rintro _ H44 ⟨g44, rfl, st44, ge44, at44⟩
   replace hle := hle.st st44 (fun k hk => ⟨by omega, trivial⟩)
   replace lst1 := lst1.sP st44
   replace at2 := st44.same _ _ ⟨(pl_LI.ne ne_g2_gI.ne (by omega)), trivial⟩ at2
   replace at3 := st44.same _ _ ⟨(pl_LI.ne ne_g3_gI.ne (by omega)), trivial⟩ at3
   replace at_Lg7 := st44.same _ _ ⟨(Ne.symm ap1_0), trivial⟩ at_Lg7
   replace hin := base_hin.mono hle
   replace hin1 := base_hin1.mono hle
   clear hb2
   have hb2 : Cat.At _ g2 0 c p := ⟨Mem.of_get at2, hin⟩
   clear hb3
   have hb3 : Cat.At _ g3 0 d q := ⟨Mem.of_get at3, hin1⟩
   refine .q rfl (.fieldAddr fo_27_3_B rfl) ?_
   refine .r0 rfl rfl rfl (.storeR rfl sz_24_Ch rfl rfl rfl (by assumption) (by first | exact Nat.le_of_ble_eq_true rfl | (simp; done) | (simp <;> omega))) ?_
   rintro _ H7012 ⟨rfl, st7012, at7012⟩
   replace hle := hle.st st7012 (fun k hk => ⟨by omega, trivial⟩)
   replace lst1 := lst1.sA st7012
   replace at2 := st7012.s at2 ne_g2_g7.ne
   replace at3 := st7012.s at3 ne_g3_g7.ne
   replace at44 := st7012.s at44
   replace hin := base_hin.mono hle
   replace hin1 := base_hin1.mono hle
   clear hb2
   have hb2 : Cat.At _ g2 0 c p := ⟨Mem.of_get at2, hin⟩
   clear hb3
   have hb3 : Cat.At _ g3 0 d q := ⟨Mem.of_get at3, hin1⟩
   try simp only [Nat.zero_add, List.set_cons_succ, List.set_cons_zero] at at7012
   refine .done ?_
   refine hK9 _ _ (.region (.mv rfl ?_))
   refine .q rfl (.add rfl rfl rfl (by omega) (by omega)) ?_
   refine .mv rfl (.nil ?_)
   refine hKL1 ((y + 1, g44)) _ _ ?_ ?_ ⟨rfl, rfl, rfl, rfl, rfl, rfl, trivial⟩
   ·
    refine ⟨lst1, by (rw [take_map_snoc (d := 0) (by omega), ← List.append_assoc]; assumption), by exact ⟨.inr (by omega)⟩, by assumption, by omega, ?_⟩
    omega
   (dsimp only; omega)
  try simp only [sps] at h31
  refine .exit ?_
  refine hK5 _ _ (.seq (fun K10 hK10 => .seq (fun K11 hK11 => .region ?_)))
  obtain rfl : y = d.obj.toNat := by omega
  have hI9 : (d.idn.take d.obj.toNat) = d.idn := List.take_of_length_le (by omega)
  rw [hI9] at at_LI
  have k1 := row_ne aC at_LI rfl
  have ne_gF_gLI : gF ≠ gLI := pl_LI.ne n13 (by omega)
  have ne_gT_gLI : gT ≠ gLI := pl_LI.ne n23 (by omega)
  refine .mv rfl (.nil (hK11 _ _ ?_))
  refine .block ?_
  refine .loopR (σ := Nat × (Nat → Option Addr)) [(3, some _), (4, some _), (5, some _), (6, some _), (7, some _)] (fun (f, rr) => [(9, some (.int .i64 (f : Int)))]) (fun (f, rr) H' => f ≤ c.comp.length ∧ SumSt 2 24 27 H H' c d q g3 g4 g7 gF gT gLI gC [.int .i64 0, .slice none 0 0, .slice none 0 0, .slice none 0 0, .slice none 0 0] rr f 0) (fun (f, rr) => c.comp.length - f) ((0, rr)) ⟨rfl, rfl, rfl, rfl, rfl, trivial⟩ ⟨rfl, trivial⟩ ?_ ?_
  ·
   refine ⟨by omega, hle, by omega, ?_, at4, at_Lg7, aF, aT, at_LI, by rw [extL_zero]; exact aC, by rw [extL_zero]; exact (v22.rows.st rk (.cons v22.r3 (.nil _ _))).low (by omega), v22.r1, v22.r2, ?_⟩
   · assumption
   · exact fun i hi e => by
       obtain ⟨x, h1, h2, h3⟩ := v22.rows.row i hi
       rw [h1] at e
       cases e
       have := GHeap.ltg h3
       exact pl_LI.ne (fun e => v22.r3 i hi (by rw [h1, e])) (by omega) rfl
  rintro ⟨f, rr⟩ HL2 hI KL2 hKL2
  refine .forget (fr' := [(9, some (.int .i64 (f : Int))), (3, some _), (4, some _), (5, some _), (6, some _), (7, some _)]) ⟨rfl, rfl, rfl, rfl, rfl, rfl, trivial⟩ ?_
  obtain ⟨hf, hS⟩ := hI
  obtain ⟨hle, bC, aD, aR, aS, aF, aT, aI, aC, hR, hr1, hr2, hr3⟩ := id hS
  have nx_HL2 := hle.1
  have lt_aD := GHeap.ltg aD
  have lt_aR := GHeap.ltg aR
  have lt_aF := GHeap.ltg aF
  have lt_aI := GHeap.ltg aI
  replace hin1 := base_hin1.mono hle
  have hb3 : Cat.At _ g3 0 d q := ⟨Mem.of_get aD, hin1⟩
  refine .seq (fun K12 hK12 => .seq (fun K13 hK13 => .region (.mv rfl (.q rfl (.fieldAddr fo_27_4_B rfl) ?_))))
  refine .q rfl (.load on_25_B rfl (by first | assumption | exact Mem.of_get aS 4 _ rfl)) ?_
  refine .q rfl (.len sl_25_B rfl) (.q rfl (.cmp rfl rfl rfl) (.nil (hK13 _ _ ?_)))
  refine .cond rfl (fun h50 => ?_) (fun h50 => ?_)
  ·
   simp only [sps] at h50
   refine .skip ?_
   refine hK12 _ _ (.seq (fun K14 hK14 => ?_))
   refine .block ?_
   refine .seq (fun K15 hK15 => .region (.mv rfl (.nil (hK15 _ _ ?_))))
   refine .block ?_
   refine .loopR (σ := Nat × (Nat → Option Addr)) [(3, some _), (4, some _), (5, some _), (6, some _), (7, some _), (9, some _)] (fun (j, r2) => [(10, some (.int .i64 (j : Int)))]) (fun (j, r2) H' => j ≤ d.src.length ∧ SumSt 2 24 27 H H' c d q g3 g4 g7 gF gT gLI gC [.int .i64 0, .slice none 0 0, .slice none 0 0, .slice none 0 0, .slice none 0 0] r2 f j) (fun (j, r2) => d.src.length - j) ((0, rr)) ⟨rfl, rfl, rfl, rfl, rfl, rfl, trivial⟩ ⟨rfl, trivial⟩ ?_ ?_
   ·
    exact ⟨by omega, hS⟩
   rintro ⟨j, r2⟩ HL3 hI KL3 hKL3
   refine .forget (fr' := [(10, some (.int .i64 (j : Int))), (3, some _), (4, some _), (5, some _), (6, some _), (7, some _), (9, some _)]) ⟨rfl, rfl, rfl, rfl, rfl, rfl, rfl, trivial⟩ ?_
   obtain ⟨hj, hS⟩ := hI
   obtain ⟨-, -, aD, aR, aS, -, -, aI, aC, hR, -, -, -⟩ := id hS
   have hel := extL_len (xss := c.comp) (k := d.src.length) (f := f) (j := j) (i := f) hj (by omega)
   have hrow := a9 f (by omega)
   refine .seq (fun K16 hK16 => .seq (fun K17 hK17 => .region (.mv rfl (.q rfl (.fieldAddr fo_27_1_B rfl) ?_))))
   refine .q rfl (.load on_24_B rfl (by first | assumption | exact Mem.of_get aD 1 _ rfl)) ?_
   refine .q rfl (.len sl_24_A rfl) (.q rfl (.cmp rfl rfl rfl) (.nil (hK17 _ _ ?_)))
   refine .cond rfl (fun h57 => ?_) (fun h57 => ?_)
   ·
    simp only [sps] at h57
    obtain ⟨gi, hgi, -, hati0⟩ := hR.row f (by rw [length_extL]; omega)
    have hati := hati0
    have m1 := row_ne aS hati rfl
    have m3 := row_ne aC hati rfl
    refine .skip ?_
    refine hK16 _ _ (.seq (fun K18 hK18 => ?_))
    refine .block ?_
    refine .regionDB mo_B (.q 0 (.q 1 (.q 2 (.q 3 (.q 4 (.q 5 (.q 6 (.q 7 (.c 8 1 (.c 9 1 (.q 10 (.c 11 0 (.done))))))))))))) (by kernel_rfl) (GHeap.le_erase HL3 gi) ?_
    have hbl := GHeap.le_erase HL3 gi
    have aSB := GHeap.get_erase_of aS m1
    have aCB := GHeap.get_erase_of aC m3
    have cC := slsL_cell aCB (i := f) (by rw [length_extL]; omega)
    rw [hgi] at cC
    refine .qB rfl hbl (.fieldAddr fo_27_4_B rfl) (.qB rfl hbl (.load on_25_B rfl (Mem.of_get aSB 4 _ rfl)) (.qB rfl hbl (.move rfl) (.qB rfl hbl (.fieldAddr fo_27_4_B rfl) (.qB rfl hbl (.load on_25_B rfl (Mem.of_get aSB 4 _ rfl)) (.qB rfl hbl (.move rfl) ?_)))))
    refine .qB rfl hbl (.idxN sl_25_B (SlA.of_row aCB (by simp)) rfl rfl (by omega)) ?_
    refine .qB rfl hbl (.load on_24_B rfl cC) ?_
    refine .c1 rfl rfl rfl rfl (.litA rfl sl_24_A ze_2_L rfl rfl rfl rfl) ?_
    rintro _ H68 ⟨g68, rfl, le68, ge68, at68⟩
    replace hbl := hbl.trans le68
    refine ⟨hbl, ?_⟩
    replace aC := le68.2 _ _ aC
    replace hati := le68.2 _ _ hati
    refine .c1 rfl rfl rfl rfl (.appendI rfl sl_24_A ze_2_L rfl by_2_L sl_24_A rfl rfl (by assumption) (by assumption) (by first | omega | (simp <;> omega)) (by omega) (by omega)) ?_
    rintro _ H69 ⟨g69, rfl, st69, ge69, at69⟩
    refine ⟨(hbl.erase_st st69), ?_⟩
    replace aC := st69.s aC
    replace hbl := hbl.erase_st st69
    refine .qB rfl hbl (.idxN sl_25_B (SlA.of_row aCB (by simp)) rfl rfl (by omega)) ?_
    have at69s := at69
    refine .r0 rfl rfl rfl (.storeR rfl sz_24_Ch rfl rfl rfl (by assumption) (by first | exact Nat.le_of_ble_eq_true rfl | (simp; done) | (simp <;> omega))) ?_
    rintro _ H14011 ⟨rfl, st14011, at14011⟩
    rw [Nat.zero_add] at at14011
    refine .done ?_
    refine hK18 _ _ (.region (.mv rfl ?_))
    refine .q rfl (.add rfl rfl rfl (by omega) (by omega)) ?_
    refine .mv rfl (.nil ?_)
    refine hKL3 ((j + 1, upd r2 f (some ⟨g69, 0, none⟩))) _ _ ?_ ?_ ⟨rfl, rfl, rfl, rfl, rfl, rfl, rfl, trivial⟩
    ·
     exact ⟨by omega, hS.app rfl rfl rfl (by omega) hati0 hgi le68 st69 ge69 at69s st14011 at14011 rfl⟩
    (dsimp only; omega)
   try simp only [sps] at h57
   refine .exit ?_
   refine hK14 _ _ (.region (.mv rfl ?_))
   refine .q rfl (.add rfl rfl rfl (by omega) (by omega)) ?_
   refine .mv rfl (.nil ?_)
   refine hKL2 ((f + 1, r2)) _ _ ?_ ?_ ⟨rfl, rfl, rfl, rfl, rfl, rfl, trivial⟩
   ·
    obtain rfl : j = d.src.length := by omega
    exact ⟨by omega, hS.next⟩
   (dsimp only; omega)
  try simp only [sps] at h50
  refine .exit ?_
  refine hK10 _ _ (.seq (fun K19 hK19 => .seq (fun K20 hK20 => .region ?_)))
  obtain rfl : f = c.comp.length := by omega
  rw [Cat.extL_all] at aC hR
  have ne_g3_gF := row_ne aD aF rfl
  have ne_g3_gT := row_ne aD aT rfl
  have ne_g3_gC := row_ne aD aC rfl
  have ne_g4_gF := row_ne aR aF rfl
  have ne_gLI_g4 := row_ne aI aR rfl
  have ne_g4_gT := row_ne aR aT rfl
  have ne_g4_gC := row_ne aR aC rfl
  have ne_g7_gF := row_ne aS aF rfl
  have ne_g7_gT := row_ne aS aT rfl
  have ne_g7_gC := row_ne aS aC rfl
  refine .mv rfl (.nil (hK20 _ _ ?_))
  refine .block ?_
  refine .loopR (σ := Nat × (Nat → Option Addr) × Nat × Nat × Nat) [(3, some _), (4, some _), (5, some _), (6, some _), (7, some _)] (fun (i, r3, gLF, gLT, gLC) => [(11, some (.int .i64 (i : Int)))]) (fun (i, r3, gLF, gLT, gLC) H' => St [gF, gT, gC, g7] HL2 H' ∧ H'.get gLF = some (.row (ints (c.src ++ (d.src.take i).map (· + c.obj))) 2 true) ∧ PL gLF gF HL2.next ∧ H'.get gLT = some (.row (ints (c.tgt ++ (d.tgt.take i).map (· + c.obj))) 2 true) ∧ PL gLT gT HL2.next ∧ H'.get gLC = some (.row ((slsL r3 (c.sumL d ++ (d.comp.take i).map (sumRow c.src.length)))) 24 true) ∧ PL gLC gC HL2.next ∧ H'.get g7 = some (.row ([.int .i64 (c.obj + d.obj), .slice (some ⟨gLF, 0, none⟩) (c.src.length + i) (c.src.length + i), .slice (some ⟨gLT, 0, none⟩) (c.tgt.length + i) (c.tgt.length + i), .slice (some ⟨gLI, 0, none⟩) (c.idn.length + d.obj.toNat) (c.idn.length + d.obj.toNat), .slice (some ⟨gLC, 0, none⟩) (c.comp.length + i) (c.comp.length + i)]) 27 true) ∧ gLF ≠ gLT ∧ gLF ≠ gLC ∧ gLF ≠ g7 ∧ gLT ≠ gLC ∧ gLT ≠ g7 ∧ gLC ≠ g7 ∧ i ≤ d.src.length ∧ OwnL H.next H' 2 r3 (c.sumL d ++ (d.comp.take i).map (sumRow c.src.length)) ∧ (∀ j, j < (c.sumL d ++ (d.comp.take i).map (sumRow c.src.length)).length → r3 j ≠ some ⟨gLF, 0, none⟩) ∧ (∀ j, j < (c.sumL d ++ (d.comp.take i).map (sumRow c.src.length)).length → r3 j ≠ some ⟨gLT, 0, none⟩) ∧ ∀ j, j < (c.sumL d ++ (d.comp.take i).map (sumRow c.src.length)).length → r3 j ≠ some ⟨gLI, 0, none⟩) (fun (i, r3, gLF, gLT, gLC) => d.src.length - i) ((0, rr, gF, gT, gC)) ⟨rfl, rfl, rfl, rfl, rfl, trivial⟩ ⟨rfl, trivial⟩ ?_ ?_
  ·
   refine ⟨.refl _ _, by simpa using aF, ⟨.inl rfl⟩, by simpa using aT, ⟨.inl rfl⟩, by simpa using aC, ⟨.inl rfl⟩, by assumption, by omega, by omega, by omega, by omega, by omega, by omega, ?_⟩
   have e0 : c.sumL d ++ (d.comp.take 0).map (sumRow c.src.length) = c.sumL d := by simp
   rw [e0]
   have e1 : (c.sumL d).length = c.comp.length := by simp [Cat.sumL]
   exact ⟨by omega, hR, fun j hj => hr1 j (by omega), fun j hj => hr2 j (by omega), fun j hj => hr3 j (by omega)⟩
  rintro ⟨i, r3, gLF, gLT, gLC⟩ HL4 ⟨lst4, at_LF, pl_LF, at_LT, pl_LT, at_LC, pl_LC, at_Lg7, ap4_0, ap4_1, ap4_2, ap4_3, ap4_4, ap4_5, hI⟩ KL4 hKL4
  refine .forget (fr' := [(11, some (.int .i64 (i : Int))), (3, some _), (4, some _), (5, some _), (6, some _), (7, some _)]) ⟨rfl, rfl, rfl, rfl, rfl, rfl, trivial⟩ ?_
  have ge_LF : H.next ≤ gLF := pl_LF.ge (by omega) (by omega)
  have ge_LT : H.next ≤ gLT := pl_LT.ge (by omega) (by omega)
  have ge_LC : H.next ≤ gLC := pl_LC.ge (by omega) (by omega)
  have nx_HL4 := lst4.nx
  replace hle := hle.st lst4 (fun k hk => ⟨by omega, by omega, by omega, by omega, trivial⟩)
  have ne_g3_gF : NE g3 gF := .a
  have ne_g3_gT : NE g3 gT := .a
  have ne_g3_gC : NE g3 gC := .a
  have ne_g3_g7 : NE g3 g7 := .a
  replace aD := lst4.same _ _ ⟨ne_g3_gF.ne, ne_g3_gT.ne, ne_g3_gC.ne, ne_g3_g7.ne, trivial⟩ aD
  have ne_g4_gF : NE g4 gF := .a
  have ne_g4_gT : NE g4 gT := .a
  have ne_g4_gC : NE g4 gC := .a
  have ne_g4_g7 : NE g4 g7 := .a
  replace aR := lst4.same _ _ ⟨ne_g4_gF.ne, ne_g4_gT.ne, ne_g4_gC.ne, ne_g4_g7.ne, trivial⟩ aR
  have ne_gLI_gF : NE gLI gF := .a
  have ne_gLI_g7 : NE gLI g7 := .a
  replace aI := lst4.same _ _ ⟨ne_gLI_gF.ne, (by first | assumption | omega), (by first | assumption | omega), ne_gLI_g7.ne, trivial⟩ aI
  have lt_at_LF := GHeap.ltg at_LF
  have lt_at_LT := GHeap.ltg at_LT
  have lt_at_LC := GHeap.ltg at_LC
  have lt_at_Lg7 := GHeap.ltg at_Lg7
  replace hin1 := base_hin1.mono hle
  clear hb3
  have hb3 : Cat.At _ g3 0 d q := ⟨Mem.of_get aD, hin1⟩
  obtain ⟨-, c13, -, -, -, i13, -, -, -⟩ := hb3.get
  have rk := St.refl [gLF, gLT, gLC, g7] HL4
  obtain ⟨hi, hR, hF, hT, hId⟩ := hI
  have hatC := at_LC
  have nFI : gLI ≠ gLF := pl_LF.ne (Ne.symm ne_gF_gLI) (by omega)
  have nTI : gLI ≠ gLT := pl_LT.ne (Ne.symm ne_gT_gLI) (by omega)
  have hat7 := at_Lg7
  have hql : (c.sumL d ++ (d.comp.take i).map (sumRow c.src.length)).length = c.comp.length + i := by simp [Cat.sumL]; omega
  have hl1 : (c.src ++ (d.src.take i).map (· + c.obj)).length = c.src.length + i := by simp; omega
  have hl2 : (c.tgt ++ (d.tgt.take i).map (· + c.obj)).length = c.tgt.length + i := by simp; omega
  have hfl : (slsL r3 (c.sumL d ++ (d.comp.take i).map (sumRow c.src.length))).length = c.comp.length + i := by rw [length_slsL, hql]
  refine .seq (fun K21 hK21 => .seq (fun K22 hK22 => .region (.mv rfl (.q rfl (.fieldAddr fo_27_1_B rfl) ?_))))
  refine .q rfl (.load on_24_B rfl (by first | assumption | exact Mem.of_get aD 1 _ rfl)) ?_
  refine .q rfl (.len sl_24_A rfl) (.q rfl (.cmp rfl rfl rfl) (.nil (hK22 _ _ ?_)))
  refine .cond rfl (fun h75 => ?_) (fun h75 => ?_)
  ·
   simp only [sps] at h75
   have q1 := b4 i (by omega)
   have q2 := b5 i (by omega)
   have q3 := b9 i (by omega)
   refine .skip ?_
   refine hK21 _ _ (.seq (fun K23 hK23 => ?_))
   refine .block ?_
   refine .seq (fun K24 hK24 => ?_)
   refine .regionD mo_B (.q 0 (.q 1 (.q 2 (.q 3 (.q 4 (.q 5 (.q 6 (.q 7 (.q 8 (.c 9 1 (.c 10 0 (.q 11 (.c 12 0 (.done)))))))))))))) (by kernel_rfl) ?_
   refine .q rfl (.fieldAddr fo_27_1_B rfl) ?_
   refine .q rfl (.load on_24_B rfl (by first | assumption | exact Mem.of_get at_Lg7 1 _ rfl)) ?_
   refine .q rfl (.fieldAddr fo_27_1_B rfl) ?_
   refine .q rfl (.load on_24_B rfl (by first | assumption | exact Mem.of_get aD 1 _ rfl)) ?_
   refine .mv rfl rfl ?_
   refine .q rfl (.idxN sl_24_A (by assumption) rfl rfl (by omega)) ?_
   refine .q rfl (.loadI on_2_A (by assumption) rfl (by omega)) ?_
   refine .mv rfl rfl ?_
   refine .q rfl (.add rfl rfl rfl (by omega) (by omega)) ?_
   refine .c1 rfl rfl rfl rfl (.litA rfl sl_24_A ze_2_L rfl rfl rfl rfl) ?_
   rintro _ H87 ⟨g87, rfl, le87, ge87, at87⟩
   have hbl := le87
   refine ⟨hbl, ?_⟩
   replace hle := hle.trans le87
   replace lst4 := lst4.le le87
   replace rk := rk.le le87
   replace aD := le87.2 _ _ aD
   replace aR := le87.2 _ _ aR
   replace aI := le87.2 _ _ aI
   replace at_LF := le87.2 _ _ at_LF
   replace at_LT := le87.2 _ _ at_LT
   replace at_LC := le87.2 _ _ at_LC
   replace at_Lg7 := le87.2 _ _ at_Lg7
   have lt_at87 := GHeap.ltg at87
   replace hin1 := base_hin1.mono hle
   clear hb3 c13 i13
   have hb3 : Cat.At _ g3 0 d q := ⟨Mem.of_get aD, hin1⟩
   refine .c0 rfl rfl rfl rfl (.appendI rfl sl_24_A ze_2_L rfl by_2_L sl_24_A rfl rfl (by assumption) (by assumption) (by first | omega | (simp <;> omega)) (by omega) (by omega)) ?_
   rintro _ H88 ⟨g88, rfl, st88, ge88, at88⟩
   replace hle := hle.st st88 (fun k hk => ⟨by omega, trivial⟩)
   replace lst4 := lst4.sP st88
   replace rk := rk.sP st88
   replace aD := st88.same _ _ ⟨(pl_LF.ne ne_g3_gF.ne (by omega)), trivial⟩ aD
   have ne_g4_gLF : NE g4 gLF := ⟨pl_LF.ne ne_g4_gF.ne (by omega)⟩
   replace aR := st88.s aR ne_g4_gLF.ne
   replace aI := st88.same _ _ ⟨(pl_LF.ne ne_gLI_gF.ne (by omega)), trivial⟩ aI
   replace at_LT := st88.same _ _ ⟨(Ne.symm ap4_0), trivial⟩ at_LT
   replace at_LC := st88.same _ _ ⟨(Ne.symm ap4_1), trivial⟩ at_LC
   replace at_Lg7 := st88.same _ _ ⟨(Ne.symm ap4_2), trivial⟩ at_Lg7
   replace at87 := st88.s at87
   have lt_at88 := GHeap.ltg at88
   replace hin := base_hin.mono hle
   replace hin1 := base_hin1.mono hle
   clear hb3
   have hb3 : Cat.At _ g3 0 d q := ⟨Mem.of_get aD, hin1⟩
   obtain ⟨c03, c13, c23, c33, c43, i13, i23, i33, i43⟩ := hb3.get
   have hm3 : MemN _ _ _ _ _ := ⟨rfl, hb3.1⟩
   have hi3 := hb3.2
   refine .q rfl (.fieldAddr fo_27_1_B rfl) ?_
   refine .r0 rfl rfl rfl (.storeR rfl sz_24_Ch rfl rfl rfl (by assumption) (by first | exact Nat.le_of_ble_eq_true rfl | (simp; done) | (simp <;> omega))) ?_
   rintro _ H18012 ⟨rfl, st18012, at18012⟩
   have nx_H18012 := st18012.nx
   replace hle := hle.st st18012 (fun k hk => ⟨by omega, trivial⟩)
   replace lst4 := lst4.sA st18012
   replace rk := rk.sA st18012
   replace aD := st18012.s aD ne_g3_g7.ne
   replace aR := st18012.s aR ne_g4_g7.ne
   replace aI := st18012.s aI ne_gLI_g7.ne
   replace at_LT := st18012.same _ _ ⟨ap4_4, trivial⟩ at_LT
   replace at_LC := st18012.same _ _ ⟨ap4_5, trivial⟩ at_LC
   replace at87 := st18012.s at87
   have ne_g88_g7 : NE g88 g7 := .a
   replace at88 := st18012.s at88 ne_g88_g7.ne
   have lt_at18012 := GHeap.ltg at18012
   replace hin := base_hin.mono hle
   replace hin1 := base_hin1.mono hle
   clear hb3 c03 c13 c23 c33 c43 i13 i23 i33 i43 hm3 hi3
   have hb3 : Cat.At _ g3 0 d q := ⟨Mem.of_get aD, hin1⟩
   obtain ⟨c03, c13, c23, c33, c43, i13, i23, i33, i43⟩ := hb3.get
   have hm3 : MemN _ _ _ _ _ := ⟨rfl, hb3.1⟩
   have hi3 := hb3.2
   try simp only [Nat.zero_add, List.set_cons_succ, List.set_cons_zero] at at18012
   refine .done ?_
   refine hK24 _ _ (.seq (fun K25 hK25 => ?_))
   refine .regionD mo_B (.q 0 (.q 1 (.q 2 (.q 3 (.q 4 (.q 5 (.q 6 (.q 7 (.q 8 (.c 9 1 (.c 10 0 (.q 11 (.c 12 0 (.done)))))))))))))) (by kernel_rfl) ?_
   refine .q rfl (.fieldAddr fo_27_2_B rfl) ?_
   refine .q rfl (.load on_24_B rfl (by first | assumption | exact Mem.of_get at18012 2 _ rfl)) ?_
   refine .q rfl (.fieldAddr fo_27_2_B rfl) ?_
   refine .q rfl (.load on_24_B rfl (by first | assumption | exact Mem.of_get aD 2 _ rfl)) ?_
   refine .mv rfl rfl ?_
   refine .q rfl (.idxN sl_24_A (by assumption) rfl rfl (by omega)) ?_
   refine .q rfl (.loadI on_2_A (by assumption) rfl (by omega)) ?_
   refine .mv rfl rfl ?_
   refine .q rfl (.add rfl rfl rfl (by omega) (by omega)) ?_
   refine .c1 rfl rfl rfl rfl (.litA rfl sl_24_A ze_2_L rfl rfl rfl rfl) ?_
   rintro _ H99 ⟨g99, rfl, le99, ge99, at99⟩
   have hbl := le99
   refine ⟨hbl, ?_⟩
   have nx_H99 := le99.1
   replace hle := hle.trans le99
   replace lst4 := lst4.le le99
   replace rk := rk.le le99
   replace aD := le99.2 _ _ aD
   replace aR := le99.2 _ _ aR
   replace aI := le99.2 _ _ aI
   replace at_LT := le99.2 _ _ at_LT
   replace at_LC := le99.2 _ _ at_LC
   replace at87 := le99.2 _ _ at87
   replace at88 := le99.2 _ _ at88
   replace at18012 := le99.2 _ _ at18012
   have lt_at99 := GHeap.ltg at99
   replace hin := base_hin.mono hle
   replace hin1 := base_hin1.mono hle
   clear hb3 c03 c13 c23 c33 c43 i13 i23 i33 i43 hm3 hi3
   have hb3 : Cat.At _ g3 0 d q := ⟨Mem.of_get aD, hin1⟩
   obtain ⟨c03, c13, c23, c33, c43, i13, i23, i33, i43⟩ := hb3.get
   have hm3 : MemN _ _ _ _ _ := ⟨rfl, hb3.1⟩
   have hi3 := hb3.2
   refine .c0 rfl rfl rfl rfl (.appendI rfl sl_24_A ze_2_L rfl by_2_L sl_24_A rfl rfl (by assumption) (by assumption) (by first | omega | (simp <;> omega)) (by omega) (by omega)) ?_
   rintro _ H100 ⟨g100, rfl, st100, ge100, at100⟩
   replace hle := hle.st st100 (fun k hk => ⟨by omega, trivial⟩)
   replace lst4 := lst4.sP st100
   replace rk := rk.sP st100
   replace aD := st100.same _ _ ⟨(pl_LT.ne ne_g3_gT.ne (by omega)), trivial⟩ aD
   replace at_LC := st100.same _ _ ⟨(Ne.symm ap4_3), trivial⟩ at_LC
   replace at88 := st100.s at88
   replace at18012 := st100.same _ _ ⟨(Ne.symm ap4_4), trivial⟩ at18012
   have lt_at100 := GHeap.ltg at100
   replace hin1 := base_hin1.mono hle
   clear hb3 c03 c13 c23 c33 c43 i13 i23 i33 i43 hm3 hi3
   have hb3 : Cat.At _ g3 0 d q := ⟨Mem.of_get aD, hin1⟩
   refine .q rfl (.fieldAddr fo_27_2_B rfl) ?_
   refine .r0 rfl rfl rfl (.storeR rfl sz_24_Ch rfl rfl rfl (by assumption) (by first | exact Nat.le_of_ble_eq_true rfl | (simp; done) | (simp <;> omega))) ?_
   rintro _ H19012 ⟨rfl, st19012, at19012⟩
   have nx_H19012 := st19012.nx
   replace hle := hle.st st19012 (fun k hk => ⟨by omega, trivial⟩)
   replace lst4 := lst4.sA st19012
   replace rk := rk.sA st19012
   replace aD := st19012.s aD ne_g3_g7.ne
   replace at_LC := st19012.same _ _ ⟨ap4_5, trivial⟩ at_LC
   replace at88 := st19012.s at88 ne_g88_g7.ne
   have ne_g100_g7 : NE g100 g7 := .a
   replace at100 := st19012.s at100 ne_g100_g7.ne
   have lt_at19012 := GHeap.ltg at19012
   replace hin1 := base_hin1.mono hle
   clear hb3
   have hb3 : Cat.At _ g3 0 d q := ⟨Mem.of_get aD, hin1⟩
   try simp only [Nat.zero_add, List.set_cons_succ, List.set_cons_zero] at at19012
   refine .done ?_
   refine hK25 _ _ (.seq (fun K26 hK26 => .region ?_))
   refine .R rfl (.litA rfl sl_24_A ze_2_L rfl rfl rfl rfl) ?_
   rintro _ H102 ⟨g102, rfl, le102, ge102, at102⟩
   replace hle := hle.trans le102
   replace lst4 := lst4.le le102
   replace rk := rk.le le102
   replace aD := le102.2 _ _ aD
   replace at_LC := le102.2 _ _ at_LC
   replace at88 := le102.2 _ _ at88
   replace at100 := le102.2 _ _ at100
   replace at19012 := le102.2 _ _ at19012
   have lt_at102 := GHeap.ltg at102
   replace hin1 := base_hin1.mono hle
   clear hb3
   have hb3 : Cat.At _ g3 0 d q := ⟨Mem.of_get aD, hin1⟩
   replace at102 : GHeap.get H102 g102 = some (.row (ints []) 2 true) := at102
   refine .mv rfl (.nil (hK26 _ _ (.seq (fun K27 hK27 => .seq (fun K28 hK28 => .region (.mv rfl (.nil (hK28 _ _ ?_))))))))
   refine .block ?_
   refine .loopR (σ := Nat × Nat × Nat) [(3, some _), (4, some _), (5, some _), (6, some _), (7, some _), (11, some _)] (fun (j, gL12, nL12) => [(13, some (.int .i64 (j : Int))), (12, some (.slice (some ⟨gL12, 0, none⟩) nL12 nL12))]) (fun (j, gL12, nL12) H' => St [g102] H102 H' ∧ H'.get gL12 = some (.row (ints (List.replicate j (-1))) 2 true) ∧ PL gL12 g102 H102.next ∧ nL12 = (List.replicate j (-1)).length ∧ j ≤ c.src.length) (fun (j, gL12, nL12) => c.src.length - j) ((0, _, _)) ⟨rfl, rfl, rfl, rfl, rfl, rfl, trivial⟩ ⟨rfl, rfl, trivial⟩ ?_ ?_
   ·
    refine ⟨.refl _ _, by assumption, ⟨.inl rfl⟩, by rfl, ?_⟩
    omega
   rintro ⟨j, gL12, nL12⟩ HL5 ⟨lst5, at_L12, pl_L12, ln_L12, hI⟩ KL5 hKL5
   refine .forget (fr' := [(13, some (.int .i64 (j : Int))), (12, some (.slice (some ⟨gL12, 0, none⟩) nL12 nL12)), (3, some _), (4, some _), (5, some _), (6, some _), (7, some _), (11, some _)]) ⟨rfl, rfl, rfl, rfl, rfl, rfl, rfl, rfl, trivial⟩ ?_
   have ge_L12 : H.next ≤ gL12 := pl_L12.ge (by omega) (by omega)
   have nx_HL5 := lst5.nx
   replace hle := hle.st lst5 (fun k hk => ⟨by omega, trivial⟩)
   replace lst4 := lst4.sA lst5
   replace rk := rk.sA lst5
   have ne_g3_g102 : NE g3 g102 := .a
   replace aD := lst5.s aD ne_g3_g102.ne
   have ne_gLC_g102 : NE gLC g102 := .a
   replace at_LC := lst5.s at_LC ne_gLC_g102.ne
   have ne_g88_g102 : NE g88 g102 := .a
   replace at88 := lst5.s at88 ne_g88_g102.ne
   have ne_g100_g102 : NE g100 g102 := .a
   replace at100 := lst5.s at100 ne_g100_g102.ne
   have ne_g7_g102 : NE g7 g102 := .a
   replace at19012 := lst5.s at19012 ne_g7_g102.ne
   have lt_at_L12 := GHeap.ltg at_L12
   replace hin1 := base_hin1.mono hle
   clear hb3
   have hb3 : Cat.At _ g3 0 d q := ⟨Mem.of_get aD, hin1⟩
   have hz : (List.replicate j (-1 : Int)).length = j := List.length_replicate
   refine .seq (fun K29 hK29 => .seq (fun K30 hK30 => .region (.mv rfl (.mv rfl (.q rfl (.cmp rfl rfl rfl) (.nil (hK30 _ _ ?_)))))))
   refine .cond rfl (fun h105 => ?_) (fun h105 => ?_)
   ·
    simp only [sps] at h105
    refine .skip ?_
    refine hK29 _ _ (.seq (fun K31 hK31 => ?_))
    refine .block ?_
    refine .region (.mv rfl ?_)
    refine .R rfl (.litA rfl sl_24_A ze_2_L rfl rfl rfl rfl) ?_
    rintro _ H109 ⟨g109, rfl, le109, ge109, at109⟩
    replace hle := hle.trans le109
    replace lst5 := lst5.le le109
    replace aD := le109.2 _ _ aD
    replace at_L12 := le109.2 _ _ at_L12
    have lt_at109 := GHeap.ltg at109
    replace hin1 := base_hin1.mono hle
    clear hb3
    have hb3 : Cat.At _ g3 0 d q := ⟨Mem.of_get aD, hin1⟩
    refine .R rfl (.appendI rfl sl_24_A ze_2_L rfl by_2_L sl_24_A rfl rfl (by assumption) (by assumption) (by first | omega | (simp <;> omega)) (by omega) (by omega)) ?_
    rintro _ H110 ⟨g110, rfl, st110, ge110, at110⟩
    replace hle := hle.st st110 (fun k hk => ⟨by omega, trivial⟩)
    replace lst5 := lst5.sP st110
    have ne_g3_gL12 : NE g3 gL12 := ⟨pl_L12.ne ne_g3_g102.ne (by omega)⟩
    replace aD := st110.s aD ne_g3_gL12.ne
    replace hin1 := base_hin1.mono hle
    clear hb3
    have hb3 : Cat.At _ g3 0 d q := ⟨Mem.of_get aD, hin1⟩
    refine .mv rfl (.nil (hK31 _ _ (.region (.mv rfl ?_))))
    refine .q rfl (.add rfl rfl rfl (by omega) (by omega)) ?_
    refine .mv rfl (.nil ?_)
    refine hKL5 ((j + 1, _, _)) _ _ ?_ ?_ ⟨rfl, rfl, rfl, rfl, rfl, rfl, rfl, rfl, trivial⟩
    ·
     refine ⟨lst5, by (rw [List.replicate_succ']; assumption), by exact ⟨.inr (by omega)⟩, by (rw [List.replicate_succ'] <;> (first | omega | (simp only [List.length_append, List.length_cons, List.length_nil] <;> omega))), ?_⟩
     omega
    (dsimp only; omega)
   try simp only [sps] at h105
   refine .exit ?_
   refine hK27 _ _ (.seq (fun K32 hK32 => .seq (fun K33 hK33 => .region ?_)))
   obtain rfl : j = c.src.length := by omega
   have h9 : nL12 = (sumRow c.src.length ((d.comp.getD i []).take 0)).length := by rw [length_sumRow, ln_L12]; simp
   refine .mv rfl (.nil (hK33 _ _ ?_))
   refine .block ?_
   refine .loopR (σ := Nat × Nat × Nat) [(3, some _), (4, some _), (5, some _), (6, some _), (7, some _), (11, some _)] (fun (j, gL12v6, nL12v6) => [(14, some (.int .i64 (j : Int))), (12, some (.slice (some ⟨gL12v6, 0, none⟩) nL12v6 nL12v6))]) (fun (j, gL12v6, nL12v6) H' => St [gL12] HL5 H' ∧ H'.get gL12v6 = some (.row (ints (sumRow c.src.length ((d.comp.getD i []).take j))) 2 true) ∧ PL gL12v6 gL12 HL5.next ∧ nL12v6 = (sumRow c.src.length ((d.comp.getD i []).take j)).length ∧ j ≤ d.src.length) (fun (j, gL12v6, nL12v6) => d.src.length - j) ((0, _, _)) ⟨rfl, rfl, rfl, rfl, rfl, rfl, trivial⟩ ⟨rfl, rfl, trivial⟩ ?_ ?_
   ·
    refine ⟨.refl _ _, by (rw [List.take_zero, sumRow_nil]; assumption), ⟨.inl rfl⟩, by assumption, ?_⟩
    omega
   rintro ⟨j, gL12v6, nL12v6⟩ HL6 ⟨lst6, at_L12v6, pl_L12v6, ln_L12v6, hI⟩ KL6 hKL6
   refine .forget (fr' := [(14, some (.int .i64 (j : Int))), (12, some (.slice (some ⟨gL12v6, 0, none⟩) nL12v6 nL12v6)), (3, some _), (4, some _), (5, some _), (6, some _), (7, some _), (11, some _)]) ⟨rfl, rfl, rfl, rfl, rfl, rfl, rfl, rfl, trivial⟩ ?_
   have ge_L12v6 : H.next ≤ gL12v6 := pl_L12v6.ge (by omega) (by omega)
   have nx_HL6 := lst6.nx
   replace hle := hle.st lst6 (fun k hk => ⟨by omega, trivial⟩)
   replace lst4 := lst4.sP lst6
   replace rk := rk.sP lst6
   have ne_g3_gL12 : NE g3 gL12 := ⟨pl_L12.ne ne_g3_g102.ne (by omega)⟩
   replace aD := lst6.s aD ne_g3_gL12.ne
   have ne_gLC_gL12 : NE gLC gL12 := ⟨pl_L12.ne ne_gLC_g102.ne (by omega)⟩
   replace at_LC := lst6.s at_LC ne_gLC_gL12.ne
   replace at88 := lst6.same _ _ ⟨(pl_L12.ne ne_g88_g102.ne (by omega)), trivial⟩ at88
   replace at100 := lst6.same _ _ ⟨(pl_L12.ne ne_g100_g102.ne (by omega)), trivial⟩ at100
   have ne_g7_gL12 : NE g7 gL12 := ⟨pl_L12.ne ne_g7_g102.ne (by omega)⟩
   replace at19012 := lst6.s at19012 ne_g7_gL12.ne
   replace hin1 := base_hin1.mono hle
   have hb3 : Cat.At _ g3 0 d q := ⟨Mem.of_get aD, hin1⟩
   obtain ⟨-, c13, -, -, c43, -, -, -, i43⟩ := hb3.get
   have hz : (sumRow c.src.length ((d.comp.getD i []).take j)).length = c.src.length + j := by rw [length_sumRow, List.length_take]; omega
   refine .seq (fun K34 hK34 => .seq (fun K35 hK35 => .region (.mv rfl (.q rfl (.fieldAddr fo_27_1_B rfl) ?_))))
   refine .q rfl (.load on_24_B rfl (by first | assumption | exact Mem.of_get aD 1 _ rfl)) ?_
   refine .q rfl (.len sl_24_A rfl) (.q rfl (.cmp rfl rfl rfl) (.nil (hK35 _ _ ?_)))
   refine .cond rfl (fun h115 => ?_) (fun h115 => ?_)
   ·
    simp only [sps] at h115
    have q4 := b10 i (by omega) j (by omega)
    have hz2 : (sumRow c.src.length ((d.comp.getD i []).take (j + 1))).length = c.src.length + (j + 1) := by rw [length_sumRow, List.length_take]; omega
    have u1 := i43.2 i (by omega)
    refine .skip ?_
    refine hK34 _ _ (.seq (fun K36 hK36 => ?_))
    refine .block ?_
    refine .seq (fun K37 hK37 => .region (.q rfl (.fieldAddr fo_27_4_B rfl) ?_))
    refine .q rfl (.load on_25_B rfl (by first | assumption | exact Mem.of_get aD 4 _ rfl)) ?_
    refine .mv rfl ?_
    refine .q rfl (.idxN sl_25_B (Intss.sl (by assumption)) rfl rfl (by omega)) ?_
    refine .q rfl (.loadR on_24_B (by assumption) rfl (by omega)) ?_
    refine .mv rfl ?_
    refine .q rfl (.idxN sl_24_A (by assumption) rfl rfl (by omega)) ?_
    refine .q rfl (.loadI on_2_A (by assumption) rfl (by omega)) ?_
    refine .mv rfl (.nil (hK37 _ _ (.seq (fun K38 hK38 => .seq (fun K39 hK39 => .region (.mv rfl (.q rfl (.cmp rfl rfl rfl) (.nil (hK39 _ _ ?_)))))))))
    refine .cond rfl (fun h127 => ?_) (fun h127 => ?_)
    ·
     simp only [sps] at h127
     refine .region (.mv rfl (.mv rfl ?_))
     refine .q rfl (.add rfl rfl rfl (by omega) (by omega)) ?_
     refine .mv rfl (.nil (hK38 _ _ (.region (.mv rfl (.mv rfl ?_)))))
     refine .R rfl (.litA rfl sl_24_A ze_2_L rfl rfl rfl rfl) ?_
     rintro _ H133 ⟨g133, rfl, le133, ge133, at133⟩
     replace hle := hle.trans le133
     replace lst6 := lst6.le le133
     replace aD := le133.2 _ _ aD
     replace at_L12v6 := le133.2 _ _ at_L12v6
     have lt_at133 := GHeap.ltg at133
     replace hin1 := base_hin1.mono hle
     clear hb3 c13 c43 i43
     have hb3 : Cat.At _ g3 0 d q := ⟨Mem.of_get aD, hin1⟩
     clear u1
     refine .R rfl (.appendI rfl sl_24_A ze_2_L rfl by_2_L sl_24_A rfl rfl (by assumption) (by assumption) (by first | omega | (simp <;> omega)) (by omega) (by omega)) ?_
     rintro _ H134 ⟨g134, rfl, st134, ge134, at134⟩
     replace hle := hle.st st134 (fun k hk => ⟨by omega, trivial⟩)
     replace lst6 := lst6.sQ st134
     have ne_g3_gL12v6 : NE g3 gL12v6 := ⟨pl_L12v6.ne ne_g3_gL12.ne (by omega)⟩
     replace aD := st134.s aD ne_g3_gL12v6.ne
     replace hin1 := base_hin1.mono hle
     clear hb3
     have hb3 : Cat.At _ g3 0 d q := ⟨Mem.of_get aD, hin1⟩
     refine .mv rfl (.nil (hK36 _ _ (.region (.mv rfl ?_))))
     refine .q rfl (.add rfl rfl rfl (by omega) (by omega)) ?_
     refine .mv rfl (.nil ?_)
     refine hKL6 ((j + 1, _, _)) _ _ ?_ ?_ ⟨rfl, rfl, rfl, rfl, rfl, rfl, rfl, rfl, trivial⟩
     ·
      refine ⟨lst6, by (rw [sumRow_take (by omega), if_pos (by omega)]; assumption), by exact ⟨.inr (by omega)⟩, by omega, ?_⟩
      omega
     (dsimp only; omega)
    simp only [sps] at h127
    refine .skip ?_
    refine hK38 _ _ (.region (.mv rfl (.mv rfl ?_)))
    refine .R rfl (.litA rfl sl_24_A ze_2_L rfl rfl rfl rfl) ?_
    rintro _ H133x2 ⟨g133x2, rfl, le133x2, ge133x2, at133x2⟩
    replace hle := hle.trans le133x2
    replace lst6 := lst6.le le133x2
    replace aD := le133x2.2 _ _ aD
    replace at_L12v6 := le133x2.2 _ _ at_L12v6
    have lt_at133x2 := GHeap.ltg at133x2
    replace hin1 := base_hin1.mono hle
    have hb3 : Cat.At _ g3 0 d q := ⟨Mem.of_get aD, hin1⟩
    refine .R rfl (.appendI rfl sl_24_A ze_2_L rfl by_2_L sl_24_A rfl rfl (by assumption) (by assumption) (by first | omega | (simp <;> omega)) (by omega) (by omega)) ?_
    rintro _ H134x2 ⟨g134x2, rfl, st134x2, ge134x2, at134x2⟩
    replace hle := hle.st st134x2 (fun k hk => ⟨by omega, trivial⟩)
    replace lst6 := lst6.sQ st134x2
    have ne_g3_gL12v6 : NE g3 gL12v6 := ⟨pl_L12v6.ne ne_g3_gL12.ne (by omega)⟩
    replace aD := st134x2.s aD ne_g3_gL12v6.ne
    replace hin1 := base_hin1.mono hle
    clear hb3
    have hb3 : Cat.At _ g3 0 d q := ⟨Mem.of_get aD, hin1⟩
    refine .mv rfl (.nil (hK36 _ _ (.region (.mv rfl ?_))))
    refine .q rfl (.add rfl rfl rfl (by omega) (by omega)) ?_
    refine .mv rfl (.nil ?_)
    refine hKL6 ((j + 1, _, _)) _ _ ?_ ?_ ⟨rfl, rfl, rfl, rfl, rfl, rfl, rfl, rfl, trivial⟩
    ·
     refine ⟨lst6, by (rw [sumRow_take (by omega), if_neg (by omega)]; assumption), by exact ⟨.inr (by omega)⟩, by omega, ?_⟩
     omega
    (dsimp only; omega)
   try simp only [sps] at h115
   refine .exit ?_
   refine hK32 _ _ (.region ?_)
   obtain rfl : j = d.src.length := by omega
   rw [show (d.comp.getD i []).take d.src.length = d.comp.getD i [] from List.take_of_length_le (by omega)] at at_L12v6 ln_L12v6
   obtain rfl := ln_L12v6
   refine .q rfl (.fieldAddr fo_27_4_B rfl) ?_
   refine .q rfl (.load on_25_B rfl (by first | assumption | exact Mem.of_get at19012 4 _ rfl)) ?_
   refine .mv rfl ?_
   refine .R rfl (.litA rfl sl_25_B ze_24_Hj rfl rfl rfl rfl) ?_
   rintro _ H138 ⟨g138, rfl, le138, ge138, at138⟩
   replace hle := hle.trans le138
   replace lst4 := lst4.le le138
   replace rk := rk.le le138
   replace aD := le138.2 _ _ aD
   replace at_LC := le138.2 _ _ at_LC
   replace at88 := le138.2 _ _ at88
   replace at100 := le138.2 _ _ at100
   replace at19012 := le138.2 _ _ at19012
   replace at_L12v6 := le138.2 _ _ at_L12v6
   have lt_at138 := GHeap.ltg at138
   replace hin1 := base_hin1.mono hle
   have hb3 : Cat.At _ g3 0 d q := ⟨Mem.of_get aD, hin1⟩
   refine .R rfl (.appendV rfl sl_25_B ze_24_Hj rfl by_24_Hj sl_25_B rfl rfl (by assumption) (by assumption) (by first | omega | (simp <;> omega)) rfl rfl (by omega) (by omega)) ?_
   rintro _ H139 ⟨g139, rfl, st139, ge139, at139⟩
   replace hle := hle.st st139 (fun k hk => ⟨by omega, trivial⟩)
   replace lst4 := lst4.sP st139
   replace rk := rk.sP st139
   replace aD := st139.same _ _ ⟨(pl_LC.ne ne_g3_gC.ne (by omega)), trivial⟩ aD
   replace at88 := st139.s at88
   replace at100 := st139.s at100
   replace at19012 := st139.same _ _ ⟨(Ne.symm ap4_5), trivial⟩ at19012
   replace at_L12v6 := st139.same _ _ ⟨(Ne.symm (pl_L12v6.ne ne_gLC_gL12.ne (by omega))), trivial⟩ at_L12v6
   replace hin1 := base_hin1.mono hle
   clear hb3
   have hb3 : Cat.At _ g3 0 d q := ⟨Mem.of_get aD, hin1⟩
   refine .q rfl (.fieldAddr fo_27_4_B rfl) ?_
   refine .r0 rfl rfl (.storeR rfl sz_25_Ch rfl rfl rfl (by assumption) (by first | exact Nat.le_of_ble_eq_true rfl | (simp; done) | (simp <;> omega))) ?_
   rintro _ H32006 ⟨rfl, st32006, at32006⟩
   replace hle := hle.st st32006 (fun k hk => ⟨by omega, trivial⟩)
   replace lst4 := lst4.sA st32006
   replace rk := rk.sA st32006
   replace aD := st32006.s aD ne_g3_g7.ne
   replace at88 := st32006.s at88 ne_g88_g7.ne
   replace at100 := st32006.s at100 ne_g100_g7.ne
   replace at_L12v6 := st32006.same _ _ ⟨(Ne.symm (pl_L12v6.ne ne_g7_gL12.ne (by omega))), trivial⟩ at_L12v6
   replace at139 := st32006.s at139
   replace hin1 := base_hin1.mono hle
   clear hb3
   have hb3 : Cat.At _ g3 0 d q := ⟨Mem.of_get aD, hin1⟩
   try simp only [Nat.zero_add, List.set_cons_succ, List.set_cons_zero] at at32006
   refine .nil (hK23 _ _ (.region (.mv rfl ?_)))
   refine .q rfl (.add rfl rfl rfl (by omega) (by omega)) ?_
   refine .mv rfl (.nil ?_)
   refine hKL4 ((i + 1, upd r3 (c.sumL d ++ (d.comp.take i).map (sumRow c.src.length)).length (some ⟨gL12v6, 0, none⟩), g88, g100, g139)) _ _ ?_ ?_ ⟨rfl, rfl, rfl, rfl, rfl, rfl, trivial⟩
   ·
    refine ⟨lst4, by (rw [take_map_snoc (d := 0) (by omega), ← List.append_assoc]; assumption), by exact ⟨.inr (by omega)⟩, by (rw [take_map_snoc (d := 0) (by omega), ← List.append_assoc]; assumption), by exact ⟨.inr (by omega)⟩, by (rw [take_map_snoc (d := []) (by omega), ← List.append_assoc, slsL_snoc]; assumption), by exact ⟨.inr (by omega)⟩, by assumption, by omega, by omega, by omega, by omega, by omega, by omega, ?_⟩
    have hg9 : g102 ≤ gL12v6 := pl_L12v6.ge (pl_L12.ge (Nat.le_refl _) (by omega)) (by omega)
    have hR' := hR.st rk (.cons hF (.cons hT (.cons (hR.neT hatC rfl) (.cons (hR.neT hat7 rfl) (.nil _ _)))))
    have hn1 := hR.ne (g := gL12v6) (by omega)
    have hn2 := hR.ne (g := g88) (by omega)
    have hn3 := hR.ne (g := g100) (by omega)
    have hrow := at_L12v6
    rw [take_map_snoc (d := []) (by omega), ← List.append_assoc]
    exact ⟨by omega, hR'.snoc2 hrow hn1 (by omega), ne_snoc hn2 (by omega), ne_snoc hn3 (by omega), ne_snoc hId (by omega)⟩
   (dsimp only; omega)
  try simp only [sps] at h75
  refine .exit ?_
  refine hK19 _ _ (.seq (fun K40 hK40 => .region ?_))
  obtain rfl : i = d.src.length := by omega
  rw [List.take_length] at at_LF
  rw [show d.tgt.take d.src.length = d.tgt from List.take_of_length_le (by omega)] at at_LT
  rw [show d.comp.take d.src.length = d.comp from List.take_of_length_le (by omega)] at at_LC hR hF hT hId
  refine .q rfl (.loadM ag_27_D rfl ⟨rfl, Mem.of_get at_Lg7⟩) ?_
  have hat4 := aR
  refine .r0 rfl rfl (.fillA rfl sz_27_D rfl rfl rfl rfl) ?_
  rintro _ H33001 ⟨rfl, st33001, at33001⟩
  replace hle := hle.st st33001 (fun k hk => ⟨by omega, trivial⟩)
  replace aD := st33001.s aD
  have ne_gLI_g4 : NE gLI g4 := .a
  replace aI := st33001.s aI ne_gLI_g4.ne
  have ne_g4_gLF : NE g4 gLF := ⟨pl_LF.ne ne_g4_gF.ne (by omega)⟩
  replace at_LF := st33001.s at_LF (Ne.symm ne_g4_gLF.ne)
  replace at_LT := st33001.same _ _ ⟨(Ne.symm (pl_LT.ne ne_g4_gT.ne (by omega))), trivial⟩ at_LT
  replace at_LC := st33001.same _ _ ⟨(Ne.symm (pl_LC.ne ne_g4_gC.ne (by omega))), trivial⟩ at_LC
  replace hin1 := base_hin1.mono hle
  have hb3 : Cat.At _ g3 0 d q := ⟨Mem.of_get aD, hin1⟩
  refine .nil (hK40 _ _ ?_)
  refine .ret ?_
  refine hret _ _ ?_
  refine ⟨_, _, _, _, rfl, ag_27_D, (by rfl), (Mem.of_get at33001), ?_⟩
  exact ⟨hle, gLF, gLT, gLI, gLC, r3, by simp [Cat.cells, Cat.sum, ownP, Cat.sumL, b3, b8, show d.idn.length = d.obj.toNat by omega], ⟨at_LF, at_LT, aI, at_LC, ge_LF, ge_LT, ge_LI, ge_LC, by assumption, Ne.symm nFI, Ne.symm nTI, hR.st st33001 (.cons (hR.neT hat4 rfl) (.nil _ _)), hF, hT, hId⟩⟩
end Go.Proofs.Ytolfggcanbpknaa
namespace Go.Proofs.Ytolfggcanbpknaa
open Go Go.GL Go.RowKit Go.Proofs
theorem us_44_Da : (Try.prog.underlying 44).isSome = true := by kernel_rfl
theorem it_2_Da : intT Try.prog 2 = some .i64 := by kernel_rfl
theorem fo_90_2_Da : fieldOff Try.prog 90 2 = some 2 := by kernel_rfl
theorem on_44_Da : oneT Try.prog 44 = true := by kernel_rfl
theorem sz_44_Da : (Try.prog.info? 44).map (·.size) = some 1 := by kernel_rfl
theorem fo_90_1_Da : fieldOff Try.prog 90 1 = some 1 := by kernel_rfl
theorem on_3_Da : oneT Try.prog 3 = true := by kernel_rfl
theorem fo_90_0_Da : fieldOff Try.prog 90 0 = some 0 := by kernel_rfl
theorem on_22_Da : oneT Try.prog 22 = true := by kernel_rfl
theorem sl_22_Da : sliceT Try.prog 22 = some (5, 1) := by kernel_rfl
theorem on_5_Da : oneT Try.prog 5 = true := by kernel_rfl
theorem us_5_Da : (Try.prog.underlying 5).isSome = true := by kernel_rfl
theorem sz_3_Da : (Try.prog.info? 3).map (·.size) = some 1 := by kernel_rfl
theorem us_3_Da : (Try.prog.underlying 3).isSome = true := by kernel_rfl
theorem it_44_Da : intT Try.prog 44 = some .u64 := by kernel_rfl
theorem bt_90_Da : buildT Try.prog 90 = some ([.slice none 0 0, .int .i64 0, .int .u64 0], [(0, 1), (1, 1), (2, 1)]) := by kernel_rfl
theorem sz_90_Da : (Try.prog.info? 90).map (·.size) = some 3 := by kernel_rfl
theorem l01Next_c {gS : Nat} {n : Int} {H : GHeap} (hs : DSrc 90 H gS := by assumption) :
    GCalls Try.prog 48 [.pointer (some ⟨gS, 0, none⟩), .int .i64 n] H (Drawn 90 gS n H) := by
  obtain ⟨a, xs, p, hh, hg, ⟨p0, p1⟩, hx, hb, hlt⟩ := hs
  have hx0 := andU_le ((IntKind.wrap .u64 (IntKind.wrap .u64 (hh * 6364136223846793005) + 1442695040888963407)).fdiv (2 ^ 33))
  have hlo : ∀ b o t, a = some ⟨b, o, t⟩ → out [gS] b := fun b o t ha => ⟨by have := hlt b o t ha; omega, trivial⟩
  refine GCalls.body (N := 58) (rs := [.tmp 4]) Try.func48 rfl rfl rfl rfl (fun Qx hret hend => ?_)
  refine .fg [0, 1] rfl ?_
  have hst := St.refl [gS] H
  have hbs := hb.st hst hlo
  refine .seq (fun K1 hK1 => .region (.mv rfl (.nil (hK1 _ _ (.seq (fun K2 hK2 => .seq (fun K3 hK3 => .region (.mv rfl (.q rfl (.cmp rfl rfl rfl) (.nil (hK3 _ _ ?_)))))))))))
  refine .cond rfl (fun h7 => ?_) (fun h7 => ?_)
  ·
   try simp only [sps] at h7
   refine .seq (fun K4 hK4 => .region (.mv rfl (.nil (hK4 _ _ ?_))))
   refine .ret ?_
   refine hret _ _ ?_
   refine ⟨_, rfl, ?_⟩
   exact ⟨0, rfl, by omega, fun h => by omega, fun _ => rfl, hst, a, xs, p, hh, hg, ⟨p0, p1⟩, hx, hbs, hlt⟩
  try simp only [sps] at h7
  refine .skip ?_
  refine hK2 _ _ (.seq (fun K5 hK5 => .region (.mv rfl (.mv rfl (.q rfl (.nilCheck rfl) (.q rfl (.fieldAddr fo_90_2_Da rfl) ?_))))))
  refine .q rfl (.load on_44_Da rfl (by first | assumption | exact Mem.of_get hg 2 _ rfl)) ?_
  refine .q rfl (.arith rfl rfl rfl) (.q rfl (.arith rfl rfl rfl) (.q rfl (.nilCheck rfl) (.q rfl (.fieldAddr fo_90_2_Da rfl) ?_)))
  refine .r0 rfl rfl (.storeR rfl sz_44_Da rfl rfl rfl (by assumption) (by first | exact Nat.le_of_ble_eq_true rfl | (simp; done) | (simp <;> omega))) ?_
  rintro _ H3009 ⟨rfl, st3009, at3009⟩
  replace hst := hst.sA st3009
  clear hbs
  have hbs := hb.st hst hlo
  have c0 := hbs.1
  have c1 := hbs.2 p.toNat
  try simp only [Nat.zero_add, List.set_cons_succ, List.set_cons_zero] at at3009
  refine .nil (hK5 _ _ (.seq (fun K6 hK6 => .region (.mv rfl (.q rfl (.nilCheck rfl) (.q rfl (.fieldAddr fo_90_2_Da rfl) ?_))))))
  refine .q rfl (.load on_44_Da rfl (by first | assumption | exact Mem.of_get at3009 2 _ rfl)) ?_
  refine .q rfl (.shrU rfl rfl) (.q rfl (.andU rfl rfl) ?_)
  refine .q rfl (.conv64 us_44_Da it_2_Da rfl (Int.le_trans (by decide) (andU_le _).1) (Int.le_trans (andU_le _).2 (by decide))) ?_
  refine .mv rfl (.nil (hK6 _ _ (.seq (fun K7 hK7 => .seq (fun K8 hK8 => ?_)))))
  refine .regionD mo_B (.q 0 (.q 1 (.q 2 (.q 3 (.q 4 (.q 5 (.q 6 (.q 7 (.q 8 (.q 9 (.done))))))))))) (by kernel_rfl) ?_
  refine .mv rfl rfl (.q rfl (.nilCheck rfl) (.q rfl (.fieldAddr fo_90_1_Da rfl) ?_))
  refine .q rfl (.load on_3_Da rfl (by first | assumption | exact Mem.of_get at3009 1 _ rfl)) ?_
  refine .mv rfl rfl (.q rfl (.nilCheck rfl) (.q rfl (.fieldAddr fo_90_0_Da rfl) ?_))
  refine .q rfl (.load on_22_Da rfl (by first | assumption | exact Mem.of_get at3009 0 _ rfl)) ?_
  refine .q rfl (.len sl_22_Da rfl) (.q rfl (.cmp rfl rfl rfl) ?_)
  refine .done ?_
  refine hK8 _ _ ?_
  refine .cond rfl (fun h33 => ?_) (fun h33 => ?_)
  ·
   try simp only [sps] at h33
   refine .seq (fun K9 hK9 => ?_)
   refine .regionD mo_B (.q 0 (.q 1 (.q 2 (.q 3 (.q 4 (.q 5 (.q 6 (.q 7 (.q 8 (.q 9 (.q 10 (.q 11 (.q 12 (.c 13 0 (.done))))))))))))))) (by kernel_rfl) ?_
   refine .mv rfl rfl (.mv rfl rfl (.q rfl (.nilCheck rfl) (.q rfl (.fieldAddr fo_90_0_Da rfl) ?_)))
   refine .q rfl (.load on_22_Da rfl (by first | assumption | exact Mem.of_get at3009 0 _ rfl)) ?_
   refine .mv rfl rfl (.q rfl (.nilCheck rfl) (.q rfl (.fieldAddr fo_90_1_Da rfl) ?_))
   refine .q rfl (.load on_3_Da rfl (by first | assumption | exact Mem.of_get at3009 1 _ rfl)) ?_
   refine .q rfl (.idx1 sl_22_Da (by assumption) rfl rfl (by omega) (by omega)) ?_
   refine .q rfl (.loadE on_5_Da (by assumption) rfl (by omega)) ?_
   refine .q rfl (.conv64 us_5_Da it_2_Da rfl (by omega) (by omega)) ?_
   refine .q rfl (.add rfl rfl rfl (by omega) (by omega)) ?_
   refine .d0 rfl rfl rfl rfl (.quiet (.assign rfl) CIs.mk) ?_
   refine .done ?_
   refine hK9 _ _ (.region (.mv rfl (.mv rfl (.q rfl (.nilCheck rfl) (.q rfl (.fieldAddr fo_90_1_Da rfl) ?_)))))
   refine .q rfl (.load on_3_Da rfl (by first | assumption | exact Mem.of_get at3009 1 _ rfl)) ?_
   refine .q rfl (.add rfl rfl rfl (by omega) (by omega)) ?_
   refine .q rfl (.nilCheck rfl) (.q rfl (.fieldAddr fo_90_1_Da rfl) ?_)
   refine .r0 rfl rfl (.storeR rfl sz_3_Da rfl rfl rfl (by assumption) (by first | exact Nat.le_of_ble_eq_true rfl | (simp; done) | (simp <;> omega))) ?_
   rintro _ H7008 ⟨rfl, st7008, at7008⟩
   replace hst := hst.sA st7008
   clear hbs c0 c1
   have hbs := hb.st hst hlo
   have c1 := hbs.2 p.toNat
   try simp only [Nat.zero_add, List.set_cons_succ, List.set_cons_zero] at at7008
   refine .nil (hK7 _ _ (.seq (fun K10 hK10 => .region (.mv rfl (.mv rfl ?_)))))
   refine .q rfl (.rem rfl rfl (by omega)) ?_
   refine .mv rfl (.nil (hK10 _ _ ?_))
   refine .ret ?_
   refine hret _ _ ?_
   refine ⟨_, rfl, ?_⟩
   have hm := tmod_bd (x := Go.GL.andU ((IntKind.wrap .u64 (IntKind.wrap .u64 (hh * 6364136223846793005) + 1442695040888963407)).fdiv (2 ^ 33)) 16777215 + xs.getD p.toNat 0) (n := n) (by omega) (by omega)
   exact ⟨_, rfl, hm.1, fun _ => hm.2, fun h => by omega, hst, a, xs, p + 1, _, at7008, ⟨by omega, by omega⟩, hx, hbs, hlt⟩
  try simp only [sps] at h33
  refine .skip ?_
  refine hK7 _ _ (.seq (fun K11 hK11 => .region (.mv rfl (.mv rfl ?_))))
  refine .q rfl (.rem rfl rfl (by omega)) ?_
  refine .mv rfl (.nil (hK11 _ _ ?_))
  refine .ret ?_
  refine hret _ _ ?_
  refine ⟨_, rfl, ?_⟩
  have hm := tmod_bd (x := Go.GL.andU ((IntKind.wrap .u64 (IntKind.wrap .u64 (hh * 6364136223846793005) + 1442695040888963407)).fdiv (2 ^ 33)) 16777215) (n := n) (by omega) (by omega)
  exact ⟨_, rfl, hm.1, fun _ => hm.2, fun h => by omega, hst, a, xs, p, _, at3009, ⟨p0, p1⟩, hx, hbs, hlt⟩
theorem l01From_c {a : Option Addr} {xs : List Int} {H : GHeap} (hb : Bytes H a xs := by assumption) (hlt : ∀ b o t, a = some ⟨b, o, t⟩ → b < H.next) (hx : xs.length ≤ 4096 := by omega) :
    GCalls Try.prog 47 [.slice a xs.length xs.length] H (fun v H' => H.Le H' ∧ ∃ g, v = .pointer (some ⟨g, 0, none⟩) ∧ H.next ≤ g ∧ DSrc 90 H' g) := by
  refine GCalls.body (N := 38) (rs := [.tmp 2]) Try.func47 rfl rfl rfl rfl (fun Qx hret hend => ?_)
  refine .fg [0] rfl ?_
  have hle := GHeap.Le.refl H
  have base_hb := hb
  refine .seq (fun K1 hK1 => .region (.mv rfl (.nil (hK1 _ _ (.seq (fun K2 hK2 => .region (.mv rfl (.mv rfl (.q rfl (.len sl_22_Da rfl) (.q rfl (.conv us_3_Da it_44_Da rfl) (.q rfl (.arith rfl rfl rfl) (.q rfl (.build bt_90_Da rfl rfl rfl) ?_))))))))))))
  refine .R rfl (.boxR rfl sz_90_Da rfl) ?_
  rintro _ H11 ⟨g11, rfl, le11, ge11, at11⟩
  replace hle := hle.trans le11
  refine .mv rfl (.nil (hK2 _ _ (.seq (fun K3 hK3 => .seq (fun K4 hK4 => .region (.mv rfl (.nil (hK4 _ _ ?_))))))))
  refine .block ?_
  refine .loopR (σ := Nat × Int) [(0, some _), (3, some _)] (fun (k, hh) => [(4, some (.int .i64 (k : Int)))]) (fun (k, hh) H' => St [g11] H11 H' ∧ H'.get g11 = some (.row ([.slice a xs.length xs.length, .int .i64 0, .int .u64 hh]) 90 true) ∧ k ≤ xs.length) (fun (k, hh) => xs.length - k) ((0, IntKind.wrap .u64 (7019 + IntKind.wrap .u64 (xs.length : Int)))) ⟨rfl, rfl, trivial⟩ ⟨rfl, trivial⟩ ?_ ?_
  ·
   refine ⟨.refl _ _, by first | assumption | exact at11 | simpa using at11, ?_⟩
   omega
  rintro ⟨k, hh⟩ HL1 ⟨lst1, at_Lg11, hI⟩ KL1 hKL1
  refine .forget (fr' := [(4, some (.int .i64 (k : Int))), (0, some _), (3, some _)]) ⟨rfl, rfl, rfl, trivial⟩ ?_
  replace hle := hle.st lst1 (fun k hk => ⟨by omega, trivial⟩)
  replace hb := base_hb.mono hle
  refine .seq (fun K5 hK5 => .seq (fun K6 hK6 => .region (.mv rfl (.mv rfl (.q rfl (.len sl_22_Da rfl) (.q rfl (.cmp rfl rfl rfl) (.mv rfl ?_)))))))
  refine .split (fun h16 => ?_) (fun h16 => ?_)
  ·
   try simp only [sps] at h16
   refine .qg rfl (.move rfl) (.qg rfl (.cmp rfl rfl rfl) (.q rfl (.pickT rfl rfl) (.nil (hK6 _ _ ?_))))
   refine .cond rfl (fun h19 => ?_) (fun h19 => ?_)
   ·
    simp only [sps] at h19
    refine .skip ?_
    refine hK5 _ _ (.seq (fun K7 hK7 => ?_))
    refine .block ?_
    refine .regionD mo_B (.q 0 (.q 1 (.q 2 (.q 3 (.q 4 (.q 5 (.q 6 (.q 7 (.q 8 (.q 9 (.q 10 (.q 11 (.q 12 (.q 13 (.q 14 (.c 15 0 (.done))))))))))))))))) (by kernel_rfl) ?_
    have c0 := hb.1
    refine .mv rfl rfl (.mv rfl rfl (.q rfl (.nilCheck rfl) (.q rfl (.fieldAddr fo_90_2_Da rfl) ?_)))
    refine .q rfl (.load on_44_Da rfl (by first | assumption | exact Mem.of_get at_Lg11 2 _ rfl)) ?_
    refine .q rfl (.arith rfl rfl rfl) (.mv rfl rfl (.mv rfl rfl ?_))
    refine .q rfl (.idxN sl_22_Da (by assumption) rfl rfl (by omega)) ?_
    refine .q rfl (.loadE on_5_Da (by assumption) rfl (by omega)) ?_
    refine .q rfl (.conv us_5_Da it_44_Da rfl) (.q rfl (.arith rfl rfl rfl) (.q rfl (.arith rfl rfl rfl) (.q rfl (.nilCheck rfl) (.q rfl (.fieldAddr fo_90_2_Da rfl) ?_))))
    refine .r0 rfl rfl rfl (.storeR rfl sz_44_Da rfl rfl rfl (by assumption) (by first | exact Nat.le_of_ble_eq_true rfl | (simp; done) | (simp <;> omega))) ?_
    rintro _ H5015 ⟨rfl, st5015, at5015⟩
    replace lst1 := lst1.sA st5015
    try simp only [Nat.zero_add, List.set_cons_succ, List.set_cons_zero] at at5015
    refine .done ?_
    refine hK7 _ _ (.region (.mv rfl ?_))
    refine .q rfl (.add rfl rfl rfl (by omega) (by omega)) ?_
    refine .mv rfl (.nil ?_)
    refine hKL1 ((k + 1, IntKind.wrap .u64 (IntKind.wrap .u64 (IntKind.wrap .u64 (hh * 1099511628211) + IntKind.wrap .u64 (xs.getD k 0)) + 7))) _ _ ?_ ?_ ⟨rfl, rfl, rfl, trivial⟩
    ·
     refine ⟨lst1, by assumption, ?_⟩
     omega
    (dsimp only; omega)
   simp only [sps] at h19
   refine .exit ?_
   refine hK3 _ _ (.seq (fun K8 hK8 => .region (.mv rfl (.mv rfl (.nil (hK8 _ _ ?_))))))
   refine .ret ?_
   refine hret _ _ ?_
   refine ⟨_, rfl, ?_⟩
   exact ⟨hle, g11, rfl, by omega, a, xs, 0, hh, at_Lg11, ⟨by omega, by omega⟩, hx, hb, fun b o t ha => by have := hlt b o t ha; omega⟩
  try simp only [sps] at h16
  refine .z rfl (.z rfl (.q rfl (.pickF rfl rfl) (.nil (hK6 _ _ ?_))))
  refine .condF rfl ?_
  refine .exit ?_
  refine hK3 _ _ (.seq (fun K9 hK9 => .region (.mv rfl (.mv rfl (.nil (hK9 _ _ ?_))))))
  refine .ret ?_
  refine hret _ _ ?_
  refine ⟨_, rfl, ?_⟩
  exact ⟨hle, g11, rfl, by omega, a, xs, 0, hh, at_Lg11, ⟨by omega, by omega⟩, hx, hb, fun b o t ha => by have := hlt b o t ha; omega⟩
theorem l01Pick_c {gS : Nat} {a : Option Addr} {xs : List Int} {H : GHeap} (hs : DSrc 90 H gS := by assumption) (hl : ∀ H', St [gS] H H' → Ints H' a xs) (h0 : 0 < xs.length) :
    GCalls Try.prog 85 [.pointer (some ⟨gS, 0, none⟩), .slice a xs.length xs.length] H (fun v H' => ∃ i, i < xs.length ∧ v = .int .i64 (xs.getD i 0) ∧ St [gS] H H' ∧ DSrc 90 H' gS) := by
  refine GCalls.body (N := 12) (rs := [.tmp 4]) Try.func85 rfl rfl rfl rfl (fun Qx hret hend => ?_)
  refine .fg [0, 1] rfl ?_
  have hst := St.refl [gS] H
  refine .seq (fun K1 hK1 => .region (.mv rfl (.nil (hK1 _ _ (.seq (fun K2 hK2 => .region (.mv rfl (.mv rfl (.mv rfl (.q rfl (.len sl_24_A rfl) ?_))))))))))
  refine .call rfl rfl rfl rfl @Try.call48 rfl (l01Next_c) ?_
  rintro _ H9 ⟨k9, rfl, ka9, kb9, kc9, st9, hs⟩
  replace hst := hst.sA st9
  have i0 := hl _ hst
  refine .q rfl (.idx1 sl_24_A (by assumption) rfl rfl (by omega) (by omega)) ?_
  refine .q rfl (.loadI on_2_A (by assumption) rfl (by omega)) ?_
  refine .mv rfl (.nil (hK2 _ _ ?_))
  refine .ret ?_
  refine hret _ _ ?_
  refine ⟨_, rfl, ?_⟩
  exact ⟨_, by omega, rfl, hst, hs⟩
end Go.Proofs.Ytolfggcanbpknaa
