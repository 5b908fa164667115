/- Hom sets and inverses. No condition but those of each statement. -/
import Derived.Test.YtagkeabmdodfiaaZ7
import Derived.Deep.Slices
import Derived.MapKept
namespace Go.Proofs.Ytagkeabmdodfiaa
open Go Go.GL Go.RowKit Go.Proofs
theorem hom_c {g o : Nat} {c : Cat} {p : CatP} {x y : Int} {H : GHeap} (h : Cat.At H g o c p := by assumption) (hS : c.Shape := by assumption) :
    GCalls Try.prog 91 [.pointer (some ⟨g, o, none⟩), .int .i64 x, .int .i64 y] H (NewInts 2 H (c.hom x y)) := by
  refine GCalls.body (N := 44) (rs := [.tmp 6]) Try.func91 rfl rfl rfl rfl (fun Qx hret hend => ?_)
  refine .forget (fr' := [(0, some _), (1, some _), (2, some _)]) ⟨rfl, rfl, rfl, trivial⟩ ?_
  have hle := GHeap.Le.refl H
  have base_h := h
  have q1 := hS.tl
  have q2 := hS.n40
  refine .seq (fun K1 hK1 => .region (.mv rfl (.nil (hK1 _ _ (.seq (fun K2 hK2 => .region ?_))))))
  refine .r rfl rfl rfl (.litR rfl sl_22_A ze_2_E rfl rfl (by omega) (by omega) rfl rfl) ?_
  rintro _ H9 ⟨g9, rfl, le9, ge9, at9⟩
  replace hle := hle.trans le9
  have lt_at9 := GHeap.ltg at9
  replace h := base_h.mono hle
  obtain ⟨-, c1, -, -, -, -, -, -, -⟩ := h.get
  replace at9 : GHeap.get H9 g9 = some (.row (ints []) 2 true) := at9
  refine .mv rfl (.nil (hK2 _ _ (.seq (fun K3 hK3 => .seq (fun K4 hK4 => .region (.mv rfl (.m rfl rfl rfl (.nilCheck rfl) (.m rfl rfl rfl (.fieldAddr fo_31_1_B rfl) ?_))))))))
  refine .m rfl rfl rfl (.load on_22_B rfl (by assumption)) ?_
  refine .m rfl rfl rfl (.len sl_22_A rfl) (.mv rfl (.nil (hK4 _ _ ?_)))
  refine .block ?_
  refine .loopR (σ := Nat × Nat × Nat) [(0, some _), (1, some _), (2, some _), (14, some _)] (fun (k, gL7, nL7) => [(15, some (.int .i64 (k : Int))), (7, some (.slice (some ⟨gL7, 0, none⟩) nL7 nL7))]) (fun (k, gL7, nL7) H' => St [g9] H9 H' ∧ H'.get gL7 = some (.row (ints (filtN k fun f => decide (c.src.getD f 0 = x) && decide (c.tgt.getD f 0 = y))) 2 true) ∧ (gL7 = g9 ∨ H9.next ≤ gL7) ∧ nL7 = (filtN k fun f => decide (c.src.getD f 0 = x) && decide (c.tgt.getD f 0 = y)).length ∧ k ≤ c.src.length) (fun (k, gL7, nL7) => c.src.length - k) ((0, _, _)) ⟨rfl, rfl, rfl, rfl, trivial⟩ ⟨rfl, rfl, trivial⟩ ?_ ?_
  ·
   refine ⟨.refl _ _, by assumption, .inl rfl, by rfl, ?_⟩
   omega
  rintro ⟨k, gL7, nL7⟩ HL1 ⟨lst1, at_L7, pl_L7, ln_L7, hI⟩ KL1 hKL1
  refine .forget (fr' := [(15, some (.int .i64 (k : Int))), (7, some (.slice (some ⟨gL7, 0, none⟩) nL7 nL7)), (0, some _), (1, some _), (2, some _), (14, some _)]) ⟨rfl, rfl, rfl, rfl, rfl, rfl, trivial⟩ ?_
  have ge_L7 : H.next ≤ gL7 := by omega
  have nx_HL1 := lst1.nx
  replace hle := hle.st lst1 (fun k hk => ⟨by omega, trivial⟩)
  replace h := base_h.mono hle
  clear c1
  obtain ⟨-, c1, c2, -, -, i1, i2, -, -⟩ := h.get
  have hfl := filtN_le k fun f => decide (c.src.getD f 0 = x) && decide (c.tgt.getD f 0 = y)
  refine .seq (fun K5 hK5 => .region (.m rfl rfl rfl (.cmp rfl rfl rfl) (.nil (hK5 _ _ (.seq (fun K6 hK6 => ?_))))))
  refine .cond rfl (fun h16 => ?_) (fun h16 => ?_)
  ·
   try simp only [sps] at h16
   refine .skip ?_
   refine hK6 _ _ (.seq (fun K7 hK7 => ?_))
   refine .block ?_
   refine .seq (fun K8 hK8 => .region (.mv rfl (.mv rfl (.nil (hK8 _ _ (.seq (fun K9 hK9 => .region (.mv rfl (.m rfl rfl rfl (.nilCheck rfl) (.m rfl rfl rfl (.fieldAddr fo_31_1_B rfl) ?_))))))))))
   refine .m rfl rfl rfl (.load on_22_B rfl (by assumption)) ?_
   refine .mv rfl ?_
   refine .m rfl rfl rfl (.idxN sl_22_A (by assumption) rfl rfl (by omega)) ?_
   refine .m rfl rfl rfl (.loadI on_2_A (by assumption) rfl (by omega)) ?_
   refine .mv rfl (.m rfl rfl rfl (.cmp rfl rfl rfl) (.mv rfl ?_))
   refine .split (fun h27 => ?_) (fun h27 => ?_)
   ·
    try simp only [sps] at h27
    refine .mg rfl rfl rfl rfl rfl (.move rfl) (.mg rfl rfl rfl rfl rfl (.nilCheck rfl) (.mg rfl rfl rfl rfl rfl (.fieldAddr fo_31_2_B rfl) ?_))
    refine .mg rfl rfl rfl rfl rfl (.load on_22_B rfl (by assumption)) ?_
    refine .mg rfl rfl rfl rfl rfl (.move rfl) ?_
    refine .mg rfl rfl rfl rfl rfl (.idxN sl_22_A (by assumption) rfl rfl (by omega)) ?_
    refine .mg rfl rfl rfl rfl rfl (.loadI on_2_A (by assumption) rfl (by omega)) ?_
    refine .mg rfl rfl rfl rfl rfl (.move rfl) (.mg rfl rfl rfl rfl rfl (.cmp rfl rfl rfl) (.m rfl rfl rfl (.pickT rfl rfl) (.nil (hK9 _ _ ?_))))
    refine .cond rfl (fun h37 => ?_) (fun h37 => ?_)
    ·
     try simp only [sps] at h37
     refine .region (.mv rfl (.mv rfl ?_))
     refine .r rfl rfl rfl (.litR rfl sl_22_A ze_2_E rfl rfl (by omega) (by omega) rfl rfl) ?_
     rintro _ H40 ⟨g40, rfl, le40, ge40, at40⟩
     replace hle := hle.trans le40
     replace lst1 := lst1.le le40
     replace at_L7 := le40.2 _ _ at_L7
     have lt_at40 := GHeap.ltg at40
     replace h := base_h.mono hle
     clear c1 c2 i1 i2
     refine .r rfl rfl rfl (.appendI rfl sl_22_A ze_2_E rfl by_2_E sl_22_A rfl rfl (by assumption) (by assumption) (by first | omega | (simp <;> omega)) (by omega) (by omega)) ?_
     rintro _ H41 ⟨g41, rfl, st41, ge41, at41⟩
     replace hle := hle.st st41 (fun k hk => ⟨by omega, trivial⟩)
     replace lst1 := lst1.st st41 (fun k hk ho => by simp only [out, and_true] at ho ⊢ <;> first | exact ho | exact ho.1 | exact ho.2 | exact ho.2.1 | exact ho.2.2 | exact ho.2.2.1 | exact ho.2.2.2 | omega)
     replace h := base_h.mono hle
     refine .mv rfl (.nil (hK7 _ _ (.region ?_)))
     refine .m rfl rfl rfl (.add rfl rfl rfl (by omega) (by omega)) ?_
     refine .mv rfl (.nil ?_)
     refine hKL1 ((k + 1, _, _)) _ _ ?_ ?_ ⟨rfl, rfl, rfl, rfl, rfl, rfl, trivial⟩
     ·
      refine ⟨lst1, by (rw [filtN_T (by simp only [sps]; omega)]; assumption), by omega, by (rw [filtN_T (by simp only [sps]; omega)] <;> (first | omega | (simp only [List.length_append, List.length_cons, List.length_nil] <;> omega))), ?_⟩
      omega
     (dsimp only; omega)
    try simp only [sps] at h37
    refine .skip ?_
    refine hK7 _ _ (.region ?_)
    refine .m rfl rfl rfl (.add rfl rfl rfl (by omega) (by omega)) ?_
    refine .mv rfl (.nil ?_)
    refine hKL1 ((k + 1, _, _)) _ _ ?_ ?_ ⟨rfl, rfl, rfl, rfl, rfl, rfl, trivial⟩
    ·
     refine ⟨lst1, by (rw [filtN_F (by simp only [sps]; omega)]; assumption), by omega, by (rw [filtN_F (by simp only [sps]; omega)] <;> (first | omega | (simp only [List.length_append, List.length_cons, List.length_nil] <;> omega))), ?_⟩
     omega
    (dsimp only; omega)
   try simp only [sps] at h27
   refine .sg rfl rfl rfl rfl rfl (.sg rfl rfl rfl rfl rfl (.sg rfl rfl rfl rfl rfl (.sg rfl rfl rfl rfl rfl (.sg rfl rfl rfl rfl rfl (.sg rfl rfl rfl rfl rfl (.sg rfl rfl rfl rfl rfl (.sg rfl rfl rfl rfl rfl (.sg rfl rfl rfl rfl rfl (.m rfl rfl rfl (.pickF rfl rfl) (.nil (hK9 _ _ ?_)))))))))))
   refine .condF rfl ?_
   refine .skip ?_
   refine hK7 _ _ (.region ?_)
   refine .m rfl rfl rfl (.add rfl rfl rfl (by omega) (by omega)) ?_
   refine .mv rfl (.nil ?_)
   refine hKL1 ((k + 1, _, _)) _ _ ?_ ?_ ⟨rfl, rfl, rfl, rfl, rfl, rfl, trivial⟩
   ·
    refine ⟨lst1, by (rw [filtN_F (by simp only [sps]; omega)]; assumption), by omega, by (rw [filtN_F (by simp only [sps]; omega)] <;> (first | omega | (simp only [List.length_append, List.length_cons, List.length_nil] <;> omega))), ?_⟩
    omega
   (dsimp only; omega)
  try simp only [sps] at h16
  refine .exit ?_
  refine hK3 _ _ (.seq (fun K10 hK10 => .region (.mv rfl (.mv rfl (.nil (hK10 _ _ ?_))))))
  refine .ret ?_
  refine hret _ _ ?_
  refine ⟨_, rfl, ?_⟩
  obtain rfl : k = c.src.length := by omega
  exact ⟨hle, _, by rw [ln_L7]; rfl, at_L7, ge_L7⟩
theorem l01Has_c {a : Option Addr} {xs : List Int} {n : Int} {H : GHeap} (h : Ints H a xs := by assumption) (hl : xs.length ≤ 1048576 := by omega) :
    GCalls Try.prog 158 [.slice a xs.length xs.length, .int .i64 n] H (Ret (.bool (xs.contains n)) H) := by
  refine GCalls.body (N := 18) (rs := [.tmp 4]) Try.func158 rfl rfl rfl rfl (fun Qx hret hend => ?_)
  refine .forget (fr' := [(0, some _), (1, some _)]) ⟨rfl, rfl, trivial⟩ ?_
  refine .seq (fun K1 hK1 => .region (.mv rfl (.nil (hK1 _ _ (.seq (fun K2 hK2 => .seq (fun K3 hK3 => .region (.mv rfl (.nil (hK3 _ _ ?_))))))))))
  refine .block ?_
  refine .loopR (σ := Nat) [(0, some _), (1, some _)] (fun k => [(5, some (.int .i64 (k : Int)))]) (fun k H' => H = H' ∧ (k : Int) ≤ xs.length ∧ ∀ i, i < k → ¬ xs.getD i 0 = n) (fun k => (xs.length - k : Int).toNat) (0) ⟨rfl, rfl, trivial⟩ ⟨rfl, trivial⟩ ?_ ?_
  ·
   refine ⟨rfl, ?_⟩
   exact ⟨by omega, fun _ _ => by omega⟩
  rintro k _ ⟨rfl, hI⟩ KL1 hKL1
  refine .forget (fr' := [(5, some (.int .i64 (k : Int))), (0, some _), (1, some _)]) ⟨rfl, rfl, rfl, trivial⟩ ?_
  obtain ⟨hk1, ha1⟩ := hI
  refine .seq (fun K4 hK4 => .seq (fun K5 hK5 => .region (.mv rfl (.mv rfl (.m rfl rfl rfl (.len sl_22_A rfl) (.m rfl rfl rfl (.cmp rfl rfl rfl) (.nil (hK5 _ _ ?_))))))))
  refine .cond rfl (fun h9 => ?_) (fun h9 => ?_)
  ·
   try simp only [sps] at h9
   refine .skip ?_
   refine hK4 _ _ (.seq (fun K6 hK6 => ?_))
   refine .block ?_
   refine .seq (fun K7 hK7 => .region (.mv rfl (.mv rfl ?_)))
   refine .m rfl rfl rfl (.idxN sl_22_A (by assumption) rfl rfl (by omega)) ?_
   refine .m rfl rfl rfl (.loadI on_2_A (by assumption) rfl (by omega)) ?_
   refine .mv rfl (.m rfl rfl rfl (.cmp rfl rfl rfl) (.nil (hK7 _ _ ?_)))
   refine .cond rfl (fun h17 => ?_) (fun h17 => ?_)
   ·
    try simp only [sps] at h17
    refine .seq (fun K8 hK8 => .region (.mv rfl (.nil (hK8 _ _ ?_))))
    refine .ret ?_
    refine hret _ _ ?_
    refine ⟨_, rfl, ?_⟩
    exact .of (congrArg _ (List.contains_iff_mem.2 (by rw [← h17]; exact getD_mem (by omega))))
   try simp only [sps] at h17
   refine .skip ?_
   refine hK6 _ _ (.region (.mv rfl ?_))
   refine .m rfl rfl rfl (.add rfl rfl rfl (by omega) (by omega)) ?_
   refine .mv rfl (.nil ?_)
   refine hKL1 (k + 1) _ _ ?_ ?_ ⟨rfl, rfl, rfl, trivial⟩
   ·
    refine ⟨rfl, ?_⟩
    refine ⟨by omega, fun i hx => ?_⟩
    by_cases hltq : i < k
    · exact ha1 i hltq
    · obtain rfl : i = k := by omega
      first | assumption | omega | simp_all
   omega
  try simp only [sps] at h9
  refine .exit ?_
  refine hK2 _ _ (.seq (fun K9 hK9 => .region (.mv rfl (.nil (hK9 _ _ ?_)))))
  refine .ret ?_
  refine hret _ _ ?_
  refine ⟨_, rfl, ?_⟩
  exact .of (congrArg _ (Bool.eq_false_iff.2 fun hc => by
    obtain ⟨i, hi, e⟩ := mem_getD (List.contains_iff_mem.1 hc)
    exact ha1 i (by omega) e))
theorem l05Sections_c {c : Cat} {p : CatP} {f : Int} {H : GHeap} (hin : c.In H p := by assumption) (hS : c.Shape := by assumption) (h0 : 0 ≤ f := by omega) (h1 : f < c.src.length := by omega) :
    GCalls Try.prog 157 [.agg (c.cells p).toArray, .int .i64 f] H (NewInts 2 H (c.sect f)) := by
  refine GCalls.body (N := 64) (rs := [.tmp 4]) Try.func157 rfl rfl rfl rfl (fun Qx hret hend => ?_)
  refine .forget (fr' := [(0, some _), (1, some _)]) ⟨rfl, rfl, trivial⟩ ?_
  have hle := GHeap.Le.refl H
  have base_hin := hin
  have q1 := hS.tl
  have q2 := hS.n40
  have q3 := hS.il
  have q4 := hS.src f.toNat (by omega)
  have q5 := hS.tgt f.toNat (by omega)
  have q6 := hS.cl
  refine .seq (fun K1 hK1 => .region ?_)
  refine .r rfl rfl rfl (.boxR rfl sz_31_D rfl) ?_
  rintro _ H2 ⟨g2, rfl, le2, ge2, at2⟩
  replace hle := hle.trans le2
  have lt_at2 := GHeap.ltg at2
  replace hin := base_hin.mono hle
  have hb2 : Cat.At _ g2 0 c p := ⟨Mem.of_get at2, hin⟩
  refine .mv rfl (.nil (hK1 _ _ (.seq (fun K2 hK2 => .region ?_))))
  refine .r rfl rfl rfl (.litR rfl sl_22_A ze_2_E rfl rfl (by omega) (by omega) rfl rfl) ?_
  rintro _ H7 ⟨g7, rfl, le7, ge7, at7⟩
  replace hle := hle.trans le7
  replace at2 := le7.2 _ _ at2
  have lt_at7 := GHeap.ltg at7
  replace hin := base_hin.mono hle
  clear hb2
  have hb2 : Cat.At _ g2 0 c p := ⟨Mem.of_get at2, hin⟩
  replace at7 : GHeap.get H7 g7 = some (.row (ints []) 2 true) := at7
  refine .mv rfl (.nil (hK2 _ _ (.seq (fun K3 hK3 => .seq (fun K4 hK4 => .region (.mv rfl (.nil (hK4 _ _ ?_))))))))
  refine .block ?_
  refine .loopR (σ := Nat × Nat × Nat) [(1, some _), (2, some _)] (fun (k, gL5, nL5) => [(6, some (.int .i64 (k : Int))), (5, some (.slice (some ⟨gL5, 0, none⟩) nL5 nL5))]) (fun (k, gL5, nL5) H' => St [g7] H7 H' ∧ H'.get gL5 = some (.row (ints (filtN k fun g => (decide (c.src.getD g 0 = c.T f) && decide (c.tgt.getD g 0 = c.S f)) && decide (c.th g f = c.I (c.T f)))) 2 true) ∧ (gL5 = g7 ∨ H7.next ≤ gL5) ∧ nL5 = (filtN k fun g => (decide (c.src.getD g 0 = c.T f) && decide (c.tgt.getD g 0 = c.S f)) && decide (c.th g f = c.I (c.T f))).length ∧ k ≤ c.src.length) (fun (k, gL5, nL5) => c.src.length - k) ((0, _, _)) ⟨rfl, rfl, trivial⟩ ⟨rfl, rfl, trivial⟩ ?_ ?_
  ·
   refine ⟨.refl _ _, by assumption, .inl rfl, by rfl, ?_⟩
   omega
  rintro ⟨k, gL5, nL5⟩ HL1 ⟨lst1, at_L5, pl_L5, ln_L5, hI⟩ KL1 hKL1
  refine .forget (fr' := [(6, some (.int .i64 (k : Int))), (5, some (.slice (some ⟨gL5, 0, none⟩) nL5 nL5)), (1, some _), (2, some _)]) ⟨rfl, rfl, rfl, rfl, trivial⟩ ?_
  have ge_L5 : H.next ≤ gL5 := by omega
  have nx_HL1 := lst1.nx
  replace hle := hle.st lst1 (fun k hk => ⟨by omega, trivial⟩)
  replace at2 := lst1.same _ _ ⟨(by first | assumption | omega), trivial⟩ at2
  replace hin := base_hin.mono hle
  clear hb2
  have hb2 : Cat.At _ g2 0 c p := ⟨Mem.of_get at2, hin⟩
  obtain ⟨-, c12, c22, c32, c42, i12, i22, i32, i42⟩ := hb2.get
  have hfl := filtN_le k fun g => (decide (c.src.getD g 0 = c.T f) && decide (c.tgt.getD g 0 = c.S f)) && decide (c.th g f = c.I (c.T f))
  refine .seq (fun K5 hK5 => .seq (fun K6 hK6 => .region (.mv rfl (.m rfl rfl rfl (.fieldAddr fo_31_1_B rfl) ?_))))
  refine .m rfl rfl rfl (.load on_22_B rfl (by first | assumption | exact Mem.of_get at2 1 _ rfl)) ?_
  refine .m rfl rfl rfl (.len sl_22_A rfl) (.m rfl rfl rfl (.cmp rfl rfl rfl) (.nil (hK6 _ _ ?_)))
  refine .cond rfl (fun h12 => ?_) (fun h12 => ?_)
  ·
   simp only [sps] at h12
   have q9 := hS.row k (by omega)
   have q10 := i42.2 k (by omega)
   refine .skip ?_
   refine hK5 _ _ (.seq (fun K7 hK7 => ?_))
   refine .block ?_
   refine .seq (fun K8 hK8 => ?_)
   refine .regionD mo_B (.q 0 (.q 1 (.q 2 (.q 3 (.q 4 (.q 5 (.q 6 (.q 7 (.q 8 (.q 9 (.q 10 (.q 11 (.q 12 (.q 13 (.q 14 (.q 15 (.q 16 (.q 17 (.q 18 (.q 19 (.q 20 (.q 21 (.q 22 (.q 23 (.q 24 (.q 25 (.q 26 (.q 27 (.q 28 (.q 29 (.q 30 (.q 31 (.q 32 (.q 33 (.q 34 (.q 35 (.q 36 (.q 37 (.q 38 (.q 39 (.q 40 (.q 41 (.q 42 (.q 43 (.done))))))))))))))))))))))))))))))))))))))))))))) (by kernel_rfl) ?_
   refine .m rfl rfl rfl rfl (.refl _) (.fieldAddr fo_31_1_B rfl) ?_
   refine .m rfl rfl rfl rfl (.refl _) (.load on_22_B rfl (by first | assumption | exact Mem.of_get at2 1 _ rfl)) ?_
   refine .mv rfl rfl ?_
   refine .m rfl rfl rfl rfl (.refl _) (.idxN sl_22_A (by assumption) rfl rfl (by omega)) ?_
   refine .m rfl rfl rfl rfl (.refl _) (.loadI on_2_A (by assumption) rfl (by omega)) ?_
   refine .m rfl rfl rfl rfl (.refl _) (.fieldAddr fo_31_2_B rfl) ?_
   refine .m rfl rfl rfl rfl (.refl _) (.load on_22_B rfl (by first | assumption | exact Mem.of_get at2 2 _ rfl)) ?_
   refine .mv rfl rfl ?_
   refine .m rfl rfl rfl rfl (.refl _) (.idx1 sl_22_A (by assumption) rfl rfl (by omega) (by omega)) ?_
   refine .m rfl rfl rfl rfl (.refl _) (.loadI on_2_A (by assumption) rfl (by omega)) ?_
   refine .m rfl rfl rfl rfl (.refl _) (.cmp rfl rfl rfl) (.mv rfl rfl ?_)
   refine .split (fun h26 => ?_) (fun h26 => ?_)
   ·
    try simp only [sps] at h26
    refine .mg rfl rfl rfl rfl rfl rfl (.refl _) (.fieldAddr fo_31_2_B rfl) ?_
    refine .mg rfl rfl rfl rfl rfl rfl (.refl _) (.load on_22_B rfl (by first | assumption | exact Mem.of_get at2 2 _ rfl)) ?_
    refine .mg rfl rfl rfl rfl rfl rfl (.refl _) (.move rfl) ?_
    refine .mg rfl rfl rfl rfl rfl rfl (.refl _) (.idxN sl_22_A (by assumption) rfl rfl (by omega)) ?_
    refine .mg rfl rfl rfl rfl rfl rfl (.refl _) (.loadI on_2_A (by assumption) rfl (by omega)) ?_
    refine .mg rfl rfl rfl rfl rfl rfl (.refl _) (.fieldAddr fo_31_1_B rfl) ?_
    refine .mg rfl rfl rfl rfl rfl rfl (.refl _) (.load on_22_B rfl (by first | assumption | exact Mem.of_get at2 1 _ rfl)) ?_
    refine .mg rfl rfl rfl rfl rfl rfl (.refl _) (.move rfl) ?_
    refine .mg rfl rfl rfl rfl rfl rfl (.refl _) (.idx1 sl_22_A (by assumption) rfl rfl (by omega) (by omega)) ?_
    refine .mg rfl rfl rfl rfl rfl rfl (.refl _) (.loadI on_2_A (by assumption) rfl (by omega)) ?_
    refine .mg rfl rfl rfl rfl rfl rfl (.refl _) (.cmp rfl rfl rfl) (.m rfl rfl rfl rfl (.refl _) (.pickT rfl rfl) (.mv rfl rfl ?_))
    refine .split (fun h39 => ?_) (fun h39 => ?_)
    ·
     try simp only [sps] at h39
     refine .mg rfl rfl rfl rfl rfl rfl (.refl _) (.fieldAddr fo_31_4_B rfl) ?_
     refine .mg rfl rfl rfl rfl rfl rfl (.refl _) (.load on_23_B rfl (by first | assumption | exact Mem.of_get at2 4 _ rfl)) ?_
     refine .mg rfl rfl rfl rfl rfl rfl (.refl _) (.move rfl) ?_
     refine .mg rfl rfl rfl rfl rfl rfl (.refl _) (.idxN sl_23_B (Intss.sl (by assumption)) rfl rfl (by omega)) ?_
     refine .mg rfl rfl rfl rfl rfl rfl (.refl _) (.loadR on_22_B (by assumption) rfl (by omega)) ?_
     refine .mg rfl rfl rfl rfl rfl rfl (.refl _) (.move rfl) ?_
     refine .mg rfl rfl rfl rfl rfl rfl (.refl _) (.idx1 sl_22_A (by assumption) rfl rfl (by omega) (by omega)) ?_
     refine .mg rfl rfl rfl rfl rfl rfl (.refl _) (.loadI on_2_A (by assumption) rfl (by omega)) ?_
     refine .mg rfl rfl rfl rfl rfl rfl (.refl _) (.fieldAddr fo_31_3_B rfl) ?_
     refine .mg rfl rfl rfl rfl rfl rfl (.refl _) (.load on_22_B rfl (by first | assumption | exact Mem.of_get at2 3 _ rfl)) ?_
     refine .mg rfl rfl rfl rfl rfl rfl (.refl _) (.fieldAddr fo_31_2_B rfl) ?_
     refine .mg rfl rfl rfl rfl rfl rfl (.refl _) (.load on_22_B rfl (by first | assumption | exact Mem.of_get at2 2 _ rfl)) ?_
     refine .mg rfl rfl rfl rfl rfl rfl (.refl _) (.move rfl) ?_
     refine .mg rfl rfl rfl rfl rfl rfl (.refl _) (.idx1 sl_22_A (by assumption) rfl rfl (by omega) (by omega)) ?_
     refine .mg rfl rfl rfl rfl rfl rfl (.refl _) (.loadI on_2_A (by assumption) rfl (by omega)) ?_
     refine .mg rfl rfl rfl rfl rfl rfl (.refl _) (.idx1 sl_22_A (by assumption) rfl rfl (by omega) (by omega)) ?_
     refine .mg rfl rfl rfl rfl rfl rfl (.refl _) (.loadI on_2_A (by assumption) rfl (by omega)) ?_
     refine .mg rfl rfl rfl rfl rfl rfl (.refl _) (.cmp rfl rfl rfl) (.m rfl rfl rfl rfl (.refl _) (.pickT rfl rfl) ?_)
     refine .done ?_
     refine hK8 _ _ ?_
     refine .cond rfl (fun h58 => ?_) (fun h58 => ?_)
     ·
      try simp only [sps] at h58
      refine .region (.mv rfl (.mv rfl ?_))
      refine .r rfl rfl rfl (.litR rfl sl_22_A ze_2_E rfl rfl (by omega) (by omega) rfl rfl) ?_
      rintro _ H61 ⟨g61, rfl, le61, ge61, at61⟩
      replace hle := hle.trans le61
      replace lst1 := lst1.le le61
      replace at2 := le61.2 _ _ at2
      replace at_L5 := le61.2 _ _ at_L5
      have lt_at61 := GHeap.ltg at61
      replace hin := base_hin.mono hle
      clear hb2 c12 c22 c32 c42 i12 i22 i32 i42
      have hb2 : Cat.At _ g2 0 c p := ⟨Mem.of_get at2, hin⟩
      refine .r rfl rfl rfl (.appendI rfl sl_22_A ze_2_E rfl by_2_E sl_22_A rfl rfl (by assumption) (by assumption) (by first | omega | (simp <;> omega)) (by omega) (by omega)) ?_
      rintro _ H62 ⟨g62, rfl, st62, ge62, at62⟩
      replace hle := hle.st st62 (fun k hk => ⟨by omega, trivial⟩)
      replace lst1 := lst1.st st62 (fun k hk ho => by simp only [out, and_true] at ho ⊢ <;> first | exact ho | exact ho.1 | exact ho.2 | exact ho.2.1 | exact ho.2.2 | exact ho.2.2.1 | exact ho.2.2.2 | omega)
      replace at2 := st62.same _ _ ⟨(by first | assumption | omega), trivial⟩ at2
      replace hin := base_hin.mono hle
      clear hb2
      have hb2 : Cat.At _ g2 0 c p := ⟨Mem.of_get at2, hin⟩
      refine .mv rfl (.nil (hK7 _ _ (.region (.mv rfl ?_))))
      refine .m rfl rfl rfl (.add rfl rfl rfl (by omega) (by omega)) ?_
      refine .mv rfl (.nil ?_)
      refine hKL1 ((k + 1, _, _)) _ _ ?_ ?_ ⟨rfl, rfl, rfl, rfl, trivial⟩
      ·
       refine ⟨lst1, by (rw [filtN_T (by simp only [sps]; simp only [Cat.S, Cat.T, Cat.th, Cat.I, Int.toNat_natCast]; omega)]; assumption), by omega, by (rw [filtN_T (by simp only [sps]; simp only [Cat.S, Cat.T, Cat.th, Cat.I, Int.toNat_natCast]; omega)] <;> (first | omega | (simp only [List.length_append, List.length_cons, List.length_nil] <;> omega))), ?_⟩
       omega
      (dsimp only; omega)
     try simp only [sps] at h58
     refine .skip ?_
     refine hK7 _ _ (.region (.mv rfl ?_))
     refine .m rfl rfl rfl (.add rfl rfl rfl (by omega) (by omega)) ?_
     refine .mv rfl (.nil ?_)
     refine hKL1 ((k + 1, _, _)) _ _ ?_ ?_ ⟨rfl, rfl, rfl, rfl, trivial⟩
     ·
      refine ⟨lst1, by (rw [filtN_F (by simp only [sps]; simp only [Cat.S, Cat.T, Cat.th, Cat.I, Int.toNat_natCast]; omega)]; assumption), by omega, by (rw [filtN_F (by simp only [sps]; simp only [Cat.S, Cat.T, Cat.th, Cat.I, Int.toNat_natCast]; omega)] <;> (first | omega | (simp only [List.length_append, List.length_cons, List.length_nil] <;> omega))), ?_⟩
      omega
     (dsimp only; omega)
    try simp only [sps] at h39
    refine .sg rfl rfl rfl rfl rfl rfl (.sg rfl rfl rfl rfl rfl rfl (.sg rfl rfl rfl rfl rfl rfl (.sg rfl rfl rfl rfl rfl rfl (.sg rfl rfl rfl rfl rfl rfl (.sg rfl rfl rfl rfl rfl rfl (.sg rfl rfl rfl rfl rfl rfl (.sg rfl rfl rfl rfl rfl rfl (.sg rfl rfl rfl rfl rfl rfl (.sg rfl rfl rfl rfl rfl rfl (.sg rfl rfl rfl rfl rfl rfl (.sg rfl rfl rfl rfl rfl rfl (.sg rfl rfl rfl rfl rfl rfl (.sg rfl rfl rfl rfl rfl rfl (.sg rfl rfl rfl rfl rfl rfl (.sg rfl rfl rfl rfl rfl rfl ?_)))))))))))))))
    refine .sg rfl rfl rfl rfl rfl rfl (.sg rfl rfl rfl rfl rfl rfl (.m rfl rfl rfl rfl (.refl _) (.pickF rfl rfl) ?_))
    refine .done ?_
    refine hK8 _ _ ?_
    refine .condF rfl ?_
    refine .skip ?_
    refine hK7 _ _ (.region (.mv rfl ?_))
    refine .m rfl rfl rfl (.add rfl rfl rfl (by omega) (by omega)) ?_
    refine .mv rfl (.nil ?_)
    refine hKL1 ((k + 1, _, _)) _ _ ?_ ?_ ⟨rfl, rfl, rfl, rfl, trivial⟩
    ·
     refine ⟨lst1, by (rw [filtN_F (by simp only [sps]; simp only [Cat.S, Cat.T, Cat.th, Cat.I, Int.toNat_natCast]; omega)]; assumption), by omega, by (rw [filtN_F (by simp only [sps]; simp only [Cat.S, Cat.T, Cat.th, Cat.I, Int.toNat_natCast]; omega)] <;> (first | omega | (simp only [List.length_append, List.length_cons, List.length_nil] <;> omega))), ?_⟩
     omega
    (dsimp only; omega)
   try simp only [sps] at h26
   refine .sg rfl rfl rfl rfl rfl rfl (.sg rfl rfl rfl rfl rfl rfl (.sg rfl rfl rfl rfl rfl rfl (.sg rfl rfl rfl rfl rfl rfl (.sg rfl rfl rfl rfl rfl rfl (.sg rfl rfl rfl rfl rfl rfl (.sg rfl rfl rfl rfl rfl rfl (.sg rfl rfl rfl rfl rfl rfl (.sg rfl rfl rfl rfl rfl rfl (.sg rfl rfl rfl rfl rfl rfl (.sg rfl rfl rfl rfl rfl rfl (.m rfl rfl rfl rfl (.refl _) (.pickF rfl rfl) (.mv rfl rfl (.sg rfl rfl rfl rfl rfl rfl (.sg rfl rfl rfl rfl rfl rfl (.sg rfl rfl rfl rfl rfl rfl ?_)))))))))))))))
   refine .sg rfl rfl rfl rfl rfl rfl (.sg rfl rfl rfl rfl rfl rfl (.sg rfl rfl rfl rfl rfl rfl (.sg rfl rfl rfl rfl rfl rfl (.sg rfl rfl rfl rfl rfl rfl (.sg rfl rfl rfl rfl rfl rfl (.sg rfl rfl rfl rfl rfl rfl (.sg rfl rfl rfl rfl rfl rfl (.sg rfl rfl rfl rfl rfl rfl (.sg rfl rfl rfl rfl rfl rfl (.sg rfl rfl rfl rfl rfl rfl (.sg rfl rfl rfl rfl rfl rfl (.sg rfl rfl rfl rfl rfl rfl (.sg rfl rfl rfl rfl rfl rfl (.sg rfl rfl rfl rfl rfl rfl (.m rfl rfl rfl rfl (.refl _) (.pickF rfl rfl) ?_)))))))))))))))
   refine .done ?_
   refine hK8 _ _ ?_
   refine .condF rfl ?_
   refine .skip ?_
   refine hK7 _ _ (.region (.mv rfl ?_))
   refine .m rfl rfl rfl (.add rfl rfl rfl (by omega) (by omega)) ?_
   refine .mv rfl (.nil ?_)
   refine hKL1 ((k + 1, _, _)) _ _ ?_ ?_ ⟨rfl, rfl, rfl, rfl, trivial⟩
   ·
    refine ⟨lst1, by (rw [filtN_F (by simp only [sps]; simp only [Cat.S, Cat.T, Cat.th, Cat.I, Int.toNat_natCast]; omega)]; assumption), by omega, by (rw [filtN_F (by simp only [sps]; simp only [Cat.S, Cat.T, Cat.th, Cat.I, Int.toNat_natCast]; omega)] <;> (first | omega | (simp only [List.length_append, List.length_cons, List.length_nil] <;> omega))), ?_⟩
    omega
   (dsimp only; omega)
  try simp only [sps] at h12
  refine .exit ?_
  refine hK3 _ _ (.seq (fun K9 hK9 => .region (.mv rfl (.mv rfl (.nil (hK9 _ _ ?_))))))
  refine .ret ?_
  refine hret _ _ ?_
  refine ⟨_, rfl, ?_⟩
  obtain rfl : k = c.src.length := by omega
  exact ⟨hle, _, by rw [ln_L5]; rfl, at_L5, ge_L5⟩
theorem l05Retractions_c {c : Cat} {p : CatP} {f : Int} {H : GHeap} (hin : c.In H p := by assumption) (hS : c.Shape := by assumption) (h0 : 0 ≤ f := by omega) (h1 : f < c.src.length := by omega) :
    GCalls Try.prog 156 [.agg (c.cells p).toArray, .int .i64 f] H (NewInts 2 H (c.retr f)) := by
  refine GCalls.body (N := 64) (rs := [.tmp 4]) Try.func156 rfl rfl rfl rfl (fun Qx hret hend => ?_)
  refine .forget (fr' := [(0, some _), (1, some _)]) ⟨rfl, rfl, trivial⟩ ?_
  have hle := GHeap.Le.refl H
  have base_hin := hin
  have q1 := hS.tl
  have q2 := hS.n40
  have q3 := hS.il
  have q4 := hS.src f.toNat (by omega)
  have q6 := hS.cl
  have q9 := hS.row f.toNat (by omega)
  refine .seq (fun K1 hK1 => .region ?_)
  refine .r rfl rfl rfl (.boxR rfl sz_31_D rfl) ?_
  rintro _ H2 ⟨g2, rfl, le2, ge2, at2⟩
  replace hle := hle.trans le2
  have lt_at2 := GHeap.ltg at2
  replace hin := base_hin.mono hle
  have hb2 : Cat.At _ g2 0 c p := ⟨Mem.of_get at2, hin⟩
  refine .mv rfl (.nil (hK1 _ _ (.seq (fun K2 hK2 => .region ?_))))
  refine .r rfl rfl rfl (.litR rfl sl_22_A ze_2_E rfl rfl (by omega) (by omega) rfl rfl) ?_
  rintro _ H7 ⟨g7, rfl, le7, ge7, at7⟩
  replace hle := hle.trans le7
  replace at2 := le7.2 _ _ at2
  have lt_at7 := GHeap.ltg at7
  replace hin := base_hin.mono hle
  clear hb2
  have hb2 : Cat.At _ g2 0 c p := ⟨Mem.of_get at2, hin⟩
  replace at7 : GHeap.get H7 g7 = some (.row (ints []) 2 true) := at7
  refine .mv rfl (.nil (hK2 _ _ (.seq (fun K3 hK3 => .seq (fun K4 hK4 => .region (.mv rfl (.nil (hK4 _ _ ?_))))))))
  refine .block ?_
  refine .loopR (σ := Nat × Nat × Nat) [(1, some _), (2, some _)] (fun (k, gL5, nL5) => [(6, some (.int .i64 (k : Int))), (5, some (.slice (some ⟨gL5, 0, none⟩) nL5 nL5))]) (fun (k, gL5, nL5) H' => St [g7] H7 H' ∧ H'.get gL5 = some (.row (ints (filtN k fun g => (decide (c.src.getD g 0 = c.T f) && decide (c.tgt.getD g 0 = c.S f)) && decide (c.th f g = c.I (c.S f)))) 2 true) ∧ (gL5 = g7 ∨ H7.next ≤ gL5) ∧ nL5 = (filtN k fun g => (decide (c.src.getD g 0 = c.T f) && decide (c.tgt.getD g 0 = c.S f)) && decide (c.th f g = c.I (c.S f))).length ∧ k ≤ c.src.length) (fun (k, gL5, nL5) => c.src.length - k) ((0, _, _)) ⟨rfl, rfl, trivial⟩ ⟨rfl, rfl, trivial⟩ ?_ ?_
  ·
   refine ⟨.refl _ _, by assumption, .inl rfl, by rfl, ?_⟩
   omega
  rintro ⟨k, gL5, nL5⟩ HL1 ⟨lst1, at_L5, pl_L5, ln_L5, hI⟩ KL1 hKL1
  refine .forget (fr' := [(6, some (.int .i64 (k : Int))), (5, some (.slice (some ⟨gL5, 0, none⟩) nL5 nL5)), (1, some _), (2, some _)]) ⟨rfl, rfl, rfl, rfl, trivial⟩ ?_
  have ge_L5 : H.next ≤ gL5 := by omega
  have nx_HL1 := lst1.nx
  replace hle := hle.st lst1 (fun k hk => ⟨by omega, trivial⟩)
  replace at2 := lst1.same _ _ ⟨(by first | assumption | omega), trivial⟩ at2
  replace hin := base_hin.mono hle
  clear hb2
  have hb2 : Cat.At _ g2 0 c p := ⟨Mem.of_get at2, hin⟩
  obtain ⟨-, c12, c22, c32, c42, i12, i22, i32, i42⟩ := hb2.get
  have hfl := filtN_le k fun g => (decide (c.src.getD g 0 = c.T f) && decide (c.tgt.getD g 0 = c.S f)) && decide (c.th f g = c.I (c.S f))
  refine .seq (fun K5 hK5 => .seq (fun K6 hK6 => .region (.mv rfl (.m rfl rfl rfl (.fieldAddr fo_31_1_B rfl) ?_))))
  refine .m rfl rfl rfl (.load on_22_B rfl (by first | assumption | exact Mem.of_get at2 1 _ rfl)) ?_
  refine .m rfl rfl rfl (.len sl_22_A rfl) (.m rfl rfl rfl (.cmp rfl rfl rfl) (.nil (hK6 _ _ ?_)))
  refine .cond rfl (fun h12 => ?_) (fun h12 => ?_)
  ·
   simp only [sps] at h12
   have q10 := i42.2 f.toNat (by omega)
   refine .skip ?_
   refine hK5 _ _ (.seq (fun K7 hK7 => ?_))
   refine .block ?_
   refine .seq (fun K8 hK8 => ?_)
   refine .regionD mo_B (.q 0 (.q 1 (.q 2 (.q 3 (.q 4 (.q 5 (.q 6 (.q 7 (.q 8 (.q 9 (.q 10 (.q 11 (.q 12 (.q 13 (.q 14 (.q 15 (.q 16 (.q 17 (.q 18 (.q 19 (.q 20 (.q 21 (.q 22 (.q 23 (.q 24 (.q 25 (.q 26 (.q 27 (.q 28 (.q 29 (.q 30 (.q 31 (.q 32 (.q 33 (.q 34 (.q 35 (.q 36 (.q 37 (.q 38 (.q 39 (.q 40 (.q 41 (.q 42 (.q 43 (.done))))))))))))))))))))))))))))))))))))))))))))) (by kernel_rfl) ?_
   refine .m rfl rfl rfl rfl (.refl _) (.fieldAddr fo_31_1_B rfl) ?_
   refine .m rfl rfl rfl rfl (.refl _) (.load on_22_B rfl (by first | assumption | exact Mem.of_get at2 1 _ rfl)) ?_
   refine .mv rfl rfl ?_
   refine .m rfl rfl rfl rfl (.refl _) (.idxN sl_22_A (by assumption) rfl rfl (by omega)) ?_
   refine .m rfl rfl rfl rfl (.refl _) (.loadI on_2_A (by assumption) rfl (by omega)) ?_
   refine .m rfl rfl rfl rfl (.refl _) (.fieldAddr fo_31_2_B rfl) ?_
   refine .m rfl rfl rfl rfl (.refl _) (.load on_22_B rfl (by first | assumption | exact Mem.of_get at2 2 _ rfl)) ?_
   refine .mv rfl rfl ?_
   refine .m rfl rfl rfl rfl (.refl _) (.idx1 sl_22_A (by assumption) rfl rfl (by omega) (by omega)) ?_
   refine .m rfl rfl rfl rfl (.refl _) (.loadI on_2_A (by assumption) rfl (by omega)) ?_
   refine .m rfl rfl rfl rfl (.refl _) (.cmp rfl rfl rfl) (.mv rfl rfl ?_)
   refine .split (fun h26 => ?_) (fun h26 => ?_)
   ·
    try simp only [sps] at h26
    refine .mg rfl rfl rfl rfl rfl rfl (.refl _) (.fieldAddr fo_31_2_B rfl) ?_
    refine .mg rfl rfl rfl rfl rfl rfl (.refl _) (.load on_22_B rfl (by first | assumption | exact Mem.of_get at2 2 _ rfl)) ?_
    refine .mg rfl rfl rfl rfl rfl rfl (.refl _) (.move rfl) ?_
    refine .mg rfl rfl rfl rfl rfl rfl (.refl _) (.idxN sl_22_A (by assumption) rfl rfl (by omega)) ?_
    refine .mg rfl rfl rfl rfl rfl rfl (.refl _) (.loadI on_2_A (by assumption) rfl (by omega)) ?_
    refine .mg rfl rfl rfl rfl rfl rfl (.refl _) (.fieldAddr fo_31_1_B rfl) ?_
    refine .mg rfl rfl rfl rfl rfl rfl (.refl _) (.load on_22_B rfl (by first | assumption | exact Mem.of_get at2 1 _ rfl)) ?_
    refine .mg rfl rfl rfl rfl rfl rfl (.refl _) (.move rfl) ?_
    refine .mg rfl rfl rfl rfl rfl rfl (.refl _) (.idx1 sl_22_A (by assumption) rfl rfl (by omega) (by omega)) ?_
    refine .mg rfl rfl rfl rfl rfl rfl (.refl _) (.loadI on_2_A (by assumption) rfl (by omega)) ?_
    refine .mg rfl rfl rfl rfl rfl rfl (.refl _) (.cmp rfl rfl rfl) (.m rfl rfl rfl rfl (.refl _) (.pickT rfl rfl) (.mv rfl rfl ?_))
    refine .split (fun h39 => ?_) (fun h39 => ?_)
    ·
     try simp only [sps] at h39
     refine .mg rfl rfl rfl rfl rfl rfl (.refl _) (.fieldAddr fo_31_4_B rfl) ?_
     refine .mg rfl rfl rfl rfl rfl rfl (.refl _) (.load on_23_B rfl (by first | assumption | exact Mem.of_get at2 4 _ rfl)) ?_
     refine .mg rfl rfl rfl rfl rfl rfl (.refl _) (.move rfl) ?_
     refine .mg rfl rfl rfl rfl rfl rfl (.refl _) (.idx1 sl_23_B (Intss.sl (by assumption)) rfl rfl (by omega) (by omega)) ?_
     refine .mg rfl rfl rfl rfl rfl rfl (.refl _) (.loadR on_22_B (by assumption) rfl (by omega)) ?_
     refine .mg rfl rfl rfl rfl rfl rfl (.refl _) (.move rfl) ?_
     refine .mg rfl rfl rfl rfl rfl rfl (.refl _) (.idxN sl_22_A (by assumption) rfl rfl (by omega)) ?_
     refine .mg rfl rfl rfl rfl rfl rfl (.refl _) (.loadI on_2_A (by assumption) rfl (by omega)) ?_
     refine .mg rfl rfl rfl rfl rfl rfl (.refl _) (.fieldAddr fo_31_3_B rfl) ?_
     refine .mg rfl rfl rfl rfl rfl rfl (.refl _) (.load on_22_B rfl (by first | assumption | exact Mem.of_get at2 3 _ rfl)) ?_
     refine .mg rfl rfl rfl rfl rfl rfl (.refl _) (.fieldAddr fo_31_1_B rfl) ?_
     refine .mg rfl rfl rfl rfl rfl rfl (.refl _) (.load on_22_B rfl (by first | assumption | exact Mem.of_get at2 1 _ rfl)) ?_
     refine .mg rfl rfl rfl rfl rfl rfl (.refl _) (.move rfl) ?_
     refine .mg rfl rfl rfl rfl rfl rfl (.refl _) (.idx1 sl_22_A (by assumption) rfl rfl (by omega) (by omega)) ?_
     refine .mg rfl rfl rfl rfl rfl rfl (.refl _) (.loadI on_2_A (by assumption) rfl (by omega)) ?_
     refine .mg rfl rfl rfl rfl rfl rfl (.refl _) (.idx1 sl_22_A (by assumption) rfl rfl (by omega) (by omega)) ?_
     refine .mg rfl rfl rfl rfl rfl rfl (.refl _) (.loadI on_2_A (by assumption) rfl (by omega)) ?_
     refine .mg rfl rfl rfl rfl rfl rfl (.refl _) (.cmp rfl rfl rfl) (.m rfl rfl rfl rfl (.refl _) (.pickT rfl rfl) ?_)
     refine .done ?_
     refine hK8 _ _ ?_
     refine .cond rfl (fun h58 => ?_) (fun h58 => ?_)
     ·
      try simp only [sps] at h58
      refine .region (.mv rfl (.mv rfl ?_))
      refine .r rfl rfl rfl (.litR rfl sl_22_A ze_2_E rfl rfl (by omega) (by omega) rfl rfl) ?_
      rintro _ H61 ⟨g61, rfl, le61, ge61, at61⟩
      replace hle := hle.trans le61
      replace lst1 := lst1.le le61
      replace at2 := le61.2 _ _ at2
      replace at_L5 := le61.2 _ _ at_L5
      have lt_at61 := GHeap.ltg at61
      replace hin := base_hin.mono hle
      clear hb2 c12 c22 c32 c42 i12 i22 i32 i42
      have hb2 : Cat.At _ g2 0 c p := ⟨Mem.of_get at2, hin⟩
      refine .r rfl rfl rfl (.appendI rfl sl_22_A ze_2_E rfl by_2_E sl_22_A rfl rfl (by assumption) (by assumption) (by first | omega | (simp <;> omega)) (by omega) (by omega)) ?_
      rintro _ H62 ⟨g62, rfl, st62, ge62, at62⟩
      replace hle := hle.st st62 (fun k hk => ⟨by omega, trivial⟩)
      replace lst1 := lst1.st st62 (fun k hk ho => by simp only [out, and_true] at ho ⊢ <;> first | exact ho | exact ho.1 | exact ho.2 | exact ho.2.1 | exact ho.2.2 | exact ho.2.2.1 | exact ho.2.2.2 | omega)
      replace at2 := st62.same _ _ ⟨(by first | assumption | omega), trivial⟩ at2
      replace hin := base_hin.mono hle
      clear hb2
      have hb2 : Cat.At _ g2 0 c p := ⟨Mem.of_get at2, hin⟩
      refine .mv rfl (.nil (hK7 _ _ (.region (.mv rfl ?_))))
      refine .m rfl rfl rfl (.add rfl rfl rfl (by omega) (by omega)) ?_
      refine .mv rfl (.nil ?_)
      refine hKL1 ((k + 1, _, _)) _ _ ?_ ?_ ⟨rfl, rfl, rfl, rfl, trivial⟩
      ·
       refine ⟨lst1, by (rw [filtN_T (by simp only [sps]; simp only [Cat.S, Cat.T, Cat.th, Cat.I, Int.toNat_natCast]; omega)]; assumption), by omega, by (rw [filtN_T (by simp only [sps]; simp only [Cat.S, Cat.T, Cat.th, Cat.I, Int.toNat_natCast]; omega)] <;> (first | omega | (simp only [List.length_append, List.length_cons, List.length_nil] <;> omega))), ?_⟩
       omega
      (dsimp only; omega)
     try simp only [sps] at h58
     refine .skip ?_
     refine hK7 _ _ (.region (.mv rfl ?_))
     refine .m rfl rfl rfl (.add rfl rfl rfl (by omega) (by omega)) ?_
     refine .mv rfl (.nil ?_)
     refine hKL1 ((k + 1, _, _)) _ _ ?_ ?_ ⟨rfl, rfl, rfl, rfl, trivial⟩
     ·
      refine ⟨lst1, by (rw [filtN_F (by simp only [sps]; simp only [Cat.S, Cat.T, Cat.th, Cat.I, Int.toNat_natCast]; omega)]; assumption), by omega, by (rw [filtN_F (by simp only [sps]; simp only [Cat.S, Cat.T, Cat.th, Cat.I, Int.toNat_natCast]; omega)] <;> (first | omega | (simp only [List.length_append, List.length_cons, List.length_nil] <;> omega))), ?_⟩
      omega
     (dsimp only; omega)
    try simp only [sps] at h39
    refine .sg rfl rfl rfl rfl rfl rfl (.sg rfl rfl rfl rfl rfl rfl (.sg rfl rfl rfl rfl rfl rfl (.sg rfl rfl rfl rfl rfl rfl (.sg rfl rfl rfl rfl rfl rfl (.sg rfl rfl rfl rfl rfl rfl (.sg rfl rfl rfl rfl rfl rfl (.sg rfl rfl rfl rfl rfl rfl (.sg rfl rfl rfl rfl rfl rfl (.sg rfl rfl rfl rfl rfl rfl (.sg rfl rfl rfl rfl rfl rfl (.sg rfl rfl rfl rfl rfl rfl (.sg rfl rfl rfl rfl rfl rfl (.sg rfl rfl rfl rfl rfl rfl (.sg rfl rfl rfl rfl rfl rfl (.sg rfl rfl rfl rfl rfl rfl ?_)))))))))))))))
    refine .sg rfl rfl rfl rfl rfl rfl (.sg rfl rfl rfl rfl rfl rfl (.m rfl rfl rfl rfl (.refl _) (.pickF rfl rfl) ?_))
    refine .done ?_
    refine hK8 _ _ ?_
    refine .condF rfl ?_
    refine .skip ?_
    refine hK7 _ _ (.region (.mv rfl ?_))
    refine .m rfl rfl rfl (.add rfl rfl rfl (by omega) (by omega)) ?_
    refine .mv rfl (.nil ?_)
    refine hKL1 ((k + 1, _, _)) _ _ ?_ ?_ ⟨rfl, rfl, rfl, rfl, trivial⟩
    ·
     refine ⟨lst1, by (rw [filtN_F (by simp only [sps]; simp only [Cat.S, Cat.T, Cat.th, Cat.I, Int.toNat_natCast]; omega)]; assumption), by omega, by (rw [filtN_F (by simp only [sps]; simp only [Cat.S, Cat.T, Cat.th, Cat.I, Int.toNat_natCast]; omega)] <;> (first | omega | (simp only [List.length_append, List.length_cons, List.length_nil] <;> omega))), ?_⟩
     omega
    (dsimp only; omega)
   try simp only [sps] at h26
   refine .sg rfl rfl rfl rfl rfl rfl (.sg rfl rfl rfl rfl rfl rfl (.sg rfl rfl rfl rfl rfl rfl (.sg rfl rfl rfl rfl rfl rfl (.sg rfl rfl rfl rfl rfl rfl (.sg rfl rfl rfl rfl rfl rfl (.sg rfl rfl rfl rfl rfl rfl (.sg rfl rfl rfl rfl rfl rfl (.sg rfl rfl rfl rfl rfl rfl (.sg rfl rfl rfl rfl rfl rfl (.sg rfl rfl rfl rfl rfl rfl (.m rfl rfl rfl rfl (.refl _) (.pickF rfl rfl) (.mv rfl rfl (.sg rfl rfl rfl rfl rfl rfl (.sg rfl rfl rfl rfl rfl rfl (.sg rfl rfl rfl rfl rfl rfl ?_)))))))))))))))
   refine .sg rfl rfl rfl rfl rfl rfl (.sg rfl rfl rfl rfl rfl rfl (.sg rfl rfl rfl rfl rfl rfl (.sg rfl rfl rfl rfl rfl rfl (.sg rfl rfl rfl rfl rfl rfl (.sg rfl rfl rfl rfl rfl rfl (.sg rfl rfl rfl rfl rfl rfl (.sg rfl rfl rfl rfl rfl rfl (.sg rfl rfl rfl rfl rfl rfl (.sg rfl rfl rfl rfl rfl rfl (.sg rfl rfl rfl rfl rfl rfl (.sg rfl rfl rfl rfl rfl rfl (.sg rfl rfl rfl rfl rfl rfl (.sg rfl rfl rfl rfl rfl rfl (.sg rfl rfl rfl rfl rfl rfl (.m rfl rfl rfl rfl (.refl _) (.pickF rfl rfl) ?_)))))))))))))))
   refine .done ?_
   refine hK8 _ _ ?_
   refine .condF rfl ?_
   refine .skip ?_
   refine hK7 _ _ (.region (.mv rfl ?_))
   refine .m rfl rfl rfl (.add rfl rfl rfl (by omega) (by omega)) ?_
   refine .mv rfl (.nil ?_)
   refine hKL1 ((k + 1, _, _)) _ _ ?_ ?_ ⟨rfl, rfl, rfl, rfl, trivial⟩
   ·
    refine ⟨lst1, by (rw [filtN_F (by simp only [sps]; simp only [Cat.S, Cat.T, Cat.th, Cat.I, Int.toNat_natCast]; omega)]; assumption), by omega, by (rw [filtN_F (by simp only [sps]; simp only [Cat.S, Cat.T, Cat.th, Cat.I, Int.toNat_natCast]; omega)] <;> (first | omega | (simp only [List.length_append, List.length_cons, List.length_nil] <;> omega))), ?_⟩
    omega
   (dsimp only; omega)
  try simp only [sps] at h12
  refine .exit ?_
  refine hK3 _ _ (.seq (fun K9 hK9 => .region (.mv rfl (.mv rfl (.nil (hK9 _ _ ?_))))))
  refine .ret ?_
  refine hret _ _ ?_
  refine ⟨_, rfl, ?_⟩
  obtain rfl : k = c.src.length := by omega
  exact ⟨hle, _, by rw [ln_L5]; rfl, at_L5, ge_L5⟩
theorem l05Inverse_c {c : Cat} {p : CatP} {f : Int} {H : GHeap} (hin : c.In H p := by assumption) (hS : c.Shape := by assumption) (h0 : 0 ≤ f := by omega) (h1 : f < c.src.length := by omega) :
    GCalls Try.prog 153 [.agg (c.cells p).toArray, .int .i64 f] H (Ret (.int .i64 (c.inv f)) H) := by
  refine GCalls.ret rfl ?_
  refine GCalls.body (N := 30) (rs := [.tmp 4]) Try.func153 rfl rfl rfl rfl (fun Qx hret hend => ?_)
  refine .forget (fr' := [(0, some _), (1, some _)]) ⟨rfl, rfl, trivial⟩ ?_
  have hle := GHeap.Le.refl H
  have base_hin := hin
  have q2 := hS.n40
  have q3 : (c.retr f).length ≤ _ := filtN_le _ _
  have q4 : (c.sect f).length ≤ _ := filtN_le _ _
  refine .seq (fun K1 hK1 => .region ?_)
  refine .r rfl rfl rfl (.boxR rfl sz_31_D rfl) ?_
  rintro _ H2 ⟨g2, rfl, le2, ge2, at2⟩
  replace hle := hle.trans le2
  replace hin := base_hin.mono hle
  have hb2 : Cat.At _ g2 0 c p := ⟨Mem.of_get at2, hin⟩
  have hi2 := hb2.2
  refine .mv rfl (.nil (hK1 _ _ (.seq (fun K2 hK2 => ?_))))
  refine .regionD mo_B (.q 0 (.q 1 (.q 3 (.q 4 (.c 2 1 (.c 5 0 (.q 6 (.q 7 (.done))))))))) (by kernel_rfl) ?_
  refine .m rfl rfl rfl rfl (.refl _) (.loadM ag_31_D rfl ⟨rfl, Mem.of_get at2⟩) ?_
  refine .mv rfl rfl ?_
  refine .m rfl rfl rfl rfl (.refl _) (.loadM ag_31_D rfl ⟨rfl, Mem.of_get at2⟩) ?_
  refine .mv rfl rfl ?_
  refine .call1 rfl rfl rfl rfl rfl @Try.call156 rfl (l05Retractions_c) ?_
  rintro _ H10 ⟨le10, g10, rfl, at10, ge10⟩
  have hbl := le10
  refine ⟨hbl, ?_⟩
  replace hle := hle.trans le10
  replace at2 := le10.2 _ _ at2
  replace hin := base_hin.mono hle
  clear hb2 hi2
  have hb2 : Cat.At _ g2 0 c p := ⟨Mem.of_get at2, hin⟩
  have hi2 := hb2.2
  refine .call0 rfl rfl rfl rfl rfl @Try.call157 rfl (l05Sections_c) ?_
  rintro _ H13 ⟨le13, g13, rfl, at13, ge13⟩
  replace hle := hle.trans le13
  replace at2 := le13.2 _ _ at2
  replace at10 := le13.2 _ _ at10
  replace hin := base_hin.mono hle
  clear hb2 hi2
  have hb2 : Cat.At _ g2 0 c p := ⟨Mem.of_get at2, hin⟩
  have i10 := Ints.of_get at10
  have i13 := Ints.of_get at13
  refine .mv rfl rfl (.mv rfl rfl ?_)
  refine .done ?_
  refine hK2 _ _ (.seq (fun K3 hK3 => .seq (fun K4 hK4 => .region (.mv rfl (.nil (hK4 _ _ ?_))))))
  refine .block ?_
  refine .loopR (σ := Nat) [(5, some _), (6, some _)] (fun k => [(7, some (.int .i64 (k : Int)))]) (fun k H' => H13 = H' ∧ (k : Int) ≤ (c.retr f).length ∧ ∀ i, i < k → (c.sect f).contains ((c.retr f).getD i 0) = false) (fun k => ((c.retr f).length - k : Int).toNat) (0) ⟨rfl, rfl, trivial⟩ ⟨rfl, trivial⟩ ?_ ?_
  ·
   refine ⟨rfl, ?_⟩
   exact ⟨by omega, fun _ _ => by omega⟩
  rintro k _ ⟨rfl, hI⟩ KL1 hKL1
  refine .forget (fr' := [(7, some (.int .i64 (k : Int))), (5, some _), (6, some _)]) ⟨rfl, rfl, rfl, trivial⟩ ?_
  obtain ⟨hk1, ha1⟩ := hI
  refine .seq (fun K5 hK5 => .seq (fun K6 hK6 => .region (.mv rfl (.mv rfl (.m rfl rfl rfl (.len sl_22_A rfl) (.m rfl rfl rfl (.cmp rfl rfl rfl) (.nil (hK6 _ _ ?_))))))))
  refine .cond rfl (fun h17 => ?_) (fun h17 => ?_)
  ·
   try simp only [sps] at h17
   refine .skip ?_
   refine hK5 _ _ (.seq (fun K7 hK7 => ?_))
   refine .block ?_
   refine .seq (fun K8 hK8 => .region (.mv rfl (.mv rfl (.mv rfl ?_))))
   refine .m rfl rfl rfl (.idxN sl_22_A (by first | assumption | exact SlA.of_row at10 (by first | rfl | (simp; done) | (simp <;> omega))) rfl rfl (by omega)) ?_
   refine .m rfl rfl rfl (.loadI on_2_A (by first | assumption | exact Ints.of_get at10) rfl (by omega)) ?_
   refine .callQ rfl rfl rfl rfl @Try.call158 rfl (l01Has_c) ?_
   refine .nil (hK8 _ _ ?_)
   refine .cond rfl (fun h25 => ?_) (fun h25 => ?_)
   ·
    try simp only [sps] at h25
    refine .seq (fun K9 hK9 => .region (.mv rfl (.mv rfl ?_)))
    refine .m rfl rfl rfl (.idxN sl_22_A (by first | assumption | exact SlA.of_row at10 (by first | rfl | (simp; done) | (simp <;> omega))) rfl rfl (by omega)) ?_
    refine .m rfl rfl rfl (.loadI on_2_A (by first | assumption | exact Ints.of_get at10) rfl (by omega)) ?_
    refine .mv rfl (.nil (hK9 _ _ ?_))
    refine .ret ?_
    refine hret _ _ ?_
    refine ⟨_, rfl, ?_⟩
    exact ⟨congrArg _ (by rw [← c.inv_retr]; exact firstIn_some (i := k) (by omega) h25 ha1), hle⟩
   try simp only [sps] at h25
   refine .skip ?_
   refine hK7 _ _ (.region (.mv rfl ?_))
   refine .m rfl rfl rfl (.add rfl rfl rfl (by omega) (by omega)) ?_
   refine .mv rfl (.nil ?_)
   refine hKL1 (k + 1) _ _ ?_ ?_ ⟨rfl, rfl, rfl, trivial⟩
   ·
    refine ⟨rfl, ?_⟩
    refine ⟨by omega, fun i hx => ?_⟩
    by_cases hltq : i < k
    · exact ha1 i hltq
    · obtain rfl : i = k := by omega
      first | assumption | omega | simp_all
   omega
  try simp only [sps] at h17
  refine .exit ?_
  refine hK3 _ _ (.seq (fun K10 hK10 => .region (.mv rfl (.nil (hK10 _ _ ?_)))))
  refine .ret ?_
  refine hret _ _ ?_
  refine ⟨_, rfl, ?_⟩
  exact ⟨congrArg _ (by rw [← c.inv_retr]; exact firstIn_none fun i hi => ha1 i (by omega)), hle⟩
end Go.Proofs.Ytagkeabmdodfiaa
namespace Go.GL
open Go.RowKit

theorem CDo.makeIN {P : Program} {H : GHeap} {fr : Slots} {o : Oper} {t e : TypeId} {x y : Operand} {k k' : IntKind} {l c bytes : Nat} (ho : o.op = .makeSlice t x y) (ht : sliceT P t = some (e, 1)) (hz : zeroT P e = some ([.int .i64 0], 1)) (hb : (P.info? e).map (·.bytes) = some bytes)
    (hx : ev fr x = some (.int k (l : Int))) (hy : ev fr y = some (.int k' (c : Int))) (hlc : l ≤ c) (hsm : bytes * c ≤ 281474976710656) (hsc : c ≤ 9223372036854775807) :
    CDo P o fr H (fun r H' => ∃ g, r = some (.slice (some ⟨g, 0, none⟩) l l) ∧ H.Le H' ∧ H.next ≤ g ∧ H'.get g = some (.row (ints (List.replicate l 0)) e true)) := by
  have := CDo.makeI (P := P) (H := H) (fr := fr) (o := o) ho ht hz hb hx hy (by omega) (by omega) (by omega) (by omega)
  simpa using this

def thenL (f g : List Int) : List Int := f.map fun y => g.getD y.toNat 0
@[simp] theorem length_thenL (f g : List Int) : (thenL f g).length = f.length := by simp [thenL]
def Cat.Alike (c : Cat) (x y : Int) : Prop := ∃ g ∈ c.hom x y, 0 ≤ c.inv g
noncomputable def Cat.iso (c : Cat) (x y : Int) : Int := firstIn (c.hom x y) fun g => decide (0 ≤ c.inv g)
end Go.GL
namespace Go.Proofs.Ytagkeabmdodfiaa
open Go Go.GL Go.RowKit Go.Proofs
theorem l02Hom_c {c : Cat} {p : CatP} {x y : Int} {H : GHeap} (hin : c.In H p := by assumption) (hS : c.Shape := by assumption) :
    GCalls Try.prog 85 [.agg (c.cells p).toArray, .int .i64 x, .int .i64 y] H (NewInts 2 H (c.hom x y)) := by
  refine GCalls.body (N := 38) (rs := [.tmp 6]) Try.func85 rfl rfl rfl rfl (fun Qx hret hend => ?_)
  refine .forget (fr' := [(0, some _), (1, some _), (2, some _)]) ⟨rfl, rfl, rfl, trivial⟩ ?_
  have hle := GHeap.Le.refl H
  have base_hin := hin
  have q1 := hS.tl
  have q2 := hS.n40
  refine .seq (fun K1 hK1 => .region ?_)
  refine .r rfl rfl rfl (.boxR rfl sz_31_D rfl) ?_
  rintro _ H3 ⟨g3, rfl, le3, ge3, at3⟩
  replace hle := hle.trans le3
  have lt_at3 := GHeap.ltg at3
  replace hin := base_hin.mono hle
  have hb3 : Cat.At _ g3 0 c p := ⟨Mem.of_get at3, hin⟩
  refine .mv rfl (.nil (hK1 _ _ (.seq (fun K2 hK2 => .region ?_))))
  refine .r rfl rfl rfl (.litR rfl sl_22_A ze_2_E rfl rfl (by omega) (by omega) rfl rfl) ?_
  rintro _ H9 ⟨g9, rfl, le9, ge9, at9⟩
  replace hle := hle.trans le9
  replace at3 := le9.2 _ _ at3
  have lt_at9 := GHeap.ltg at9
  replace hin := base_hin.mono hle
  clear hb3
  have hb3 : Cat.At _ g3 0 c p := ⟨Mem.of_get at3, hin⟩
  replace at9 : GHeap.get H9 g9 = some (.row (ints []) 2 true) := at9
  refine .mv rfl (.nil (hK2 _ _ (.seq (fun K3 hK3 => .seq (fun K4 hK4 => .region (.mv rfl (.nil (hK4 _ _ ?_))))))))
  refine .block ?_
  refine .loopR (σ := Nat × Nat × Nat) [(1, some _), (2, some _), (3, some _)] (fun (k, gL7, nL7) => [(8, some (.int .i64 (k : Int))), (7, some (.slice (some ⟨gL7, 0, none⟩) nL7 nL7))]) (fun (k, gL7, nL7) H' => St [g9] H9 H' ∧ H'.get gL7 = some (.row (ints (filtN k fun f => decide (c.src.getD f 0 = x) && decide (c.tgt.getD f 0 = y))) 2 true) ∧ (gL7 = g9 ∨ H9.next ≤ gL7) ∧ nL7 = (filtN k fun f => decide (c.src.getD f 0 = x) && decide (c.tgt.getD f 0 = y)).length ∧ k ≤ c.src.length) (fun (k, gL7, nL7) => c.src.length - k) ((0, _, _)) ⟨rfl, rfl, rfl, trivial⟩ ⟨rfl, rfl, trivial⟩ ?_ ?_
  ·
   refine ⟨.refl _ _, by assumption, .inl rfl, by rfl, ?_⟩
   omega
  rintro ⟨k, gL7, nL7⟩ HL1 ⟨lst1, at_L7, pl_L7, ln_L7, hI⟩ KL1 hKL1
  refine .forget (fr' := [(8, some (.int .i64 (k : Int))), (7, some (.slice (some ⟨gL7, 0, none⟩) nL7 nL7)), (1, some _), (2, some _), (3, some _)]) ⟨rfl, rfl, rfl, rfl, rfl, trivial⟩ ?_
  have ge_L7 : H.next ≤ gL7 := by omega
  have nx_HL1 := lst1.nx
  replace hle := hle.st lst1 (fun k hk => ⟨by omega, trivial⟩)
  replace at3 := lst1.same _ _ ⟨(by first | assumption | omega), trivial⟩ at3
  replace hin := base_hin.mono hle
  clear hb3
  have hb3 : Cat.At _ g3 0 c p := ⟨Mem.of_get at3, hin⟩
  obtain ⟨-, c13, c23, -, -, i13, i23, -, -⟩ := hb3.get
  have hfl := filtN_le k fun f => decide (c.src.getD f 0 = x) && decide (c.tgt.getD f 0 = y)
  refine .seq (fun K5 hK5 => .seq (fun K6 hK6 => .region (.mv rfl (.m rfl rfl rfl (.fieldAddr fo_31_1_B rfl) ?_))))
  refine .m rfl rfl rfl (.load on_22_B rfl (by first | assumption | exact Mem.of_get at3 1 _ rfl)) ?_
  refine .m rfl rfl rfl (.len sl_22_A rfl) (.m rfl rfl rfl (.cmp rfl rfl rfl) (.nil (hK6 _ _ ?_)))
  refine .cond rfl (fun h14 => ?_) (fun h14 => ?_)
  ·
   try simp only [sps] at h14
   refine .skip ?_
   refine hK5 _ _ (.seq (fun K7 hK7 => ?_))
   refine .block ?_
   refine .seq (fun K8 hK8 => .region (.m rfl rfl rfl (.fieldAddr fo_31_1_B rfl) ?_))
   refine .m rfl rfl rfl (.load on_22_B rfl (by first | assumption | exact Mem.of_get at3 1 _ rfl)) ?_
   refine .mv rfl ?_
   refine .m rfl rfl rfl (.idxN sl_22_A (by assumption) rfl rfl (by omega)) ?_
   refine .m rfl rfl rfl (.loadI on_2_A (by assumption) rfl (by omega)) ?_
   refine .mv rfl (.m rfl rfl rfl (.cmp rfl rfl rfl) (.mv rfl ?_))
   refine .split (fun h24 => ?_) (fun h24 => ?_)
   ·
    try simp only [sps] at h24
    refine .mg rfl rfl rfl rfl rfl (.fieldAddr fo_31_2_B rfl) ?_
    refine .mg rfl rfl rfl rfl rfl (.load on_22_B rfl (by first | assumption | exact Mem.of_get at3 2 _ rfl)) ?_
    refine .mg rfl rfl rfl rfl rfl (.move rfl) ?_
    refine .mg rfl rfl rfl rfl rfl (.idxN sl_22_A (by assumption) rfl rfl (by omega)) ?_
    refine .mg rfl rfl rfl rfl rfl (.loadI on_2_A (by assumption) rfl (by omega)) ?_
    refine .mg rfl rfl rfl rfl rfl (.move rfl) (.mg rfl rfl rfl rfl rfl (.cmp rfl rfl rfl) (.m rfl rfl rfl (.pickT rfl rfl) (.nil (hK8 _ _ ?_))))
    refine .cond rfl (fun h32 => ?_) (fun h32 => ?_)
    ·
     try simp only [sps] at h32
     refine .region (.mv rfl (.mv rfl ?_))
     refine .r rfl rfl rfl (.litR rfl sl_22_A ze_2_E rfl rfl (by omega) (by omega) rfl rfl) ?_
     rintro _ H35 ⟨g35, rfl, le35, ge35, at35⟩
     replace hle := hle.trans le35
     replace lst1 := lst1.le le35
     replace at3 := le35.2 _ _ at3
     replace at_L7 := le35.2 _ _ at_L7
     have lt_at35 := GHeap.ltg at35
     replace hin := base_hin.mono hle
     clear hb3 c13 c23 i13 i23
     have hb3 : Cat.At _ g3 0 c p := ⟨Mem.of_get at3, hin⟩
     refine .r rfl rfl rfl (.appendI rfl sl_22_A ze_2_E rfl by_2_E sl_22_A rfl rfl (by assumption) (by assumption) (by first | omega | (simp <;> omega)) (by omega) (by omega)) ?_
     rintro _ H36 ⟨g36, rfl, st36, ge36, at36⟩
     replace hle := hle.st st36 (fun k hk => ⟨by omega, trivial⟩)
     replace lst1 := lst1.st st36 (fun k hk ho => by simp only [out, and_true] at ho ⊢ <;> first | exact ho | exact ho.1 | exact ho.2 | exact ho.2.1 | exact ho.2.2 | exact ho.2.2.1 | exact ho.2.2.2 | omega)
     replace at3 := st36.same _ _ ⟨(by first | assumption | omega), trivial⟩ at3
     replace hin := base_hin.mono hle
     clear hb3
     have hb3 : Cat.At _ g3 0 c p := ⟨Mem.of_get at3, hin⟩
     refine .mv rfl (.nil (hK7 _ _ (.region (.mv rfl ?_))))
     refine .m rfl rfl rfl (.add rfl rfl rfl (by omega) (by omega)) ?_
     refine .mv rfl (.nil ?_)
     refine hKL1 ((k + 1, _, _)) _ _ ?_ ?_ ⟨rfl, rfl, rfl, rfl, rfl, trivial⟩
     ·
      refine ⟨lst1, by (rw [filtN_T (by simp only [sps]; omega)]; assumption), by omega, by (rw [filtN_T (by simp only [sps]; omega)] <;> (first | omega | (simp only [List.length_append, List.length_cons, List.length_nil] <;> omega))), ?_⟩
      omega
     (dsimp only; omega)
    try simp only [sps] at h32
    refine .skip ?_
    refine hK7 _ _ (.region (.mv rfl ?_))
    refine .m rfl rfl rfl (.add rfl rfl rfl (by omega) (by omega)) ?_
    refine .mv rfl (.nil ?_)
    refine hKL1 ((k + 1, _, _)) _ _ ?_ ?_ ⟨rfl, rfl, rfl, rfl, rfl, trivial⟩
    ·
     refine ⟨lst1, by (rw [filtN_F (by simp only [sps]; omega)]; assumption), by omega, by (rw [filtN_F (by simp only [sps]; omega)] <;> (first | omega | (simp only [List.length_append, List.length_cons, List.length_nil] <;> omega))), ?_⟩
     omega
    (dsimp only; omega)
   try simp only [sps] at h24
   refine .sg rfl rfl rfl rfl rfl (.sg rfl rfl rfl rfl rfl (.sg rfl rfl rfl rfl rfl (.sg rfl rfl rfl rfl rfl (.sg rfl rfl rfl rfl rfl (.sg rfl rfl rfl rfl rfl (.sg rfl rfl rfl rfl rfl (.m rfl rfl rfl (.pickF rfl rfl) (.nil (hK8 _ _ ?_)))))))))
   refine .condF rfl ?_
   refine .skip ?_
   refine hK7 _ _ (.region (.mv rfl ?_))
   refine .m rfl rfl rfl (.add rfl rfl rfl (by omega) (by omega)) ?_
   refine .mv rfl (.nil ?_)
   refine hKL1 ((k + 1, _, _)) _ _ ?_ ?_ ⟨rfl, rfl, rfl, rfl, rfl, trivial⟩
   ·
    refine ⟨lst1, by (rw [filtN_F (by simp only [sps]; omega)]; assumption), by omega, by (rw [filtN_F (by simp only [sps]; omega)] <;> (first | omega | (simp only [List.length_append, List.length_cons, List.length_nil] <;> omega))), ?_⟩
    omega
   (dsimp only; omega)
  try simp only [sps] at h14
  refine .exit ?_
  refine hK3 _ _ (.seq (fun K9 hK9 => .region (.mv rfl (.mv rfl (.nil (hK9 _ _ ?_))))))
  refine .ret ?_
  refine hret _ _ ?_
  refine ⟨_, rfl, ?_⟩
  obtain rfl : k = c.src.length := by omega
  exact ⟨hle, _, by rw [ln_L7]; rfl, at_L7, ge_L7⟩
theorem l02Then_c {c : Cat} {p : CatP} {f k : Int} {H : GHeap} (hin : c.In H p := by assumption) (hS : c.Shape := by assumption) (h0 : 0 ≤ f := by omega) (h1 : f < c.src.length := by omega) (h2 : 0 ≤ k := by omega) (h3 : k < c.src.length := by omega) :
    GCalls Try.prog 57 [.agg (c.cells p).toArray, .int .i64 f, .int .i64 k] H (Ret (.int .i64 (c.th f k)) H) := by
  refine GCalls.ret rfl ?_
  refine GCalls.body (N := 15) (rs := [.tmp 6]) Try.func57 rfl rfl rfl rfl (fun Qx hret hend => ?_)
  refine .forget (fr' := [(0, some _), (1, some _), (2, some _)]) ⟨rfl, rfl, rfl, trivial⟩ ?_
  have hle := GHeap.Le.refl H
  have base_hin := hin
  have q6 := hS.cl
  have q7 := hS.row f.toNat (by omega)
  refine .seq (fun K1 hK1 => .region ?_)
  refine .r rfl rfl rfl (.boxR rfl sz_31_D rfl) ?_
  rintro _ H3 ⟨g3, rfl, le3, ge3, at3⟩
  replace hle := hle.trans le3
  replace hin := base_hin.mono hle
  have hb3 : Cat.At _ g3 0 c p := ⟨Mem.of_get at3, hin⟩
  obtain ⟨-, -, -, -, c43, -, -, -, i43⟩ := hb3.get
  refine .mv rfl (.nil (hK1 _ _ (.seq (fun K2 hK2 => .region ?_))))
  have q8 := i43.2 f.toNat (by omega)
  refine .m rfl rfl rfl (.fieldAddr fo_31_4_B rfl) ?_
  refine .m rfl rfl rfl (.load on_23_B rfl (by first | assumption | exact Mem.of_get at3 4 _ rfl)) ?_
  refine .mv rfl ?_
  refine .m rfl rfl rfl (.idx1 sl_23_B (Intss.sl (by assumption)) rfl rfl (by omega) (by omega)) ?_
  refine .m rfl rfl rfl (.loadR on_22_B (by assumption) rfl (by omega)) ?_
  refine .mv rfl ?_
  refine .m rfl rfl rfl (.idx1 sl_22_A (by assumption) rfl rfl (by omega) (by omega)) ?_
  refine .m rfl rfl rfl (.loadI on_2_A (by assumption) rfl (by omega)) ?_
  refine .mv rfl (.nil (hK2 _ _ ?_))
  refine .ret ?_
  refine hret _ _ ?_
  refine ⟨_, rfl, ?_⟩
  exact ⟨rfl, hle⟩
end Go.Proofs.Ytagkeabmdodfiaa
namespace Go.GL
open Go.RowKit Go.WideShapes Go.ChangeShapes Go.Deep

def Intsss (H : GHeap) (a : Option Addr) (x : List (List (List Int))) (r : Nat → Option Addr) (s : Nat → Nat → Option Addr) : Prop :=
  SlA H a x.length (fun i => .slice (r i) (x.getD i []).length (x.getD i []).length) ∧ ∀ i, i < x.length → Intss H (r i) (x.getD i []) (s i)
theorem Intsss.mono {H H' : GHeap} {a : Option Addr} {x : List (List (List Int))} {r : Nat → Option Addr} {s : Nat → Nat → Option Addr} (h : Intsss H a x r s) (hle : H.Le H') : Intsss H' a x r s := ⟨SlA.mono h.1 hle, fun i hi => (h.2 i hi).mono hle⟩
theorem Intsss.sl {H : GHeap} {a : Option Addr} {x : List (List (List Int))} {r : Nat → Option Addr} {s : Nat → Nat → Option Addr} (h : Intsss H a x r s) : SlA H a x.length (fun i => .slice (r i) (x.getD i []).length (x.getD i []).length) := h.1
def IntsssAt (b : Nat) (H : GHeap) (a : Option Addr) (x : List (List (List Int))) (r : Nat → Option Addr) (s : Nat → Nat → Option Addr) : Prop :=
  ∃ g e cs, a = some ⟨g, 0, none⟩ ∧ b ≤ g ∧ H.get g = some (.row cs e true) ∧ cs.length = x.length ∧ (∀ i, i < x.length → cs[i]? = some (.slice (r i) (x.getD i []).length (x.getD i []).length)) ∧ ∀ i, i < x.length → IntssAt b H (r i) (x.getD i []) (s i)
theorem IntsssAt.keep {b b' : Nat} {H H' : GHeap} {a : Option Addr} {x : List (List (List Int))} {r : Nat → Option Addr} {s : Nat → Nat → Option Addr} (h : IntsssAt b H a x r s) (hk : Keep b' H H') (hb : b' ≤ b) : IntsssAt b' H' a x r s :=
  let ⟨g, e, cs, h1, h2, h3, h4, h5, h6⟩ := h; ⟨g, e, cs, h1, by omega, hk g _ (by omega) h3, h4, h5, fun i hi => (h6 i hi).keep hk hb⟩
theorem IntsssAt.intsss {b : Nat} {H : GHeap} {a : Option Addr} {x : List (List (List Int))} {r : Nat → Option Addr} {s : Nat → Nat → Option Addr} (h : IntsssAt b H a x r s) : Intsss H a x r s := by
  obtain ⟨g, e, cs, rfl, _, h3, h4, h5, h6⟩ := h
  exact ⟨.inr ⟨g, 0, rfl, fun i hi => by rw [GHeap.cell_of h3, Nat.zero_add]; exact h5 i hi⟩, fun i hi => (h6 i hi).intss⟩
def Wd2 (xss : List (List Int)) : Prop := xss.length ≤ 9223372036854775807 ∧ ∀ i, I64s (xss.getD i [])
def Wd3 (x : List (List (List Int))) : Prop := x.length ≤ 9223372036854775807 ∧ ∀ i, Wd2 (x.getD i [])
def Sm3 (x : List (List (List Int))) : Prop := x.length ≤ 1048576 ∧ ∀ i, (x.getD i []).length ≤ 1048576 ∧ ∀ j, ((x.getD i []).getD j []).length ≤ 1048576
def RIntsss (ρ : Place) (H : GHeap) (cs : List Value) : Prop := ∃ a x r s c, cs = [c] ∧ VRel ρ (.slice a x.length x.length) c ∧ Intsss H a x r s ∧ Wd3 x
theorem RIntsss.mono {ρ ρ' : Place} {H H' : GHeap} {cs : List Value} (h : RIntsss ρ H cs) (he : Ext ρ ρ') (hl : H.Le H') : RIntsss ρ' H' cs :=
  let ⟨a, x, r, s, c, h1, h2, h3, h4⟩ := h; ⟨a, x, r, s, c, h1, h2.mono he, h3.mono hl, h4⟩
theorem Wd2.nil : Wd2 [] := ⟨by simp, fun i => by simp [I64s, I64]⟩
end Go.GL
namespace Go.GL
open Go.RowKit
structure SFun where
  sh : Cat
  sz : List Int
  ac : List (List Int)
structure SFunP where
  sh : CatP
  a1 : Option Addr
  a2 : Option Addr
  r2 : Nat → Option Addr
def SFun.cells (c : SFun) (p : SFunP) : List Value := c.sh.cells p.sh ++ ([.slice p.a1 c.sz.length c.sz.length] ++ ([.slice p.a2 c.ac.length c.ac.length]))
def SFun.In (H : GHeap) (c : SFun) (p : SFunP) : Prop := c.sh.In H p.sh ∧ Ints H p.a1 c.sz ∧ Intss H p.a2 c.ac p.r2
theorem SFun.In.mono {H H' : GHeap} {c : SFun} {p : SFunP} (h : c.In H p) (hle : H.Le H') : c.In H' p := ⟨Cat.In.mono (h.1) hle, Ints.mono (h.2.1) hle, Intss.mono (h.2.2) hle⟩
def SFun.At (H : GHeap) (g o : Nat) (c : SFun) (p : SFunP) : Prop := Mem H g o (c.cells p) ∧ c.In H p
theorem SFun.At.mono {H H' : GHeap} {g o : Nat} {c : SFun} {p : SFunP} (h : SFun.At H g o c p) (hle : H.Le H') : SFun.At H' g o c p := ⟨h.1.mono hle, SFun.In.mono h.2 hle⟩
theorem SFun.At.get {H : GHeap} {g o : Nat} {c : SFun} {p : SFunP} (h : SFun.At H g o c p) : Cat.At H g (o + 0) c.sh p.sh ∧ H.cell g (o + 5) = some (.slice p.a1 c.sz.length c.sz.length) ∧ H.cell g (o + 6) = some (.slice p.a2 c.ac.length c.ac.length) ∧ Ints H p.a1 c.sz ∧ Intss H p.a2 c.ac p.r2 :=
  ⟨⟨h.1.left, h.2.1⟩, (h.1.right (n := 5) rfl).left 0 _ rfl, ((h.1.right (n := 5) rfl).right (n := 1) rfl) 0 _ rfl, h.2.2.1, h.2.2.2⟩
def SFun.Small (c : SFun) : Prop := c.sh.Small ∧ c.sz.length ≤ 1048576 ∧ (c.ac.length ≤ 1048576 ∧ ∀ i, (c.ac.getD i []).length ≤ 1048576)
def SFun.Wide (c : SFun) : Prop := c.sh.Wide ∧ I64s c.sz ∧ (c.ac.length ≤ 9223372036854775807 ∧ ∀ i, I64s (c.ac.getD i []))
def SFunAt (b : Nat) (H : GHeap) (c : SFun) (p : SFunP) : Prop := CatAt b H c.sh p.sh ∧ IntsAt b H p.a1 c.sz ∧ IntssAt b H p.a2 c.ac p.r2
theorem SFunAt.keep {b b' : Nat} {H H' : GHeap} {c : SFun} {p : SFunP} (h : SFunAt b H c p) (hk : Keep b' H H') (hb : b' ≤ b) : SFunAt b' H' c p := ⟨CatAt.keep (h.1) hk hb, IntsAt.keep (h.2.1) hk hb, IntssAt.keep (h.2.2) hk hb⟩
theorem SFunAt.inn {b : Nat} {H : GHeap} {c : SFun} {p : SFunP} (h : SFunAt b H c p) : c.In H p := ⟨CatAt.inn (h.1), IntsAt.ints (h.2.1), IntssAt.intss (h.2.2)⟩
structure SMap where
  s : SFun
  t : SFun
  pa : List (List Int)
structure SMapP where
  s : SFunP
  t : SFunP
  a2 : Option Addr
  r2 : Nat → Option Addr
def SMap.cells (c : SMap) (p : SMapP) : List Value := c.s.cells p.s ++ (c.t.cells p.t ++ ([.slice p.a2 c.pa.length c.pa.length]))
def SMap.In (H : GHeap) (c : SMap) (p : SMapP) : Prop := c.s.In H p.s ∧ c.t.In H p.t ∧ Intss H p.a2 c.pa p.r2
theorem SMap.In.mono {H H' : GHeap} {c : SMap} {p : SMapP} (h : c.In H p) (hle : H.Le H') : c.In H' p := ⟨SFun.In.mono (h.1) hle, SFun.In.mono (h.2.1) hle, Intss.mono (h.2.2) hle⟩
def SMap.At (H : GHeap) (g o : Nat) (c : SMap) (p : SMapP) : Prop := Mem H g o (c.cells p) ∧ c.In H p
theorem SMap.At.mono {H H' : GHeap} {g o : Nat} {c : SMap} {p : SMapP} (h : SMap.At H g o c p) (hle : H.Le H') : SMap.At H' g o c p := ⟨h.1.mono hle, SMap.In.mono h.2 hle⟩
theorem SMap.At.get {H : GHeap} {g o : Nat} {c : SMap} {p : SMapP} (h : SMap.At H g o c p) : SFun.At H g (o + 0) c.s p.s ∧ SFun.At H g (o + 7) c.t p.t ∧ H.cell g (o + 14) = some (.slice p.a2 c.pa.length c.pa.length) ∧ Intss H p.a2 c.pa p.r2 :=
  ⟨⟨h.1.left, h.2.1⟩, ⟨(h.1.right (n := 7) rfl).left, h.2.2.1⟩, ((h.1.right (n := 7) rfl).right (n := 7) rfl) 0 _ rfl, h.2.2.2⟩
def SMap.Small (c : SMap) : Prop := c.s.Small ∧ c.t.Small ∧ (c.pa.length ≤ 1048576 ∧ ∀ i, (c.pa.getD i []).length ≤ 1048576)
def SMap.Wide (c : SMap) : Prop := c.s.Wide ∧ c.t.Wide ∧ (c.pa.length ≤ 9223372036854775807 ∧ ∀ i, I64s (c.pa.getD i []))
def SMapAt (b : Nat) (H : GHeap) (c : SMap) (p : SMapP) : Prop := SFunAt b H c.s p.s ∧ SFunAt b H c.t p.t ∧ IntssAt b H p.a2 c.pa p.r2
theorem SMapAt.keep {b b' : Nat} {H H' : GHeap} {c : SMap} {p : SMapP} (h : SMapAt b H c p) (hk : Keep b' H H') (hb : b' ≤ b) : SMapAt b' H' c p := ⟨SFunAt.keep (h.1) hk hb, SFunAt.keep (h.2.1) hk hb, IntssAt.keep (h.2.2) hk hb⟩
theorem SMapAt.inn {b : Nat} {H : GHeap} {c : SMap} {p : SMapP} (h : SMapAt b H c p) : c.In H p := ⟨SFunAt.inn (h.1), SFunAt.inn (h.2.1), IntssAt.intss (h.2.2)⟩
structure Con where
  ap : Int
  lg : List Int
structure ConP where
  a1 : Option Addr
def Con.cells (c : Con) (p : ConP) : List Value := [.int .i64 c.ap] ++ ([.slice p.a1 c.lg.length c.lg.length])
def Con.In (H : GHeap) (c : Con) (p : ConP) : Prop := Ints H p.a1 c.lg
theorem Con.In.mono {H H' : GHeap} {c : Con} {p : ConP} (h : c.In H p) (hle : H.Le H') : c.In H' p := Ints.mono (h) hle
def Con.At (H : GHeap) (g o : Nat) (c : Con) (p : ConP) : Prop := Mem H g o (c.cells p) ∧ c.In H p
theorem Con.At.mono {H H' : GHeap} {g o : Nat} {c : Con} {p : ConP} (h : Con.At H g o c p) (hle : H.Le H') : Con.At H' g o c p := ⟨h.1.mono hle, Con.In.mono h.2 hle⟩
theorem Con.At.get {H : GHeap} {g o : Nat} {c : Con} {p : ConP} (h : Con.At H g o c p) : H.cell g (o + 0) = some (.int .i64 c.ap) ∧ H.cell g (o + 1) = some (.slice p.a1 c.lg.length c.lg.length) ∧ Ints H p.a1 c.lg :=
  ⟨h.1.left 0 _ rfl, (h.1.right (n := 1) rfl) 0 _ rfl, h.2⟩
def Con.Small (c : Con) : Prop := (-9223372036854775808 ≤ c.ap ∧ c.ap ≤ 9223372036854775807) ∧ c.lg.length ≤ 1048576
def Con.Wide (c : Con) : Prop := I64 c.ap ∧ I64s c.lg
def ConAt (b : Nat) (H : GHeap) (c : Con) (p : ConP) : Prop := IntsAt b H p.a1 c.lg
theorem ConAt.keep {b b' : Nat} {H H' : GHeap} {c : Con} {p : ConP} (h : ConAt b H c p) (hk : Keep b' H H') (hb : b' ≤ b) : ConAt b' H' c p := IntsAt.keep (h) hk hb
theorem ConAt.inn {b : Nat} {H : GHeap} {c : Con} {p : ConP} (h : ConAt b H c p) : c.In H p := IntsAt.ints (h)
structure Prt where
  me : List (List Int)
structure PrtP where
  a0 : Option Addr
  r0 : Nat → Option Addr
def Prt.cells (c : Prt) (p : PrtP) : List Value := [.slice p.a0 c.me.length c.me.length]
def Prt.In (H : GHeap) (c : Prt) (p : PrtP) : Prop := Intss H p.a0 c.me p.r0
theorem Prt.In.mono {H H' : GHeap} {c : Prt} {p : PrtP} (h : c.In H p) (hle : H.Le H') : c.In H' p := Intss.mono (h) hle
def Prt.At (H : GHeap) (g o : Nat) (c : Prt) (p : PrtP) : Prop := Mem H g o (c.cells p) ∧ c.In H p
theorem Prt.At.mono {H H' : GHeap} {g o : Nat} {c : Prt} {p : PrtP} (h : Prt.At H g o c p) (hle : H.Le H') : Prt.At H' g o c p := ⟨h.1.mono hle, Prt.In.mono h.2 hle⟩
theorem Prt.At.get {H : GHeap} {g o : Nat} {c : Prt} {p : PrtP} (h : Prt.At H g o c p) : H.cell g (o + 0) = some (.slice p.a0 c.me.length c.me.length) ∧ Intss H p.a0 c.me p.r0 :=
  ⟨h.1 0 _ rfl, h.2⟩
def Prt.Small (c : Prt) : Prop := (c.me.length ≤ 1048576 ∧ ∀ i, (c.me.getD i []).length ≤ 1048576)
def Prt.Wide (c : Prt) : Prop := (c.me.length ≤ 9223372036854775807 ∧ ∀ i, I64s (c.me.getD i []))
def PrtAt (b : Nat) (H : GHeap) (c : Prt) (p : PrtP) : Prop := IntssAt b H p.a0 c.me p.r0
theorem PrtAt.keep {b b' : Nat} {H H' : GHeap} {c : Prt} {p : PrtP} (h : PrtAt b H c p) (hk : Keep b' H H') (hb : b' ≤ b) : PrtAt b' H' c p := IntssAt.keep (h) hk hb
theorem PrtAt.inn {b : Nat} {H : GHeap} {c : Prt} {p : PrtP} (h : PrtAt b H c p) : c.In H p := IntssAt.intss (h)
structure Prof where
  s : Cat
  t : Cat
  sz : List (List Int)
  be : List (List (List Int))
  bh : List (List (List Int))
structure ProfP where
  s : CatP
  t : CatP
  a2 : Option Addr
  r2 : Nat → Option Addr
  a3 : Option Addr
  r3 : Nat → Option Addr
  s3 : Nat → Nat → Option Addr
  a4 : Option Addr
  r4 : Nat → Option Addr
  s4 : Nat → Nat → Option Addr
def Prof.cells (c : Prof) (p : ProfP) : List Value := c.s.cells p.s ++ (c.t.cells p.t ++ ([.slice p.a2 c.sz.length c.sz.length] ++ ([.slice p.a3 c.be.length c.be.length] ++ ([.slice p.a4 c.bh.length c.bh.length]))))
def Prof.In (H : GHeap) (c : Prof) (p : ProfP) : Prop := c.s.In H p.s ∧ c.t.In H p.t ∧ Intss H p.a2 c.sz p.r2 ∧ Intsss H p.a3 c.be p.r3 p.s3 ∧ Intsss H p.a4 c.bh p.r4 p.s4
theorem Prof.In.mono {H H' : GHeap} {c : Prof} {p : ProfP} (h : c.In H p) (hle : H.Le H') : c.In H' p := ⟨Cat.In.mono (h.1) hle, Cat.In.mono (h.2.1) hle, Intss.mono (h.2.2.1) hle, Intsss.mono (h.2.2.2.1) hle, Intsss.mono (h.2.2.2.2) hle⟩
def Prof.At (H : GHeap) (g o : Nat) (c : Prof) (p : ProfP) : Prop := Mem H g o (c.cells p) ∧ c.In H p
theorem Prof.At.mono {H H' : GHeap} {g o : Nat} {c : Prof} {p : ProfP} (h : Prof.At H g o c p) (hle : H.Le H') : Prof.At H' g o c p := ⟨h.1.mono hle, Prof.In.mono h.2 hle⟩
theorem Prof.At.get {H : GHeap} {g o : Nat} {c : Prof} {p : ProfP} (h : Prof.At H g o c p) : Cat.At H g (o + 0) c.s p.s ∧ Cat.At H g (o + 5) c.t p.t ∧ H.cell g (o + 10) = some (.slice p.a2 c.sz.length c.sz.length) ∧ H.cell g (o + 11) = some (.slice p.a3 c.be.length c.be.length) ∧ H.cell g (o + 12) = some (.slice p.a4 c.bh.length c.bh.length) ∧ Intss H p.a2 c.sz p.r2 ∧ Intsss H p.a3 c.be p.r3 p.s3 ∧ Intsss H p.a4 c.bh p.r4 p.s4 :=
  ⟨⟨h.1.left, h.2.1⟩, ⟨(h.1.right (n := 5) rfl).left, h.2.2.1⟩, ((h.1.right (n := 5) rfl).right (n := 5) rfl).left 0 _ rfl, (((h.1.right (n := 5) rfl).right (n := 5) rfl).right (n := 1) rfl).left 0 _ rfl, ((((h.1.right (n := 5) rfl).right (n := 5) rfl).right (n := 1) rfl).right (n := 1) rfl) 0 _ rfl, h.2.2.2.1, h.2.2.2.2.1, h.2.2.2.2.2⟩
def Prof.Small (c : Prof) : Prop := c.s.Small ∧ c.t.Small ∧ (c.sz.length ≤ 1048576 ∧ ∀ i, (c.sz.getD i []).length ≤ 1048576) ∧ Sm3 c.be ∧ Sm3 c.bh
def Prof.Wide (c : Prof) : Prop := c.s.Wide ∧ c.t.Wide ∧ (c.sz.length ≤ 9223372036854775807 ∧ ∀ i, I64s (c.sz.getD i [])) ∧ Wd3 c.be ∧ Wd3 c.bh
def ProfAt (b : Nat) (H : GHeap) (c : Prof) (p : ProfP) : Prop := CatAt b H c.s p.s ∧ CatAt b H c.t p.t ∧ IntssAt b H p.a2 c.sz p.r2 ∧ IntsssAt b H p.a3 c.be p.r3 p.s3 ∧ IntsssAt b H p.a4 c.bh p.r4 p.s4
theorem ProfAt.keep {b b' : Nat} {H H' : GHeap} {c : Prof} {p : ProfP} (h : ProfAt b H c p) (hk : Keep b' H H') (hb : b' ≤ b) : ProfAt b' H' c p := ⟨CatAt.keep (h.1) hk hb, CatAt.keep (h.2.1) hk hb, IntssAt.keep (h.2.2.1) hk hb, IntsssAt.keep (h.2.2.2.1) hk hb, IntsssAt.keep (h.2.2.2.2) hk hb⟩
theorem ProfAt.inn {b : Nat} {H : GHeap} {c : Prof} {p : ProfP} (h : ProfAt b H c p) : c.In H p := ⟨CatAt.inn (h.1), CatAt.inn (h.2.1), IntssAt.intss (h.2.2.1), IntsssAt.intsss (h.2.2.2.1), IntsssAt.intsss (h.2.2.2.2)⟩
end Go.GL
namespace Go.GL

structure StM (lo hi : Nat) (H H' : GHeap) : Prop where
  nx : H.next ≤ H'.next
  same : ∀ k o, ¬ (lo ≤ k ∧ k < hi) → H.get k = some o → H'.get k = some o
  ins : ∀ k o, H.get k = some o → ∃ o', H'.get k = some o' ∧ (o' = o ∨ ∃ xs ys e, o = .row (ints xs) e true ∧ o' = .row (ints ys) e true ∧ ys.length = xs.length)
theorem StM.refl (lo hi : Nat) (H : GHeap) : StM lo hi H H := ⟨Nat.le_refl _, fun _ _ _ h => h, fun _ o h => ⟨o, h, .inl rfl⟩⟩
theorem StM.of_le {lo hi : Nat} {H H' : GHeap} (h : H.Le H') : StM lo hi H H' := ⟨h.1, fun k o _ ho => h.2 k o ho, fun _ o ho => ⟨o, h.2 _ _ ho, .inl rfl⟩⟩
theorem ints_inj {xs ys : List Int} (h : ints xs = ints ys) : xs = ys := by
  unfold ints at h
  exact (List.map_inj_right (fun a b hab => by cases hab; rfl)).1 h
theorem StM.trans {lo hi : Nat} {A B C : GHeap} (h : StM lo hi A B) (k : StM lo hi B C) : StM lo hi A C where
  nx := Nat.le_trans h.nx k.nx
  same g o hg ho := k.same g o hg (h.same g o hg ho)
  ins g o ho := by
    obtain ⟨o1, h1, h2⟩ := h.ins g o ho
    obtain ⟨o2, k1, k2⟩ := k.ins g o1 h1
    refine ⟨o2, k1, ?_⟩
    rcases h2 with rfl | ⟨xs, ys, e, rfl, rfl, hl⟩
    · exact k2
    · rcases k2 with rfl | ⟨us, vs, e', h3, rfl, hl'⟩
      · exact .inr ⟨xs, ys, e, rfl, rfl, hl⟩
      · injection h3 with h3 h4 h5
        have := ints_inj h3
        subst this
        subst h4
        exact .inr ⟨xs, vs, _, rfl, rfl, by rw [hl', hl]⟩
theorem StM.le_left {lo hi : Nat} {A B C : GHeap} (h : A.Le B) (k : StM lo hi B C) (hA : A.next ≤ lo) : A.Le C :=
  ⟨Nat.le_trans h.1 k.nx, fun g o ho => k.same g o (by have := GHeap.ltg ho; omega) (h.2 g o ho)⟩
theorem Keep.stM {b lo hi : Nat} {H0 H H' : GHeap} (k : Keep b H0 H) (h : StM lo hi H H') (hg : ∀ k, b ≤ k → k < H0.next → ¬ (lo ≤ k ∧ k < hi)) : Keep b H0 H' := fun g o hb h1 => h.same g o (hg g hb (GHeap.ltg h1)) (k g o hb h1)

def IntsW (lo hi : Nat) (H : GHeap) (a : Option Addr) (n : Nat) : Prop := n = 0 ∨ ∃ g e xs, a = some ⟨g, 0, none⟩ ∧ lo ≤ g ∧ g < hi ∧ H.get g = some (.row (ints xs) e true) ∧ xs.length = n
theorem IntsW.stm {lo hi : Nat} {H H' : GHeap} {a : Option Addr} {n : Nat} (h : IntsW lo hi H a n) (s : StM lo hi H H') : IntsW lo hi H' a n := by
  rcases h with h | ⟨g, e, xs, h1, h2, h3, h4, h5⟩
  · exact .inl h
  · obtain ⟨o', k1, k2⟩ := s.ins g _ h4
    rcases k2 with rfl | ⟨us, vs, e', h6, rfl, hl⟩
    · exact .inr ⟨g, e, xs, h1, h2, h3, k1, h5⟩
    · injection h6 with h6 h7 h8
      have := ints_inj h6
      subst this
      exact .inr ⟨g, e', vs, h1, h2, h3, k1, by rw [hl, h5]⟩
theorem IntsW.of_at {b : Nat} {H0 H : GHeap} {a : Option Addr} {xs : List Int} (h : IntsAt b H0 a xs) (k : Keep b H0 H) : IntsW b H0.next H a xs.length := by
  obtain ⟨g, e, h1, h2, h3⟩ := h
  exact .inr ⟨g, e, xs, h1, h2, GHeap.ltg h3, k g _ h2 h3, rfl⟩
def HdGe (b : Nat) (a : Option Addr) (n : Nat) : Prop := n = 0 ∨ ∃ g o, a = some ⟨g, o, none⟩ ∧ b ≤ g
theorem HdGe.le {b b' : Nat} {a : Option Addr} {n : Nat} (h : HdGe b a n) (hb : b' ≤ b) : HdGe b' a n := h.imp id fun ⟨g, o, h1, h2⟩ => ⟨g, o, h1, Nat.le_trans hb h2⟩
theorem SlA.keep {b b' : Nat} {H H' : GHeap} {a : Option Addr} {n : Nat} {f : Nat → Value} (h : SlA H a n f) (hd : HdGe b a n) (k : Keep b' H H') (hb : b' ≤ b) : SlA H' a n f := by
  rcases hd with h0 | ⟨g, o, rfl, hg⟩
  · exact .inl h0
  · rcases h with h0 | ⟨g', o', e, hc⟩
    · exact .inl h0
    · cases e
      refine .inr ⟨g, o, rfl, fun i hi => ?_⟩
      have h1 := hc i hi
      unfold GHeap.cell at h1 ⊢
      cases hx : H.get g with
      | none => rw [hx] at h1; cases h1
      | some x => rw [hx] at h1; rw [k g x (by omega) hx]; exact h1
def IntssW (lo hi : Nat) (H : GHeap) (a : Option Addr) (xss : List (List Int)) (r : Nat → Option Addr) : Prop :=
  SlA H a xss.length (fun i => .slice (r i) (xss.getD i []).length (xss.getD i []).length) ∧ (∀ i, i < xss.length → IntsW lo hi H (r i) (xss.getD i []).length) ∧ HdGe lo a xss.length
theorem SlA.stm {lo hi : Nat} {H H' : GHeap} {a : Option Addr} {n : Nat} {f : Nat → Value} (h : SlA H a n f) (s : StM lo hi H H') (hf : ∀ i m, f i ≠ .int .i64 m) : SlA H' a n f := by
  rcases h with h | ⟨g, o, e, h⟩
  · exact .inl h
  · refine .inr ⟨g, o, e, fun i hi => ?_⟩
    have hc := h i hi
    unfold GHeap.cell at hc ⊢
    split at hc
    · rename_i cs el own hg
      obtain ⟨o', k1, k2⟩ := s.ins g _ hg
      rw [k1]
      rcases k2 with rfl | ⟨us, vs, e', h6, rfl, hl⟩
      · exact hc
      · injection h6 with h6 h7 h8
        subst h6
        exfalso
        simp only [ints, List.getElem?_map, Option.map_eq_some_iff] at hc
        obtain ⟨m, _, hm⟩ := hc
        exact hf i m hm.symm
    · cases hc
theorem IntssW.stm {lo hi : Nat} {H H' : GHeap} {a : Option Addr} {xss : List (List Int)} {r : Nat → Option Addr} (h : IntssW lo hi H a xss r) (s : StM lo hi H H') : IntssW lo hi H' a xss r :=
  ⟨h.1.stm s fun i m e => (by cases e), fun i hi => (h.2.1 i hi).stm s, h.2.2⟩
theorem IntssW.of_at {b : Nat} {H0 H : GHeap} {a : Option Addr} {xss : List (List Int)} {r : Nat → Option Addr} (h : IntssAt b H0 a xss r) (k : Keep b H0 H) : IntssW b H0.next H a xss r :=
  ⟨(h.keep k (Nat.le_refl _)).intss.1, fun i hi => by obtain ⟨g, e, cs, _, _, _, _, _, h6⟩ := h; exact .of_at (h6 i hi) k, by obtain ⟨g, e, cs, h1, h2, _⟩ := h; exact .inr ⟨g, 0, h1, h2⟩⟩
def sumL : List (List Int) → Nat
  | [] => 0
  | xs :: r => xs.length + sumL r
theorem sumL_take_succ {xss : List (List Int)} {k : Nat} (h : k < xss.length) : sumL (xss.take (k + 1)) = sumL (xss.take k) + (xss.getD k []).length := by
  induction xss generalizing k with
  | nil => simp at h
  | cons x r ih =>
    cases k with
    | zero => simp [sumL]
    | succ k =>
      have := ih (k := k) (by simpa using h)
      simp only [List.take_succ_cons, sumL, List.getD_cons_succ]
      omega
theorem sumL_le {m : Nat} : ∀ {xss : List (List Int)}, (∀ i, (xss.getD i []).length ≤ m) → sumL xss ≤ xss.length * m
  | [], _ => by simp [sumL]
  | x :: r, h => by
    have h0 := h 0
    have := sumL_le (xss := r) fun i => by simpa using h (i + 1)
    simp only [sumL, List.length_cons, Nat.add_mul]
    simp at h0
    omega
theorem sumL_take_le {xss : List (List Int)} {k : Nat} : sumL (xss.take k) ≤ sumL xss := by
  induction xss generalizing k with
  | nil => simp
  | cons x r ih =>
    cases k with
    | zero => simp [sumL]
    | succ k => simp only [List.take_succ_cons, sumL]; have := ih (k := k); omega
def Cat.total (c : Cat) : Nat := c.src.length + (c.tgt.length + (c.idn.length + sumL c.comp))
def CatW (lo hi : Nat) (H : GHeap) (c : Cat) (p : CatP) : Prop := IntsW lo hi H p.a1 c.src.length ∧ IntsW lo hi H p.a2 c.tgt.length ∧ IntsW lo hi H p.a3 c.idn.length ∧ IntssW lo hi H p.a4 c.comp p.r
theorem CatW.stm {lo hi : Nat} {H H' : GHeap} {c : Cat} {p : CatP} (h : CatW lo hi H c p) (s : StM lo hi H H') : CatW lo hi H' c p := ⟨h.1.stm s, h.2.1.stm s, h.2.2.1.stm s, h.2.2.2.stm s⟩
theorem CatW.of_at {b : Nat} {H0 H : GHeap} {c : Cat} {p : CatP} (h : CatAt b H0 c p) (k : Keep b H0 H) : CatW b H0.next H c p := ⟨.of_at h.1 k, .of_at h.2.1 k, .of_at h.2.2.1 k, .of_at h.2.2.2 k⟩
def Fun.total (f : Fun) : Nat := f.s.total + (f.t.total + (f.ob.length + f.ar.length))
def FunW (lo hi : Nat) (H : GHeap) (f : Fun) (p : FunP) : Prop := CatW lo hi H f.s p.s ∧ CatW lo hi H f.t p.t ∧ IntsW lo hi H p.b1 f.ob.length ∧ IntsW lo hi H p.b2 f.ar.length
theorem FunW.stm {lo hi : Nat} {H H' : GHeap} {c : Fun} {p : FunP} (h : FunW lo hi H c p) (s : StM lo hi H H') : FunW lo hi H' c p := ⟨h.1.stm s, h.2.1.stm s, h.2.2.1.stm s, h.2.2.2.stm s⟩
theorem FunW.of_at {b : Nat} {H0 H : GHeap} {c : Fun} {p : FunP} (h : FunAt b H0 c p) (k : Keep b H0 H) : FunW b H0.next H c p := ⟨.of_at h.1 k, .of_at h.2.1 k, .of_at h.2.2.1 k, .of_at h.2.2.2 k⟩
def Con.total (c : Con) : Nat := c.lg.length
def ConW (lo hi : Nat) (H : GHeap) (c : Con) (p : ConP) : Prop := IntsW lo hi H p.a1 c.lg.length
theorem ConW.stm {lo hi : Nat} {H H' : GHeap} {c : Con} {p : ConP} (h : ConW lo hi H c p) (s : StM lo hi H H') : ConW lo hi H' c p := IntsW.stm h s
theorem ConW.of_at {b : Nat} {H0 H : GHeap} {c : Con} {p : ConP} (h : ConAt b H0 c p) (k : Keep b H0 H) : ConW b H0.next H c p := IntsW.of_at h k

def seqL (k : Int) (n : Nat) : List Int := (List.range n).map fun (i : Nat) => k + (i : Int)
@[simp] theorem length_seqL (k : Int) (n : Nat) : (seqL k n).length = n := by simp [seqL]
theorem seqL_get {k : Int} {n i : Nat} (h : i < n) : (seqL k n).getD i 0 = k + i := by simp [seqL, List.getD_eq_getElem?_getD, h]
abbrev Leaf := Option Addr × Nat
def lvBlk : Leaf → List Nat
  | (some a, _ + 1) => [a.block]
  | _ => []
def lvBlks (ls : List Leaf) : List Nat := ls.flatMap lvBlk
def lvSum : List Leaf → Nat
  | [] => 0
  | l :: r => l.2 + lvSum r
def Live1 (b : Nat) (H : GHeap) (l : Leaf) : Prop := l.2 = 0 ∨ ∃ g e xs, l.1 = some ⟨g, 0, none⟩ ∧ b ≤ g ∧ H.get g = some (.row (ints xs) e true) ∧ xs.length = l.2
def Lives (b : Nat) (H : GHeap) (ls : List Leaf) : Prop := ∀ l ∈ ls, Live1 b H l
def Held (b : Nat) (H : GHeap) : List Leaf → Int → Prop
  | [], _ => True
  | l :: r, k => (l.2 = 0 ∨ ∃ g e, l.1 = some ⟨g, 0, none⟩ ∧ b ≤ g ∧ H.get g = some (.row (ints (seqL k l.2)) e true)) ∧ Held b H r (k + l.2)
theorem Held.keep0 {b : Nat} {H H' : GHeap} : ∀ {ls : List Leaf} {k : Int}, Held b H ls k → Keep b H H' → Held b H' ls k
  | [], _, _, _ => trivial
  | _ :: _, _, h, hk => ⟨h.1.imp id fun ⟨g, e, h1, h2, h3⟩ => ⟨g, e, h1, h2, hk g _ h2 h3⟩, Held.keep0 h.2 hk⟩
theorem Held.append {b : Nat} {H : GHeap} : ∀ {ls ms : List Leaf} {k : Int}, Held b H ls k → Held b H ms (k + lvSum ls) → Held b H (ls ++ ms) k
  | [], _, _, _, h => by simpa [lvSum] using h
  | l :: r, ms, k, h, h' => ⟨h.1, Held.append h.2 (by rw [show k + (l.2 : Int) + (lvSum r : Int) = k + (lvSum (l :: r) : Int) by simp [lvSum]; omega]; exact h')⟩
structure StB (bs : List Nat) (H H' : GHeap) : Prop where
  nx : H.next ≤ H'.next
  same : ∀ k o, ¬ k ∈ bs → H.get k = some o → H'.get k = some o
theorem StB.refl (bs : List Nat) (H : GHeap) : StB bs H H := ⟨Nat.le_refl _, fun _ _ _ h => h⟩
theorem StB.trans {bs cs : List Nat} {A B C : GHeap} (h : StB bs A B) (k : StB cs B C) : StB (bs ++ cs) A C :=
  ⟨Nat.le_trans h.nx k.nx, fun g o hg ho => k.same g o (fun hc => hg (List.mem_append_right _ hc)) (h.same g o (fun hc => hg (List.mem_append_left _ hc)) ho)⟩
theorem Live1.blk {b : Nat} {H : GHeap} {l : Leaf} (h : Live1 b H l) {g : Nat} {e : TypeId} {xs : List Int} (h1 : l.1 = some ⟨g, 0, none⟩) (hn : l.2 ≠ 0) : g ∈ lvBlk l := by
  obtain ⟨a, n⟩ := l
  simp only at h1 hn
  subst h1
  cases n with
  | zero => exact absurd rfl hn
  | succ n => simp [lvBlk]
theorem Lives.stB {b : Nat} {H H' : GHeap} {ls : List Leaf} {bs : List Nat} (h : Lives b H ls) (s : StB bs H H') (hd : ∀ g ∈ lvBlks ls, ¬ g ∈ bs) : Lives b H' ls := fun l hl => by
  by_cases hn : l.2 = 0
  · exact .inl hn
  · rcases h l hl with h0 | ⟨g, e, xs, h1, h2, h3, h4⟩
    · exact .inl h0
    · exact .inr ⟨g, e, xs, h1, h2, s.same g _ (hd g (List.mem_flatMap.2 ⟨l, hl, (h l hl).blk (e := e) (xs := xs) h1 hn⟩)) h3, h4⟩
theorem Live1.keep {b : Nat} {H H' : GHeap} {l : Leaf} (h : Live1 b H l) (k : Keep b H H') : Live1 b H' l := h.imp id fun ⟨g, e, xs, h1, h2, h3, h4⟩ => ⟨g, e, xs, h1, h2, k g _ h2 h3, h4⟩
theorem Lives.keep {b : Nat} {H H' : GHeap} {ls : List Leaf} (h : Lives b H ls) (k : Keep b H H') : Lives b H' ls := fun l hl => (h l hl).keep k
theorem Held.stB {b : Nat} {H H' : GHeap} {bs : List Nat} (s : StB bs H H') : ∀ {ls : List Leaf} {k : Int}, Held b H ls k → (∀ g ∈ lvBlks ls, ¬ g ∈ bs) → Held b H' ls k
  | [], _, _, _ => trivial
  | l :: r, k, h, hd => by
    refine ⟨?_, Held.stB s h.2 fun g hg => hd g (by simp only [lvBlks, List.flatMap_cons, List.mem_append]; exact .inr hg)⟩
    by_cases hn : l.2 = 0
    · exact .inl hn
    · rcases h.1 with h0 | ⟨g, e, h1, h2, h3⟩
      · exact .inl h0
      · have hl : Live1 b H l := .inr ⟨g, e, _, h1, h2, h3, by simp⟩
        exact .inr ⟨g, e, h1, h2, s.same g _ (hd g (by simp only [lvBlks, List.flatMap_cons, List.mem_append]; exact .inl (hl.blk (e := e) (xs := seqL k l.2) h1 hn))) h3⟩
theorem Lives.app {b : Nat} {H : GHeap} {ls ms : List Leaf} (h : Lives b H ls) (h' : Lives b H ms) : Lives b H (ls ++ ms) := fun l hl => (List.mem_append.1 hl).elim (h l) (h' l)
theorem lvBlks_append (ls ms : List Leaf) : lvBlks (ls ++ ms) = lvBlks ls ++ lvBlks ms := by simp [lvBlks]
theorem lvSum_append : ∀ (ls ms : List Leaf), lvSum (ls ++ ms) = lvSum ls + lvSum ms
  | [], ms => by simp [lvSum]
  | l :: r, ms => by simp only [List.cons_append, lvSum, lvSum_append r ms]; omega

def IntsR (b : Nat) (H : GHeap) (a : Option Addr) (xs : List Int) : Prop := (xs = [] ∧ a = none) ∨ IntsAt b H a xs
theorem IntsR.keep {b b' : Nat} {H H' : GHeap} {a : Option Addr} {xs : List Int} (h : IntsR b H a xs) (k : Keep b' H H') (hb : b' ≤ b) : IntsR b' H' a xs := h.imp id fun h => h.keep k hb
theorem IntsR.ints {b : Nat} {H : GHeap} {a : Option Addr} {xs : List Int} (h : IntsR b H a xs) : Ints H a xs := by
  rcases h with ⟨rfl, _⟩ | h
  · exact .inl rfl
  · exact h.ints
theorem IntsR.live {b : Nat} {H : GHeap} {a : Option Addr} {xs : List Int} (h : IntsR b H a xs) : Live1 b H (a, xs.length) := by
  rcases h with ⟨rfl, _⟩ | ⟨g, e, h1, h2, h3⟩
  · exact .inl rfl
  · exact .inr ⟨g, e, xs, h1, h2, h3, rfl⟩
def Con.leaves (c : Con) (p : ConP) : List Leaf := [(p.a1, c.lg.length)]
def ConR (b : Nat) (H : GHeap) (c : Con) (p : ConP) : Prop := IntsR b H p.a1 c.lg
theorem ConR.keep {b b' : Nat} {H H' : GHeap} {c : Con} {p : ConP} (h : ConR b H c p) (k : Keep b' H H') (hb : b' ≤ b) : ConR b' H' c p := IntsR.keep h k hb
theorem ConR.inn {b : Nat} {H : GHeap} {c : Con} {p : ConP} (h : ConR b H c p) : c.In H p := IntsR.ints h
theorem Held.keep {b b' : Nat} {H H' : GHeap} {ls : List Leaf} {k : Int} (h : Held b H ls k) (hk : Keep b' H H') (hb : b' ≤ b) : Held b H' ls k := h.keep0 fun g o hg ho => hk g o (by omega) ho
theorem Held.app {b : Nat} {H : GHeap} : ∀ {ls ms : List Leaf} {k : Int}, Held b H (ls ++ ms) k → Held b H ls k ∧ Held b H ms (k + lvSum ls)
  | [], ms, k, h => ⟨trivial, by simpa [lvSum] using h⟩
  | l :: r, ms, k, h => by
    obtain ⟨h1, h2⟩ := Held.app (ls := r) h.2
    exact ⟨⟨h.1, h1⟩, by rw [show k + (lvSum (l :: r) : Int) = k + (l.2 : Int) + (lvSum r : Int) by simp [lvSum]; omega]; exact h2⟩
theorem Held.ints {b : Nat} {H : GHeap} {a : Option Addr} {n : Nat} {k : Int} (h : Held b H [(a, n)] k) : Ints H a (seqL k n) := by
  rcases h.1 with h0 | ⟨g, e, h1, h2, h3⟩
  · simp only at h0; subst h0; exact .inl (by simp)
  · simp only at h1 h3; subst h1; exact Ints.of_get h3

structure Marked (lo hi : Nat) (H H' : GHeap) (ls : List Leaf) (k : Int) : Prop where
  stm : StM lo hi H H'
  stb : StB (lvBlks ls) H H'
  held : (lvBlks ls).Nodup → Held lo H' ls k
theorem Marked.nil (lo hi : Nat) (H : GHeap) (k : Int) : Marked lo hi H H [] k := ⟨.refl _ _ _, .refl _ _, fun _ => trivial⟩
theorem Marked.app {lo hi : Nat} {A B C : GHeap} {ls ms : List Leaf} {k : Int} (h : Marked lo hi A B ls k) (h' : Marked lo hi B C ms (k + lvSum ls)) : Marked lo hi A C (ls ++ ms) k where
  stm := h.stm.trans h'.stm
  stb := by rw [lvBlks_append]; exact h.stb.trans h'.stb
  held := fun nd => by
    rw [lvBlks_append, List.nodup_append] at nd
    exact ((h.held nd.1).stB h'.stb fun g hg hg' => nd.2.2 g hg g hg' rfl).append (h'.held nd.2.1)
theorem Marked.le_left {lo hi : Nat} {A B C : GHeap} {ls : List Leaf} {k : Int} (h : A.Le B) (m : Marked lo hi B C ls k) : Marked lo hi A C ls k :=
  ⟨⟨Nat.le_trans h.1 m.stm.nx, fun g o hg ho => m.stm.same g o hg (h.2 g o ho), fun g o ho => m.stm.ins g o (h.2 g o ho)⟩, ⟨Nat.le_trans h.1 m.stb.nx, fun g o hg ho => m.stb.same g o hg (h.2 g o ho)⟩, m.held⟩
theorem Marked.one {lo hi g : Nat} {H H' : GHeap} {e : TypeId} {xs : List Int} {k : Int} (hlo : lo ≤ g) (hhi : g < hi) (h0 : H.get g = some (.row (ints xs) e true)) (s : St [g] H H') (h1 : H'.get g = some (.row (ints (seqL k xs.length)) e true)) (hn : xs.length ≠ 0) :
    Marked lo hi H H' [(some ⟨g, 0, none⟩, xs.length)] k where
  stm := ⟨s.nx, fun i o hi ho => s.same i o ⟨by omega, trivial⟩ ho, fun i o ho => by
    by_cases hi : i = g
    · subst hi
      rw [h0] at ho; cases ho
      exact ⟨_, h1, .inr ⟨xs, seqL k xs.length, e, rfl, rfl, by simp⟩⟩
    · exact ⟨o, s.same i o ⟨hi, trivial⟩ ho, .inl rfl⟩⟩
  stb := ⟨s.nx, fun i o hi ho => s.same i o ⟨fun e' => hi (by
    subst e'
    cases hx : xs.length with
    | zero => exact absurd hx hn
    | succ m => simp [lvBlks, lvBlk]), trivial⟩ ho⟩
  held := fun _ => ⟨.inr ⟨g, e, rfl, hlo, h1⟩, trivial⟩
def rowsL (r : Nat → Option Addr) (xss : List (List Int)) (n : Nat) : List Leaf := (List.range n).map fun i => (r i, (xss.getD i []).length)
theorem rowsL_succ (r : Nat → Option Addr) (xss : List (List Int)) (n : Nat) : rowsL r xss (n + 1) = rowsL r xss n ++ [(r n, (xss.getD n []).length)] := by simp [rowsL, List.range_succ]
theorem lvSum_rowsL (r : Nat → Option Addr) (xss : List (List Int)) : ∀ n, n ≤ xss.length → lvSum (rowsL r xss n) = sumL (xss.take n)
  | 0, _ => by simp [rowsL, lvSum, sumL]
  | n + 1, h => by rw [rowsL_succ, lvSum_append, lvSum_rowsL r xss n (by omega), sumL_take_succ (by omega)]; simp [lvSum]
def Cat.leaves (c : Cat) (p : CatP) : List Leaf := [(p.a1, c.src.length)] ++ ([(p.a2, c.tgt.length)] ++ ([(p.a3, c.idn.length)] ++ rowsL p.r c.comp c.comp.length))
theorem Cat.lvSum_leaves (c : Cat) (p : CatP) : lvSum (c.leaves p) = c.total := by
  simp only [Cat.leaves, lvSum_append, lvSum, lvSum_rowsL p.r c.comp _ (Nat.le_refl _), List.take_length, Cat.total, Nat.add_zero]
def Fun.leaves (f : Fun) (p : FunP) : List Leaf := f.s.leaves p.s ++ (f.t.leaves p.t ++ ([(p.b1, f.ob.length)] ++ [(p.b2, f.ar.length)]))
theorem Fun.lvSum_leaves (c : Fun) (p : FunP) : lvSum (c.leaves p) = c.total := by
  simp only [Fun.leaves, lvSum_append, lvSum, Cat.lvSum_leaves, Fun.total, Nat.add_zero]
theorem Con.lvSum_leaves (c : Con) (p : ConP) : lvSum (c.leaves p) = c.total := by simp [Con.leaves, lvSum, Con.total]
theorem Cat.total_le {c : Cat} (h : c.Small) : c.total ≤ 3 * 1048576 + 1048576 * 1048576 := by
  obtain ⟨h1, h2, h3, h4, h5, _⟩ := h
  have := sumL_le (m := 1048576) h5
  have h6 : c.comp.length * 1048576 ≤ 1048576 * 1048576 := Nat.mul_le_mul_right _ h4
  unfold Cat.total
  omega
theorem Marked.app' {lo hi : Nat} {A B C : GHeap} {ls ms : List Leaf} {k k' : Int} (h : Marked lo hi A B ls k) (h' : Marked lo hi B C ms k') (e : k' = k + lvSum ls) : Marked lo hi A C (ls ++ ms) k := by subst e; exact h.app h'
theorem IntsW.of_r {b : Nat} {H0 H : GHeap} {a : Option Addr} {xs : List Int} (h : IntsR b H0 a xs) (k : Keep b H0 H) : IntsW b H0.next H a xs.length := by
  rcases h with ⟨rfl, _⟩ | h
  · exact .inl rfl
  · exact .of_at h k
theorem ConW.of_r {b : Nat} {H0 H : GHeap} {c : Con} {p : ConP} (h : ConR b H0 c p) (k : Keep b H0 H) : ConW b H0.next H c p := IntsW.of_r h k
theorem IntsW.keep {lo lo' hi : Nat} {H H' : GHeap} {a : Option Addr} {n : Nat} (h : IntsW lo hi H a n) (k : Keep lo' H H') (hb : lo' ≤ lo) : IntsW lo hi H' a n := h.imp id fun ⟨g, e, xs, h1, h2, h3, h4, h5⟩ => ⟨g, e, xs, h1, h2, h3, k g _ (by omega) h4, h5⟩
theorem IntssW.keep {lo lo' hi : Nat} {H H' : GHeap} {a : Option Addr} {xss : List (List Int)} {r : Nat → Option Addr} (h : IntssW lo hi H a xss r) (k : Keep lo' H H') (hb : lo' ≤ lo) : IntssW lo hi H' a xss r := ⟨h.1.keep h.2.2 k hb, fun i hi => (h.2.1 i hi).keep k hb, h.2.2⟩
theorem CatW.keep {lo lo' hi : Nat} {H H' : GHeap} {c : Cat} {p : CatP} (h : CatW lo hi H c p) (k : Keep lo' H H') (hb : lo' ≤ lo) : CatW lo hi H' c p := ⟨h.1.keep k hb, h.2.1.keep k hb, h.2.2.1.keep k hb, h.2.2.2.keep k hb⟩
theorem FunW.keep {lo lo' hi : Nat} {H H' : GHeap} {c : Fun} {p : FunP} (h : FunW lo hi H c p) (k : Keep lo' H H') (hb : lo' ≤ lo) : FunW lo hi H' c p := ⟨h.1.keep k hb, h.2.1.keep k hb, h.2.2.1.keep k hb, h.2.2.2.keep k hb⟩
theorem ConW.keep {lo lo' hi : Nat} {H H' : GHeap} {c : Con} {p : ConP} (h : ConW lo hi H c p) (k : Keep lo' H H') (hb : lo' ≤ lo) : ConW lo hi H' c p := IntsW.keep h k hb
theorem Cat.Small.tot {c : Cat} (h : c.Small) : c.total ≤ 3 * 1048576 + 1048576 * 1048576 := Cat.total_le h
theorem Fun.Small.tot {c : Fun} (h : c.Small) : c.total ≤ 8 * 1048576 + 2 * 1048576 * 1048576 := by
  obtain ⟨h1, h2, h3, h4⟩ := h
  have := h1.tot
  have := h2.tot
  unfold Fun.total
  omega
theorem Con.Small.tot {c : Con} (h : c.Small) : c.total ≤ 1048576 := by
  obtain ⟨_, h2⟩ := h
  unfold Con.total
  omega
end Go.GL
namespace Go.Proofs.Ytagkeabmdodfiaa
open Go Go.GL Go.RowKit Go.Proofs
theorem markInt64S_own {g : Nat} {e : TypeId} {xs : List Int} {k : Int} {H : GHeap} (at0 : H.get g = some (.row (ints xs) e true)) (hk : 0 ≤ k) (hk' : k + xs.length ≤ 9223372036854775000) :
    GCalls Try.prog 43 [.slice (some ⟨g, 0, none⟩) xs.length xs.length, .int .i64 k] H (fun v H' => v = .int .i64 (k + xs.length) ∧ St [g] H H' ∧ H'.get g = some (.row (ints (seqL k xs.length)) e true)) := by
  refine GCalls.body (N := 19) (rs := [.tmp 4]) Try.func43 rfl rfl rfl rfl (fun Qx hret hend => ?_)
  refine .forget (fr' := [(0, some _), (1, some _)]) ⟨rfl, rfl, trivial⟩ ?_
  refine .seq (fun K1 hK1 => .region (.mv rfl (.nil (hK1 _ _ (.seq (fun K2 hK2 => .seq (fun K3 hK3 => .region (.mv rfl (.nil (hK3 _ _ ?_))))))))))
  refine .block ?_
  refine .loopR (σ := Nat × Int × List Int) [(0, some _)] (fun (i, q, ys) => [(5, some (.int .i64 (i : Int))), (1, some (.int .i64 q))]) (fun (i, q, ys) H' => St [g] H H' ∧ H'.get g = some (.row (ints ys) e true) ∧ i ≤ xs.length ∧ q = k + i ∧ ys.length = xs.length ∧ ∀ j, j < i → ys.getD j 0 = k + j) (fun (i, q, ys) => xs.length - i) ((0, k, xs)) ⟨rfl, trivial⟩ ⟨rfl, rfl, trivial⟩ ?_ ?_
  ·
   refine ⟨.refl _ _, by first | assumption | exact at0 | simpa using at0, ?_⟩
   exact ⟨by omega, by omega, rfl, fun _ _ => by omega⟩
  rintro ⟨i, q, ys⟩ HL1 ⟨lst1, at_L0, hI⟩ KL1 hKL1
  refine .forget (fr' := [(5, some (.int .i64 (i : Int))), (1, some (.int .i64 q)), (0, some _)]) ⟨rfl, rfl, rfl, trivial⟩ ?_
  obtain ⟨hi, hq, hyl, ha⟩ := hI
  have hsl := SlA.of_ints at_L0 hyl
  refine .seq (fun K4 hK4 => .seq (fun K5 hK5 => .region (.mv rfl (.mv rfl (.m rfl rfl rfl (.len sl_22_A rfl) (.m rfl rfl rfl (.cmp rfl rfl rfl) (.nil (hK5 _ _ ?_))))))))
  refine .cond rfl (fun h9 => ?_) (fun h9 => ?_)
  ·
   try simp only [sps] at h9
   refine .skip ?_
   refine hK4 _ _ (.seq (fun K6 hK6 => ?_))
   refine .block ?_
   refine .seq (fun K7 hK7 => .region (.mv rfl (.mv rfl (.mv rfl ?_))))
   refine .m rfl rfl rfl (.idxN sl_22_A (by first | assumption | exact SlA.of_row at_L0 (by first | rfl | (simp; done) | (simp <;> omega))) rfl rfl (by omega)) ?_
   refine .r0 rfl rfl (.storeI rfl sz_2_E rfl rfl (by assumption) (by first | omega | (simp <;> omega))) ?_
   rintro _ H4004 ⟨rfl, st4004, at4004⟩
   have nx_H4004 := st4004.nx
   replace lst1 := lst1.st st4004 (fun k hk ho => by simp only [out, and_true] at ho ⊢ <;> first | exact ho | exact ho.1 | exact ho.2 | exact ho.2.1 | exact ho.2.2 | exact ho.2.2.1 | exact ho.2.2.2 | omega)
   have lt_at4004 := GHeap.ltg at4004
   refine .nil (hK7 _ _ (.region (.mv rfl ?_)))
   refine .m rfl rfl rfl (.add rfl rfl rfl (by omega) (by omega)) ?_
   refine .mv rfl (.nil (hK6 _ _ (.region (.mv rfl ?_))))
   refine .m rfl rfl rfl (.add rfl rfl rfl (by omega) (by omega)) ?_
   refine .mv rfl (.nil ?_)
   refine hKL1 ((i + 1, q + 1, ys.set (0 + i) q)) _ _ ?_ ?_ ⟨rfl, rfl, rfl, trivial⟩
   ·
    refine ⟨lst1, by assumption, ?_⟩
    refine ⟨by omega, by omega, by simpa using hyl, fun j hj => ?_⟩
    rw [Nat.zero_add, getD_set (by omega)]
    split
    · rename_i e; rw [e]; exact hq
    · exact ha j (by omega)
   (dsimp only; omega)
  try simp only [sps] at h9
  refine .exit ?_
  refine hK2 _ _ (.seq (fun K8 hK8 => .region (.mv rfl (.mv rfl (.nil (hK8 _ _ ?_))))))
  refine .ret ?_
  refine hret _ _ ?_
  refine ⟨_, rfl, ?_⟩
  obtain rfl : ys = seqL k xs.length := eq_of_getD (by rw [hyl, length_seqL]) fun j hj => by rw [length_seqL] at hj; rw [ha j (by omega), seqL_get hj]
  obtain rfl : i = xs.length := by omega
  exact ⟨by rw [hq], lst1, at_L0⟩
theorem markInt64S_nil {a : Option Addr} {k : Int} {H : GHeap} (hk : 0 ≤ k) (hk' : k ≤ 9223372036854775000) :
    GCalls Try.prog 43 [.slice a 0 0, .int .i64 k] H (fun v H' => v = .int .i64 k ∧ H' = H) := by
  refine GCalls.body (N := 19) (rs := [.tmp 4]) Try.func43 rfl rfl rfl rfl (fun Qx hret hend => ?_)
  refine .forget (fr' := [(0, some _), (1, some _)]) ⟨rfl, rfl, trivial⟩ ?_
  refine .seq (fun K1 hK1 => .region (.mv rfl (.nil (hK1 _ _ (.seq (fun K2 hK2 => .seq (fun K3 hK3 => .region (.mv rfl (.nil (hK3 _ _ ?_))))))))))
  refine .block ?_
  refine .loopR (σ := Unit) [(0, some _)] (fun u => [(5, some (.int .i64 0)), (1, some (.int .i64 k))]) (fun u H' => H = H' ∧ True) (fun u => 0) (()) ⟨rfl, trivial⟩ ⟨rfl, rfl, trivial⟩ ?_ ?_
  ·
   refine ⟨rfl, ?_⟩
   exact trivial
  rintro u _ ⟨rfl, hI⟩ KL1 hKL1
  refine .forget (fr' := [(5, some (.int .i64 0)), (1, some (.int .i64 k)), (0, some _)]) ⟨rfl, rfl, rfl, trivial⟩ ?_
  refine .seq (fun K4 hK4 => .seq (fun K5 hK5 => .region (.mv rfl (.mv rfl (.m rfl rfl rfl (.len sl_22_A rfl) (.m rfl rfl rfl (.cmp rfl rfl rfl) (.nil (hK5 _ _ ?_))))))))
  refine .cond rfl (fun h9 => ?_) (fun h9 => ?_)
  ·
   exact absurd h9 (by simp)
  try simp only [sps] at h9
  refine .exit ?_
  refine hK2 _ _ (.seq (fun K6 hK6 => .region (.mv rfl (.mv rfl (.nil (hK6 _ _ ?_))))))
  refine .ret ?_
  refine hret _ _ ?_
  refine ⟨_, rfl, ?_⟩
  exact ⟨rfl, rfl⟩
theorem markInt64S_c {a : Option Addr} {n lo hi : Nat} {k : Int} {H : GHeap} (h : IntsW lo hi H a n := by assumption) (hk : 0 ≤ k := by omega) (hk' : k + n ≤ 9223372036854775000 := by omega) :
    GCalls Try.prog 43 [.slice a n n, .int .i64 k] H (fun v H' => v = .int .i64 (k + n) ∧ Marked lo hi H H' [(a, n)] k) := by
  by_cases h0 : n = 0
  · subst h0
    refine (markInt64S_nil hk (by omega)).mono fun v H' ⟨h1, h2⟩ => ?_
    subst h2
    exact ⟨by rw [h1]; simp, .refl _ _ _, .refl _ _, fun _ => ⟨.inl rfl, trivial⟩⟩
  · rcases h with h | ⟨g, e, xs, rfl, h2, h3, h4, rfl⟩
    · exact absurd h h0
    · exact (markInt64S_own h4 hk hk').mono fun v H' ⟨k1, k2, k3⟩ => ⟨k1, .one h2 h3 h4 k2 k3 h0⟩
theorem heldInt64S_c {a : Option Addr} {n b : Nat} {k : Int} {H : GHeap} (h : Held b H [(a, n)] k := by assumption) (hk : 0 ≤ k := by omega) (hk' : k + n ≤ 9223372036854775000 := by omega) :
    GCalls Try.prog 44 [.slice a n n, .int .i64 k] H (Ret (.int .i64 (k + n)) H) := by
  have hi := h.ints
  have hl : (seqL k n).length = n := length_seqL k n
  have hsl : SlA H a n (fun i => .int .i64 ((seqL k n).getD i 0)) := by have hi' := hi; unfold Ints at hi'; rw [hl] at hi'; exact hi'
  refine GCalls.body (N := 21) (rs := [.tmp 4]) Try.func44 rfl rfl rfl rfl (fun Qx hret hend => ?_)
  refine .forget (fr' := [(0, some _), (1, some _)]) ⟨rfl, rfl, trivial⟩ ?_
  refine .seq (fun K1 hK1 => .region (.mv rfl (.nil (hK1 _ _ (.seq (fun K2 hK2 => .seq (fun K3 hK3 => .region (.mv rfl (.nil (hK3 _ _ ?_))))))))))
  refine .block ?_
  refine .loopR (σ := Nat × Int) [(0, some _)] (fun (i, q) => [(5, some (.int .i64 (i : Int))), (1, some (.int .i64 q))]) (fun (i, q) H' => H = H' ∧ i ≤ n ∧ q = k + i) (fun (i, q) => n - i) ((0, k)) ⟨rfl, trivial⟩ ⟨rfl, rfl, trivial⟩ ?_ ?_
  ·
   refine ⟨rfl, ?_⟩
   exact ⟨by omega, by omega⟩
  rintro ⟨i, q⟩ _ ⟨rfl, hI⟩ KL1 hKL1
  refine .forget (fr' := [(5, some (.int .i64 (i : Int))), (1, some (.int .i64 q)), (0, some _)]) ⟨rfl, rfl, rfl, trivial⟩ ?_
  obtain ⟨hi, hq⟩ := hI
  refine .seq (fun K4 hK4 => .seq (fun K5 hK5 => .region (.mv rfl (.mv rfl (.m rfl rfl rfl (.len sl_22_A rfl) (.m rfl rfl rfl (.cmp rfl rfl rfl) (.nil (hK5 _ _ ?_))))))))
  refine .cond rfl (fun h9 => ?_) (fun h9 => ?_)
  ·
   try simp only [sps] at h9
   refine .skip ?_
   refine hK4 _ _ (.seq (fun K6 hK6 => ?_))
   refine .block ?_
   refine .seq (fun K7 hK7 => .seq (fun K8 hK8 => .region (.mv rfl (.mv rfl ?_))))
   refine .m rfl rfl rfl (.idxN sl_22_A hsl rfl rfl (by omega)) ?_
   refine .m rfl rfl rfl (.loadE on_2_A hsl rfl (by omega)) ?_
   refine .mv rfl (.m rfl rfl rfl (.cmp rfl rfl rfl) (.nil (hK8 _ _ ?_)))
   refine .cond rfl (fun h17 => ?_) (fun h17 => ?_)
   ·
    simp only [sps] at h17
    rw [seqL_get (by omega)] at h17
    refine .seq (fun K9 hK9 => .region (.mv rfl (.nil (hK9 _ _ ?_))))
    refine .ret ?_
    refine hret _ _ ?_
    refine ⟨_, rfl, ?_⟩
    exact absurd hq.symm (by omega)
   try simp only [sps] at h17
   refine .skip ?_
   refine hK7 _ _ (.region (.mv rfl ?_))
   refine .m rfl rfl rfl (.add rfl rfl rfl (by omega) (by omega)) ?_
   refine .mv rfl (.nil (hK6 _ _ (.region (.mv rfl ?_))))
   refine .m rfl rfl rfl (.add rfl rfl rfl (by omega) (by omega)) ?_
   refine .mv rfl (.nil ?_)
   refine hKL1 ((i + 1, q + 1)) _ _ ?_ ?_ ⟨rfl, rfl, rfl, trivial⟩
   ·
    refine ⟨rfl, ?_⟩
    exact ⟨by omega, by omega⟩
   (dsimp only; omega)
  try simp only [sps] at h9
  refine .exit ?_
  refine hK2 _ _ (.seq (fun K10 hK10 => .region (.mv rfl (.mv rfl (.nil (hK10 _ _ ?_))))))
  refine .ret ?_
  refine hret _ _ ?_
  refine ⟨_, rfl, ?_⟩
  obtain rfl : i = n := by omega
  exact .of (by rw [hq])
theorem markInt64SS_c {a : Option Addr} {xss : List (List Int)} {r : Nat → Option Addr} {lo hi : Nat} {k : Int} {H : GHeap} (h : IntssW lo hi H a xss r := by assumption) (hk : 0 ≤ k := by omega) (hk' : k + sumL xss ≤ 9223372036854775000 := by omega) (hl : xss.length ≤ 1048576 := by omega) :
    GCalls Try.prog 15 [.slice a xss.length xss.length, .int .i64 k] H (fun v H' => v = .int .i64 (k + sumL xss) ∧ Marked lo hi H H' (rowsL r xss xss.length) k) := by
  refine GCalls.body (N := 19) (rs := [.tmp 4]) Try.func15 rfl rfl rfl rfl (fun Qx hret hend => ?_)
  refine .forget (fr' := [(0, some _), (1, some _)]) ⟨rfl, rfl, trivial⟩ ?_
  refine .seq (fun K1 hK1 => .region (.mv rfl (.nil (hK1 _ _ (.seq (fun K2 hK2 => .seq (fun K3 hK3 => .region (.mv rfl (.nil (hK3 _ _ ?_))))))))))
  refine .block ?_
  refine .loopR (σ := Nat × Int) [(0, some _)] (fun (i, q) => [(5, some (.int .i64 (i : Int))), (1, some (.int .i64 q))]) (fun (i, q) H' => i ≤ xss.length ∧ q = k + sumL (xss.take i) ∧ Marked lo hi H H' (rowsL r xss i) k) (fun (i, q) => xss.length - i) ((0, k)) ⟨rfl, trivial⟩ ⟨rfl, rfl, trivial⟩ ?_ ?_
  ·
   exact ⟨by omega, by simp [sumL], .nil _ _ _ _⟩
  rintro ⟨i, q⟩ H' hI KL1 hKL1
  refine .forget (fr' := [(5, some (.int .i64 (i : Int))), (1, some (.int .i64 q)), (0, some _)]) ⟨rfl, rfl, rfl, trivial⟩ ?_
  obtain ⟨hi', hq, hm⟩ := hI
  have hw := h.stm hm.stm
  have hsl := hw.1
  have hle1 := sumL_take_le (xss := xss) (k := i + 1)
  refine .seq (fun K4 hK4 => .seq (fun K5 hK5 => .region (.mv rfl (.mv rfl (.m rfl rfl rfl (.len sl_23_B rfl) (.m rfl rfl rfl (.cmp rfl rfl rfl) (.nil (hK5 _ _ ?_))))))))
  refine .cond rfl (fun h9 => ?_) (fun h9 => ?_)
  ·
   simp only [sps] at h9
   have hts := sumL_take_succ (xss := xss) (k := i) (by omega)
   refine .skip ?_
   refine hK4 _ _ (.seq (fun K6 hK6 => ?_))
   refine .block ?_
   refine .region (.mv rfl (.mv rfl ?_))
   refine .m rfl rfl rfl (.idxN sl_23_B hsl rfl rfl (by omega)) ?_
   refine .m rfl rfl rfl (.loadE on_22_B hsl rfl (by omega)) ?_
   refine .mv rfl ?_
   refine .call rfl rfl rfl rfl @Try.call43 rfl (markInt64S_c (hw.2.1 i (by omega)) (by omega) (by omega)) ?_
   rintro _ H17 ⟨rfl, mk17⟩
   refine .mv rfl (.nil (hK6 _ _ (.region (.mv rfl ?_))))
   refine .m rfl rfl rfl (.add rfl rfl rfl (by omega) (by omega)) ?_
   refine .mv rfl (.nil ?_)
   refine hKL1 ((i + 1, _)) _ _ ?_ ?_ ⟨rfl, rfl, rfl, trivial⟩
   ·
    exact ⟨by omega, by rw [sumL_take_succ (by omega)]; omega, by rw [rowsL_succ]; exact hm.app' mk17 (by rw [lvSum_rowsL _ _ _ (by omega)]; omega)⟩
   (dsimp only; omega)
  try simp only [sps] at h9
  refine .exit ?_
  refine hK2 _ _ (.seq (fun K7 hK7 => .region (.mv rfl (.mv rfl (.nil (hK7 _ _ ?_))))))
  refine .ret ?_
  refine hret _ _ ?_
  refine ⟨_, rfl, ?_⟩
  obtain rfl : i = xss.length := by omega
  rw [List.take_length] at hq
  exact ⟨by rw [hq], hm⟩
theorem heldRow {b : Nat} {H : GHeap} {r : Nat → Option Addr} {xss : List (List Int)} {k : Int} : ∀ {n : Nat}, n ≤ xss.length → Held b H (rowsL r xss n) k → ∀ i, i < n → Held b H [(r i, (xss.getD i []).length)] (k + sumL (xss.take i))
  | 0, _, _, i, hi => by omega
  | n + 1, hn, h, i, hi => by
    rw [rowsL_succ] at h
    obtain ⟨h1, h2⟩ := h.app
    rw [lvSum_rowsL _ _ _ (by omega)] at h2
    by_cases e : i = n
    · subst e; exact h2
    · exact heldRow (by omega) h1 i (by omega)
theorem heldInt64SS_c {a : Option Addr} {xss : List (List Int)} {r : Nat → Option Addr} {b : Nat} {k : Int} {H : GHeap} (hsl : SlA H a xss.length (fun i => .slice (r i) (xss.getD i []).length (xss.getD i []).length) := by assumption) (h : Held b H (rowsL r xss xss.length) k := by assumption) (hk : 0 ≤ k := by omega) (hk' : k + sumL xss ≤ 9223372036854775000 := by omega) (hl : xss.length ≤ 1048576 := by omega) :
    GCalls Try.prog 16 [.slice a xss.length xss.length, .int .i64 k] H (Ret (.int .i64 (k + sumL xss)) H) := by
  refine GCalls.body (N := 21) (rs := [.tmp 4]) Try.func16 rfl rfl rfl rfl (fun Qx hret hend => ?_)
  refine .forget (fr' := [(0, some _), (1, some _)]) ⟨rfl, rfl, trivial⟩ ?_
  refine .seq (fun K1 hK1 => .region (.mv rfl (.nil (hK1 _ _ (.seq (fun K2 hK2 => .seq (fun K3 hK3 => .region (.mv rfl (.nil (hK3 _ _ ?_))))))))))
  refine .block ?_
  refine .loopR (σ := Nat × Int) [(0, some _)] (fun (i, q) => [(5, some (.int .i64 (i : Int))), (1, some (.int .i64 q))]) (fun (i, q) H' => H = H' ∧ i ≤ xss.length ∧ q = k + sumL (xss.take i)) (fun (i, q) => xss.length - i) ((0, k)) ⟨rfl, trivial⟩ ⟨rfl, rfl, trivial⟩ ?_ ?_
  ·
   refine ⟨rfl, ?_⟩
   exact ⟨by omega, by simp [sumL]⟩
  rintro ⟨i, q⟩ _ ⟨rfl, hI⟩ KL1 hKL1
  refine .forget (fr' := [(5, some (.int .i64 (i : Int))), (1, some (.int .i64 q)), (0, some _)]) ⟨rfl, rfl, rfl, trivial⟩ ?_
  obtain ⟨hi', hq⟩ := hI
  have hle1 := sumL_take_le (xss := xss) (k := i + 1)
  refine .seq (fun K4 hK4 => .seq (fun K5 hK5 => .region (.mv rfl (.mv rfl (.m rfl rfl rfl (.len sl_23_B rfl) (.m rfl rfl rfl (.cmp rfl rfl rfl) (.nil (hK5 _ _ ?_))))))))
  refine .cond rfl (fun h9 => ?_) (fun h9 => ?_)
  ·
   simp only [sps] at h9
   have hts := sumL_take_succ (xss := xss) (k := i) (by omega)
   have hr := heldRow (Nat.le_refl _) h i (by omega)
   rw [← hq] at hr
   refine .skip ?_
   refine hK4 _ _ (.seq (fun K6 hK6 => ?_))
   refine .block ?_
   refine .seq (fun K7 hK7 => .region (.mv rfl (.mv rfl ?_)))
   refine .m rfl rfl rfl (.idxN sl_23_B hsl rfl rfl (by omega)) ?_
   refine .m rfl rfl rfl (.loadE on_22_B hsl rfl (by omega)) ?_
   refine .mv rfl ?_
   refine .callQ rfl rfl rfl rfl @Try.call44 rfl (heldInt64S_c) ?_
   refine .mv rfl (.nil (hK7 _ _ (.seq (fun K8 hK8 => .region (.mv rfl (.m rfl rfl rfl (.cmp rfl rfl rfl) (.nil (hK8 _ _ ?_))))))))
   refine .cond rfl (fun h19 => ?_) (fun h19 => ?_)
   ·
    exact absurd h19 (by simp; omega)
   try simp only [sps] at h19
   refine .skip ?_
   refine hK6 _ _ (.region (.mv rfl ?_))
   refine .m rfl rfl rfl (.add rfl rfl rfl (by omega) (by omega)) ?_
   refine .mv rfl (.nil ?_)
   refine hKL1 ((i + 1, _)) _ _ ?_ ?_ ⟨rfl, rfl, rfl, trivial⟩
   ·
    refine ⟨rfl, ?_⟩
    exact ⟨by omega, by rw [sumL_take_succ (by omega)]; omega⟩
   (dsimp only; omega)
  try simp only [sps] at h9
  refine .exit ?_
  refine hK2 _ _ (.seq (fun K9 hK9 => .region (.mv rfl (.mv rfl (.nil (hK9 _ _ ?_))))))
  refine .ret ?_
  refine hret _ _ ?_
  refine ⟨_, rfl, ?_⟩
  obtain rfl : i = xss.length := by omega
  rw [List.take_length] at hq
  exact .of (by rw [hq])
theorem markCategory_c {c : Cat} {p : CatP} {lo hi : Nat} {k : Int} {H : GHeap} (w : CatW lo hi H c p := by assumption) (hs : c.Small := by assumption) (hk : 0 ≤ k := by omega) (hk' : k + c.total ≤ 9223372036854775000 := by omega) (hhi : hi ≤ H.next := by omega) :
    GCalls Try.prog 26 [.agg (c.cells p).toArray, .int .i64 k] H (fun v H' => v = .int .i64 (k + c.total) ∧ Marked lo hi H H' (c.leaves p) k) := by
  obtain ⟨w1, w2, w3, w4⟩ := w
  have ht : c.total = c.src.length + (c.tgt.length + (c.idn.length + sumL c.comp)) := rfl
  obtain ⟨s1, s2, s3, s4, -, -⟩ := hs
  refine GCalls.body (N := 22) (rs := [.tmp 4]) Try.func26 rfl rfl rfl rfl (fun Qx hret hend => ?_)
  refine .forget (fr' := [(0, some _), (1, some _)]) ⟨rfl, rfl, trivial⟩ ?_
  refine .seq (fun K1 hK1 => .region ?_)
  refine .r rfl rfl rfl (.boxR rfl sz_31_D rfl) ?_
  rintro _ H2 ⟨g2, rfl, le2, ge2, at2⟩
  replace w1 := w1.stm (.of_le le2)
  replace w2 := w2.stm (.of_le le2)
  replace w3 := w3.stm (.of_le le2)
  replace w4 := w4.stm (.of_le le2)
  refine .mv rfl (.nil (hK1 _ _ (.seq (fun K2 hK2 => .region ?_))))
  have c1 : H2.cell g2 (0 + 1) = some (.slice p.a1 c.src.length c.src.length) := Mem.of_get at2 1 _ rfl
  refine .m rfl rfl rfl (.fieldAddr fo_31_1_B rfl) ?_
  refine .m rfl rfl rfl (.load on_22_B rfl (by first | assumption | exact Mem.of_get at2 1 _ rfl)) ?_
  refine .mv rfl ?_
  refine .call rfl rfl rfl rfl @Try.call43 rfl (markInt64S_c) ?_
  rintro _ H8 ⟨rfl, mk8⟩
  have sm8 := mk8.stm
  replace at2 := sm8.same _ _ (by omega) at2
  replace w2 := w2.stm sm8
  replace w3 := w3.stm sm8
  replace w4 := w4.stm sm8
  refine .mv rfl (.nil (hK2 _ _ (.seq (fun K3 hK3 => .region ?_))))
  have c2 : H8.cell g2 (0 + 2) = some (.slice p.a2 c.tgt.length c.tgt.length) := Mem.of_get at2 2 _ rfl
  refine .m rfl rfl rfl (.fieldAddr fo_31_2_B rfl) ?_
  refine .m rfl rfl rfl (.load on_22_B rfl (by first | assumption | exact Mem.of_get at2 2 _ rfl)) ?_
  refine .mv rfl ?_
  refine .call rfl rfl rfl rfl @Try.call43 rfl (markInt64S_c) ?_
  rintro _ H12 ⟨rfl, mk12⟩
  have sm12 := mk12.stm
  replace at2 := sm12.same _ _ (by omega) at2
  replace w3 := w3.stm sm12
  replace w4 := w4.stm sm12
  refine .mv rfl (.nil (hK3 _ _ (.seq (fun K4 hK4 => .region ?_))))
  have c3 : H12.cell g2 (0 + 3) = some (.slice p.a3 c.idn.length c.idn.length) := Mem.of_get at2 3 _ rfl
  refine .m rfl rfl rfl (.fieldAddr fo_31_3_B rfl) ?_
  refine .m rfl rfl rfl (.load on_22_B rfl (by first | assumption | exact Mem.of_get at2 3 _ rfl)) ?_
  refine .mv rfl ?_
  refine .call rfl rfl rfl rfl @Try.call43 rfl (markInt64S_c) ?_
  rintro _ H16 ⟨rfl, mk16⟩
  have sm16 := mk16.stm
  replace at2 := sm16.same _ _ (by omega) at2
  replace w4 := w4.stm sm16
  refine .mv rfl (.nil (hK4 _ _ (.seq (fun K5 hK5 => .region ?_))))
  have c4 : H16.cell g2 (0 + 4) = some (.slice p.a4 c.comp.length c.comp.length) := Mem.of_get at2 4 _ rfl
  refine .m rfl rfl rfl (.fieldAddr fo_31_4_B rfl) ?_
  refine .m rfl rfl rfl (.load on_23_B rfl (by first | assumption | exact Mem.of_get at2 4 _ rfl)) ?_
  refine .mv rfl ?_
  refine .call rfl rfl rfl rfl @Try.call15 rfl (markInt64SS_c) ?_
  rintro _ H20 ⟨rfl, mk20⟩
  refine .mv rfl (.nil (hK5 _ _ (.seq (fun K6 hK6 => .region (.mv rfl (.mv rfl (.nil (hK6 _ _ ?_))))))))
  refine .ret ?_
  refine hret _ _ ?_
  refine ⟨_, rfl, ?_⟩
  exact ⟨by rw [ht]; congr 1; omega, .le_left le2 (mk8.app' (mk12.app' (mk16.app' mk20 (by simp [lvSum])) (by simp [lvSum])) (by simp [lvSum]))⟩
theorem heldCategory_c {c : Cat} {p : CatP} {lo hi b : Nat} {k : Int} {H : GHeap} (w : CatW lo hi H c p := by assumption) (h : Held b H (c.leaves p) k := by assumption) (hs : c.Small := by assumption) (hk : 0 ≤ k := by omega) (hk' : k + c.total ≤ 9223372036854775000 := by omega) :
    GCalls Try.prog 27 [.agg (c.cells p).toArray, .int .i64 k] H (Ret (.int .i64 (k + c.total)) H) := by
  refine GCalls.ret rfl ?_
  have ht : c.total = c.src.length + (c.tgt.length + (c.idn.length + sumL c.comp)) := rfl
  obtain ⟨s1, s2, s3, s4, -, -⟩ := hs
  obtain ⟨v1, h⟩ := h.app
  obtain ⟨v2, h⟩ := h.app
  obtain ⟨v3, v4⟩ := h.app
  simp only [lvSum, Nat.add_zero] at v2 v3 v4
  refine GCalls.body (N := 30) (rs := [.tmp 4]) Try.func27 rfl rfl rfl rfl (fun Qx hret hend => ?_)
  refine .forget (fr' := [(0, some _), (1, some _)]) ⟨rfl, rfl, trivial⟩ ?_
  have hle := GHeap.Le.refl H
  refine .seq (fun K1 hK1 => .region ?_)
  refine .r rfl rfl rfl (.boxR rfl sz_31_D rfl) ?_
  rintro _ H2 ⟨g2, rfl, le2, ge2, at2⟩
  replace hle := hle.trans le2
  refine .mv rfl (.nil (hK1 _ _ (.seq (fun K2 hK2 => .region ?_))))
  replace v1 := v1.keep (.of_le le2) (Nat.zero_le _)
  replace v2 := v2.keep (.of_le le2) (Nat.zero_le _)
  replace v3 := v3.keep (.of_le le2) (Nat.zero_le _)
  replace v4 := v4.keep (.of_le le2) (Nat.zero_le _)
  have hsl := w.2.2.2.1.mono le2
  have c1 : H2.cell g2 (0 + 1) = some (.slice p.a1 c.src.length c.src.length) := Mem.of_get at2 1 _ rfl
  have c2 : H2.cell g2 (0 + 2) = some (.slice p.a2 c.tgt.length c.tgt.length) := Mem.of_get at2 2 _ rfl
  have c3 : H2.cell g2 (0 + 3) = some (.slice p.a3 c.idn.length c.idn.length) := Mem.of_get at2 3 _ rfl
  have c4 : H2.cell g2 (0 + 4) = some (.slice p.a4 c.comp.length c.comp.length) := Mem.of_get at2 4 _ rfl
  refine .m rfl rfl rfl (.fieldAddr fo_31_1_B rfl) ?_
  refine .m rfl rfl rfl (.load on_22_B rfl (by first | assumption | exact Mem.of_get at2 1 _ rfl)) ?_
  refine .mv rfl ?_
  refine .callQ rfl rfl rfl rfl @Try.call44 rfl (heldInt64S_c) ?_
  refine .mv rfl (.nil (hK2 _ _ (.seq (fun K3 hK3 => .seq (fun K4 hK4 => .region (.mv rfl (.m rfl rfl rfl (.cmp rfl rfl rfl) (.nil (hK4 _ _ ?_)))))))))
  refine .cond rfl (fun h10 => ?_) (fun h10 => ?_)
  ·
   exact absurd h10 (by simp; omega)
  try simp only [sps] at h10
  refine .skip ?_
  refine hK3 _ _ (.seq (fun K5 hK5 => .region (.m rfl rfl rfl (.fieldAddr fo_31_2_B rfl) ?_)))
  refine .m rfl rfl rfl (.load on_22_B rfl (by first | assumption | exact Mem.of_get at2 2 _ rfl)) ?_
  refine .mv rfl ?_
  refine .callQ rfl rfl rfl rfl @Try.call44 rfl (heldInt64S_c) ?_
  refine .mv rfl (.nil (hK5 _ _ (.seq (fun K6 hK6 => .seq (fun K7 hK7 => .region (.mv rfl (.m rfl rfl rfl (.cmp rfl rfl rfl) (.nil (hK7 _ _ ?_)))))))))
  refine .cond rfl (fun h16 => ?_) (fun h16 => ?_)
  ·
   exact absurd h16 (by simp; omega)
  try simp only [sps] at h16
  refine .skip ?_
  refine hK6 _ _ (.seq (fun K8 hK8 => .region (.m rfl rfl rfl (.fieldAddr fo_31_3_B rfl) ?_)))
  refine .m rfl rfl rfl (.load on_22_B rfl (by first | assumption | exact Mem.of_get at2 3 _ rfl)) ?_
  refine .mv rfl ?_
  refine .callQ rfl rfl rfl rfl @Try.call44 rfl (heldInt64S_c) ?_
  refine .mv rfl (.nil (hK8 _ _ (.seq (fun K9 hK9 => .seq (fun K10 hK10 => .region (.mv rfl (.m rfl rfl rfl (.cmp rfl rfl rfl) (.nil (hK10 _ _ ?_)))))))))
  refine .cond rfl (fun h22 => ?_) (fun h22 => ?_)
  ·
   exact absurd h22 (by simp; omega)
  try simp only [sps] at h22
  refine .skip ?_
  refine hK9 _ _ (.seq (fun K11 hK11 => .region (.m rfl rfl rfl (.fieldAddr fo_31_4_B rfl) ?_)))
  refine .m rfl rfl rfl (.load on_23_B rfl (by first | assumption | exact Mem.of_get at2 4 _ rfl)) ?_
  refine .mv rfl ?_
  refine .callQ rfl rfl rfl rfl @Try.call16 rfl (heldInt64SS_c) ?_
  refine .mv rfl (.nil (hK11 _ _ (.seq (fun K12 hK12 => .seq (fun K13 hK13 => .region (.mv rfl (.m rfl rfl rfl (.cmp rfl rfl rfl) (.nil (hK13 _ _ ?_)))))))))
  refine .cond rfl (fun h28 => ?_) (fun h28 => ?_)
  ·
   exact absurd h28 (by simp; omega)
  try simp only [sps] at h28
  refine .skip ?_
  refine hK12 _ _ (.seq (fun K14 hK14 => .region (.mv rfl (.mv rfl (.nil (hK14 _ _ ?_))))))
  refine .ret ?_
  refine hret _ _ ?_
  refine ⟨_, rfl, ?_⟩
  exact ⟨by rw [ht]; congr 1; omega, hle⟩
theorem markFunctor_c {c : Fun} {p : FunP} {lo hi : Nat} {k : Int} {H : GHeap} (w : FunW lo hi H c p := by assumption) (hs : c.Small := by assumption) (hk : 0 ≤ k := by omega) (hk' : k + c.total ≤ 9223372036854775000 := by omega) (hhi : hi ≤ H.next := by omega) :
    GCalls Try.prog 14 [.agg (c.cells p).toArray, .int .i64 k] H (fun v H' => v = .int .i64 (k + c.total) ∧ Marked lo hi H H' (c.leaves p) k) := by
  obtain ⟨w1, w2, w3, w4⟩ := w
  have ht : c.total = c.s.total + (c.t.total + (c.ob.length + c.ar.length)) := rfl
  obtain ⟨s1, s2, s3, s4⟩ := hs
  refine GCalls.body (N := 22) (rs := [.tmp 4]) Try.func14 rfl rfl rfl rfl (fun Qx hret hend => ?_)
  refine .forget (fr' := [(0, some _), (1, some _)]) ⟨rfl, rfl, trivial⟩ ?_
  refine .seq (fun K1 hK1 => .region ?_)
  refine .r rfl rfl rfl (.boxR rfl sz_33_E rfl) ?_
  rintro _ H2 ⟨g2, rfl, le2, ge2, at2⟩
  have nx_H2 := le2.1
  have lt_at2 := GHeap.ltg at2
  replace w1 := w1.stm (.of_le le2)
  replace w2 := w2.stm (.of_le le2)
  replace w3 := w3.stm (.of_le le2)
  replace w4 := w4.stm (.of_le le2)
  refine .mv rfl (.nil (hK1 _ _ (.seq (fun K2 hK2 => .region ?_))))
  have m1 : MemN H2 g2 (0 + 0) 5 (c.s.cells p.s) := ⟨rfl, Mem.left (bs := c.t.cells p.t ++ _) (Mem.of_get at2)⟩
  refine .m rfl rfl rfl (.fieldAddr fo_33_0_E rfl) ?_
  refine .m rfl rfl rfl (.loadM ag_31_D rfl (by assumption)) ?_
  refine .mv rfl ?_
  refine .call rfl rfl rfl rfl @Try.call26 rfl (markCategory_c) ?_
  rintro _ H8 ⟨rfl, mk8⟩
  have sm8 := mk8.stm
  have nx_H8 := sm8.nx
  replace at2 := sm8.same _ _ (by omega) at2
  replace w2 := w2.stm sm8
  replace w3 := w3.stm sm8
  replace w4 := w4.stm sm8
  refine .mv rfl (.nil (hK2 _ _ (.seq (fun K3 hK3 => .region ?_))))
  have hx : Mem H8 g2 0 (c.s.cells p.s ++ (c.t.cells p.t ++ [.slice p.b1 c.ob.length c.ob.length, .slice p.b2 c.ar.length c.ar.length])) := Mem.of_get at2
  have m2 : MemN H8 g2 (0 + 5) 5 (c.t.cells p.t) := ⟨rfl, (hx.right (n := 5) rfl).left⟩
  refine .m rfl rfl rfl (.fieldAddr fo_33_1_E rfl) ?_
  refine .m rfl rfl rfl (.loadM ag_31_D rfl (by assumption)) ?_
  refine .mv rfl ?_
  refine .call rfl rfl rfl rfl @Try.call26 rfl (markCategory_c) ?_
  rintro _ H12 ⟨rfl, mk12⟩
  have sm12 := mk12.stm
  replace at2 := sm12.same _ _ (by omega) at2
  replace w3 := w3.stm sm12
  replace w4 := w4.stm sm12
  refine .mv rfl (.nil (hK3 _ _ (.seq (fun K4 hK4 => .region ?_))))
  have c1 : H12.cell g2 (0 + 10) = some (.slice p.b1 c.ob.length c.ob.length) := Mem.of_get at2 10 _ rfl
  refine .m rfl rfl rfl (.fieldAddr fo_33_2_E rfl) ?_
  refine .m rfl rfl rfl (.load on_22_B rfl (by first | assumption | exact Mem.of_get at2 10 _ rfl)) ?_
  refine .mv rfl ?_
  refine .call rfl rfl rfl rfl @Try.call43 rfl (markInt64S_c) ?_
  rintro _ H16 ⟨rfl, mk16⟩
  have sm16 := mk16.stm
  replace at2 := sm16.same _ _ (by omega) at2
  replace w4 := w4.stm sm16
  refine .mv rfl (.nil (hK4 _ _ (.seq (fun K5 hK5 => .region ?_))))
  have c1 : H16.cell g2 (0 + 11) = some (.slice p.b2 c.ar.length c.ar.length) := Mem.of_get at2 11 _ rfl
  refine .m rfl rfl rfl (.fieldAddr fo_33_3_E rfl) ?_
  refine .m rfl rfl rfl (.load on_22_B rfl (by first | assumption | exact Mem.of_get at2 11 _ rfl)) ?_
  refine .mv rfl ?_
  refine .call rfl rfl rfl rfl @Try.call43 rfl (markInt64S_c) ?_
  rintro _ H20 ⟨rfl, mk20⟩
  refine .mv rfl (.nil (hK5 _ _ (.seq (fun K6 hK6 => .region (.mv rfl (.mv rfl (.nil (hK6 _ _ ?_))))))))
  refine .ret ?_
  refine hret _ _ ?_
  refine ⟨_, rfl, ?_⟩
  exact ⟨by rw [ht]; congr 1; omega, .le_left le2 (mk8.app' (mk12.app' (mk16.app' mk20 (by simp [lvSum])) (by rw [Cat.lvSum_leaves])) (by rw [Cat.lvSum_leaves]))⟩
end Go.Proofs.Ytagkeabmdodfiaa
namespace Go.Proofs.Ytagkeabmdodfiaa
open Go Go.GL Go.RowKit Go.Proofs
end Go.Proofs.Ytagkeabmdodfiaa
namespace Go.Proofs.Ytagkeabmdodfiaa
open Go Go.GL Go.RowKit Go.Proofs
end Go.Proofs.Ytagkeabmdodfiaa
namespace Go.GL

structure Fun.Cone (d : Fun) (p : Con) : Prop where
  ap : 0 ≤ p.ap ∧ p.ap < d.t.obj
  ll : p.lg.length = d.ob.length
  lg : ∀ j, j < p.lg.length → 0 ≤ p.lg.getD j 0 ∧ p.lg.getD j 0 < d.t.src.length
  ends : ∀ j, j < p.lg.length → d.t.src.getD (p.lg.getD j 0).toNat 0 = p.ap ∧ d.t.tgt.getD (p.lg.getD j 0).toNat 0 = d.ob.getD j 0
  tri : ∀ a, a < d.ar.length → d.t.th (p.lg.getD (d.s.src.getD a 0).toNat 0) (d.ar.getD a 0) = p.lg.getD (d.s.tgt.getD a 0).toNat 0
theorem Fun.Is.arr {f : Fun} (h : f.Is) {a : Nat} (ha : a < f.ar.length) : 0 ≤ f.s.src.getD a 0 ∧ f.s.src.getD a 0 < f.ob.length ∧ 0 ≤ f.s.tgt.getD a 0 ∧ f.s.tgt.getD a 0 < f.ob.length ∧ 0 ≤ f.ar.getD a 0 ∧ f.ar.getD a 0 < f.t.src.length ∧
    f.t.src.getD (f.ar.getD a 0).toNat 0 = f.ob.getD (f.s.src.getD a 0).toNat 0 ∧ f.t.tgt.getD (f.ar.getD a 0).toNat 0 = f.ob.getD (f.s.tgt.getD a 0).toNat 0 := by
  have hS := h.1.1
  have q0 := h.2.2.al
  have q1 := hS.src a (by omega)
  have q2 := hS.tgt a (by have := hS.tl; omega)
  have q3 := h.2.2.ol
  have q4 := h.2.2.ar a ha
  have q5 := h.2.2.ends a ha
  omega
def Con.zero : Con := ⟨0, []⟩
end Go.GL
namespace Go.Proofs.Ytagkeabmdodfiaa
open Go Go.GL Go.RowKit Go.Proofs
end Go.Proofs.Ytagkeabmdodfiaa
namespace Go.GL

def first2 (n : Nat) (len : Nat → Nat) (p : Nat → Nat → Bool) : Int × Int :=
  match firstN n fun a => (firstN (len a) (p a)).isSome with
  | some a => ((a : Int), (((firstN (len a) (p a)).getD 0 : Nat) : Int))
  | none => (-1, 0)
def SFun.AcOk (f : SFun) (a : Nat) : Prop :=
  ((f.ac.getD a []).length : Int) = f.sz.getD (f.sh.src.getD a 0).toNat 0 ∧ allIn (f.ac.getD a []) (f.sz.getD (f.sh.tgt.getD a 0).toNat 0) = true
structure SFun.Shape (f : SFun) : Prop where
  c : f.sh.Is
  zl : (f.sz.length : Int) = f.sh.obj
  sz : ∀ i, i < f.sz.length → 0 ≤ f.sz.getD i 0 ∧ f.sz.getD i 0 ≤ 16
  al : f.ac.length = f.sh.src.length
  ac : ∀ a, a < f.ac.length → f.AcOk a
theorem SFun.Shape.act {f : SFun} (h : f.Shape) {a : Nat} (ha : a < f.ac.length) {e : Nat} (he : e < (f.ac.getD a []).length) : 0 ≤ (f.ac.getD a []).getD e 0 ∧ (f.ac.getD a []).getD e 0 < f.sz.getD (f.sh.tgt.getD a 0).toNat 0 := allIn_iff.1 (h.ac a ha).2 e he
theorem SFun.Shape.ends {f : SFun} (h : f.Shape) {a : Nat} (ha : a < f.sh.src.length) : 0 ≤ f.sh.src.getD a 0 ∧ f.sh.src.getD a 0 < f.sz.length ∧ 0 ≤ f.sh.tgt.getD a 0 ∧ f.sh.tgt.getD a 0 < f.sz.length ∧ ((f.ac.getD a []).length : Int) = f.sz.getD (f.sh.src.getD a 0).toNat 0 := by
  have hS := h.c.1
  have q1 := hS.src a ha
  have q2 := hS.tgt a (by have := hS.tl; omega)
  have q3 := h.zl
  have q4 := (h.ac a (by have := h.al; omega)).1
  omega
structure SFun.Laws (f : SFun) : Prop where
  ids : ∀ x : Nat, x < f.sh.idn.length → ∀ e : Nat, e < (f.ac.getD (f.sh.idn.getD x 0).toNat []).length → (f.ac.getD (f.sh.idn.getD x 0).toNat []).getD e 0 = e
  th : ∀ a : Nat, a < f.sh.src.length → ∀ b : Nat, b < f.sh.src.length → f.sh.tgt.getD a 0 = f.sh.src.getD b 0 → ∀ e : Nat, e < (f.ac.getD a []).length →
    (f.ac.getD ((f.sh.comp.getD a []).getD b 0).toNat []).getD e 0 = (f.ac.getD b []).getD ((f.ac.getD a []).getD e 0).toNat 0
def SFun.Is (f : SFun) : Prop := f.Shape ∧ f.Laws

def SMap.PaOk (m : SMap) (x : Nat) : Prop := ((m.pa.getD x []).length : Int) = m.s.sz.getD x 0 ∧ allIn (m.pa.getD x []) (m.t.sz.getD x 0) = true
structure SMap.Fits (m : SMap) : Prop where
  pl : m.pa.length = m.s.sz.length
  pa : ∀ x, x < m.pa.length → m.PaOk x
structure SMap.Shape (m : SMap) : Prop where
  s : m.s.Is
  t : m.t.Is
  sh : m.s.sh = m.t.sh
  fits : m.Fits
def SMap.bad (m : SMap) (a e : Nat) : Bool := decide (¬ (m.pa.getD (m.s.sh.tgt.getD a 0).toNat []).getD ((m.s.ac.getD a []).getD e 0).toNat 0 = (m.t.ac.getD a []).getD ((m.pa.getD (m.s.sh.src.getD a 0).toNat []).getD e 0).toNat 0)
def SMap.first (m : SMap) : Int × Int := first2 m.s.ac.length (fun a => (m.s.ac.getD a []).length) m.bad
def SMap.Is (m : SMap) : Prop := m.Shape ∧ ∀ a, a < m.s.ac.length → ∀ e, e < (m.s.ac.getD a []).length → m.bad a e = false
end Go.GL
namespace Go.GL

def Rising (xs : List Int) : Prop := ∀ i, 1 ≤ i → i < xs.length → xs.getD (i - 1) 0 < xs.getD i 0
structure SFun.Part (f : SFun) (me : List (List Int)) : Prop where
  pl : me.length = f.sz.length
  rs : ∀ x, x < me.length → Rising (me.getD x []) ∧ allIn (me.getD x []) (f.sz.getD x 0) = true
  cl : ∀ a, a < f.ac.length → ∀ i, i < (me.getD (f.sh.src.getD a 0).toNat []).length → (me.getD (f.sh.tgt.getD a 0).toNat []).contains ((f.ac.getD a []).getD ((me.getD (f.sh.src.getD a 0).toNat []).getD i 0).toNat 0) = true
end Go.GL
namespace Go.GL

def SFun.total (f : SFun) : Nat := f.sh.total + (f.sz.length + sumL f.ac)
def SFunW (lo hi : Nat) (H : GHeap) (f : SFun) (p : SFunP) : Prop := CatW lo hi H f.sh p.sh ∧ IntsW lo hi H p.a1 f.sz.length ∧ IntssW lo hi H p.a2 f.ac p.r2
theorem SFunW.stm {lo hi : Nat} {H H' : GHeap} {c : SFun} {p : SFunP} (h : SFunW lo hi H c p) (s : StM lo hi H H') : SFunW lo hi H' c p := ⟨h.1.stm s, h.2.1.stm s, h.2.2.stm s⟩
theorem SFunW.of_at {b : Nat} {H0 H : GHeap} {c : SFun} {p : SFunP} (h : SFunAt b H0 c p) (k : Keep b H0 H) : SFunW b H0.next H c p := ⟨.of_at h.1 k, .of_at h.2.1 k, .of_at h.2.2 k⟩
def SFun.leaves (f : SFun) (p : SFunP) : List Leaf := f.sh.leaves p.sh ++ ([(p.a1, f.sz.length)] ++ rowsL p.r2 f.ac f.ac.length)
theorem SFun.lvSum_leaves (c : SFun) (p : SFunP) : lvSum (c.leaves p) = c.total := by
  simp only [SFun.leaves, lvSum_append, lvSum, Cat.lvSum_leaves, lvSum_rowsL p.r2 c.ac _ (Nat.le_refl _), List.take_length, SFun.total, Nat.add_zero]
theorem sumL_tot {xss : List (List Int)} (h : xss.length ≤ 1048576) (h' : ∀ i, (xss.getD i []).length ≤ 1048576) : sumL xss ≤ 1048576 * 1048576 := by
  have := sumL_le (m := 1048576) h'
  have h6 : xss.length * 1048576 ≤ 1048576 * 1048576 := Nat.mul_le_mul_right _ h
  exact Nat.le_trans this h6
theorem SFun.Small.tot {c : SFun} (h : c.Small) : c.total ≤ 4 * 1048576 + 2 * 1048576 * 1048576 := by
  obtain ⟨h1, h2, h3, h4⟩ := h
  have := h1.tot
  have := sumL_tot h3 h4
  unfold SFun.total
  omega
def SMap.total (f : SMap) : Nat := f.s.total + (f.t.total + sumL f.pa)
def SMapW (lo hi : Nat) (H : GHeap) (f : SMap) (p : SMapP) : Prop := SFunW lo hi H f.s p.s ∧ SFunW lo hi H f.t p.t ∧ IntssW lo hi H p.a2 f.pa p.r2
theorem SMapW.stm {lo hi : Nat} {H H' : GHeap} {c : SMap} {p : SMapP} (h : SMapW lo hi H c p) (s : StM lo hi H H') : SMapW lo hi H' c p := ⟨h.1.stm s, h.2.1.stm s, h.2.2.stm s⟩
theorem SMapW.of_at {b : Nat} {H0 H : GHeap} {c : SMap} {p : SMapP} (h : SMapAt b H0 c p) (k : Keep b H0 H) : SMapW b H0.next H c p := ⟨.of_at h.1 k, .of_at h.2.1 k, .of_at h.2.2 k⟩
def SMap.leaves (f : SMap) (p : SMapP) : List Leaf := f.s.leaves p.s ++ (f.t.leaves p.t ++ rowsL p.r2 f.pa f.pa.length)
theorem SMap.lvSum_leaves (c : SMap) (p : SMapP) : lvSum (c.leaves p) = c.total := by
  simp only [SMap.leaves, lvSum_append, SFun.lvSum_leaves, lvSum_rowsL p.r2 c.pa _ (Nat.le_refl _), List.take_length, SMap.total]
theorem SMap.Small.tot {c : SMap} (h : c.Small) : c.total ≤ 8 * 1048576 + 5 * 1048576 * 1048576 := by
  obtain ⟨h1, h2, h3, h4⟩ := h
  have := h1.tot
  have := h2.tot
  have := sumL_tot h3 h4
  unfold SMap.total
  omega
def Prt.total (f : Prt) : Nat := sumL f.me
def PrtW (lo hi : Nat) (H : GHeap) (f : Prt) (p : PrtP) : Prop := IntssW lo hi H p.a0 f.me p.r0
theorem PrtW.stm {lo hi : Nat} {H H' : GHeap} {c : Prt} {p : PrtP} (h : PrtW lo hi H c p) (s : StM lo hi H H') : PrtW lo hi H' c p := IntssW.stm h s
theorem PrtW.keep {lo lo' hi : Nat} {H H' : GHeap} {c : Prt} {p : PrtP} (h : PrtW lo hi H c p) (k : Keep lo' H H') (hb : lo' ≤ lo) : PrtW lo hi H' c p := IntssW.keep h k hb
theorem SFunW.keep {lo lo' hi : Nat} {H H' : GHeap} {c : SFun} {p : SFunP} (h : SFunW lo hi H c p) (k : Keep lo' H H') (hb : lo' ≤ lo) : SFunW lo hi H' c p := ⟨h.1.keep k hb, h.2.1.keep k hb, h.2.2.keep k hb⟩
theorem SMapW.keep {lo lo' hi : Nat} {H H' : GHeap} {c : SMap} {p : SMapP} (h : SMapW lo hi H c p) (k : Keep lo' H H') (hb : lo' ≤ lo) : SMapW lo hi H' c p := ⟨h.1.keep k hb, h.2.1.keep k hb, h.2.2.keep k hb⟩
theorem PrtW.of_at {b : Nat} {H0 H : GHeap} {c : Prt} {p : PrtP} (h : PrtAt b H0 c p) (k : Keep b H0 H) : PrtW b H0.next H c p := IntssW.of_at h k
def Prt.leaves (f : Prt) (p : PrtP) : List Leaf := rowsL p.r0 f.me f.me.length
theorem Prt.lvSum_leaves (c : Prt) (p : PrtP) : lvSum (c.leaves p) = c.total := by
  simp only [Prt.leaves, lvSum_rowsL p.r0 c.me _ (Nat.le_refl _), List.take_length, Prt.total]
theorem Prt.Small.tot {c : Prt} (h : c.Small) : c.total ≤ 1048576 * 1048576 := sumL_tot h.1 h.2

def NoTwo (xss : List (List Int)) (r : Nat → Option Addr) : Prop := (lvBlks (rowsL r xss xss.length)).Nodup
def IntssR (b : Nat) (H : GHeap) (a : Option Addr) (xss : List (List Int)) (r : Nat → Option Addr) : Prop := ((xss = [] ∧ a = none) ∨ IntssAt b H a xss r) ∧ NoTwo xss r
theorem IntssR.keep {b b' : Nat} {H H' : GHeap} {a : Option Addr} {xs : List (List Int)} {r : Nat → Option Addr} (h : IntssR b H a xs r) (k : Keep b' H H') (hb : b' ≤ b) : IntssR b' H' a xs r := ⟨h.1.imp id fun h => h.keep k hb, h.2⟩
theorem IntssR.intss {b : Nat} {H : GHeap} {a : Option Addr} {xs : List (List Int)} {r : Nat → Option Addr} (h : IntssR b H a xs r) : Intss H a xs r := by
  rcases h.1 with ⟨rfl, rfl⟩ | h
  · exact ⟨.inl rfl, fun i hi => by simp at hi⟩
  · exact h.intss
theorem IntssR.nil (b : Nat) (H : GHeap) (r : Nat → Option Addr) : IntssR b H none [] r := ⟨.inl ⟨rfl, rfl⟩, by simp [NoTwo, lvBlks, rowsL]⟩
def NewIntssR (H : GHeap) (xs : List (List Int)) (v : Value) (H' : GHeap) : Prop := H.Le H' ∧ ∃ a r, v = .slice a xs.length xs.length ∧ IntssR H.next H' a xs r
def PrtR (b : Nat) (H : GHeap) (c : Prt) (p : PrtP) : Prop := IntssR b H p.a0 c.me p.r0
theorem PrtR.keep {b b' : Nat} {H H' : GHeap} {c : Prt} {p : PrtP} (h : PrtR b H c p) (k : Keep b' H H') (hb : b' ≤ b) : PrtR b' H' c p := IntssR.keep h k hb
theorem PrtR.inn {b : Nat} {H : GHeap} {c : Prt} {p : PrtP} (h : PrtR b H c p) : c.In H p := IntssR.intss h
theorem IntssW.of_r {b : Nat} {H0 H : GHeap} {a : Option Addr} {xs : List (List Int)} {r : Nat → Option Addr} (h : IntssR b H0 a xs r) (k : Keep b H0 H) : IntssW b H0.next H a xs r := by
  rcases h.1 with ⟨rfl, rfl⟩ | h
  · exact ⟨.inl rfl, fun i hi => by simp at hi, .inl rfl⟩
  · exact .of_at h k
theorem PrtW.of_r {b : Nat} {H0 H : GHeap} {c : Prt} {p : PrtP} (h : PrtR b H0 c p) (k : Keep b H0 H) : PrtW b H0.next H c p := IntssW.of_r h k

def slsOf (r : Nat → Option Addr) (X : Nat → List Int) (k : Nat) : List Value := (List.range k).map fun i => .slice (r i) (X i).length (X i).length
@[simp] theorem length_slsOf (r : Nat → Option Addr) (X : Nat → List Int) (k : Nat) : (slsOf r X k).length = k := by simp [slsOf]
def upd (r : Nat → Option Addr) (k : Nat) (a : Option Addr) : Nat → Option Addr := fun i => if i = k then a else r i
theorem upd_eq (r : Nat → Option Addr) (k : Nat) (a : Option Addr) : upd r k a k = a := by simp [upd]
theorem upd_ne {r : Nat → Option Addr} {k i : Nat} {a : Option Addr} (h : i ≠ k) : upd r k a i = r i := by simp [upd, h]
theorem slsOf_succ {r : Nat → Option Addr} {X : Nat → List Int} {k : Nat} {a : Option Addr} : slsOf (upd r k a) X (k + 1) = slsOf r X k ++ [.slice a (X k).length (X k).length] := by
  unfold slsOf
  rw [List.range_succ, List.map_append]
  congr 1
  · refine List.map_congr_left fun i hi => ?_
    rw [upd_ne (by have := List.mem_range.1 hi; omega)]
  · simp [upd_eq]
structure OwnRows (b : Nat) (H : GHeap) (e : TypeId) (r : Nat → Option Addr) (X : Nat → List Int) (k : Nat) : Prop where
  row : ∀ i, i < k → ∃ g, r i = some ⟨g, 0, none⟩ ∧ b ≤ g ∧ H.get g = some (.row (ints (X i)) e true)
  inj : ∀ i j, i < k → j < k → r i = r j → i = j
theorem OwnRows.zero (b : Nat) (H : GHeap) (e : TypeId) (r : Nat → Option Addr) (X : Nat → List Int) : OwnRows b H e r X 0 := ⟨fun i hi => by omega, fun i j hi => by omega⟩
def Lasts (e : TypeId) (H H' : GHeap) : Prop := ∀ x xs, H.get x = some (.row (ints xs) e true) → H'.get x = some (.row (ints xs) e true)
theorem St.lasts1 {g0 : Nat} {H H' : GHeap} {e e' : TypeId} {cs : List Value} (s : St [g0] H H') (h0 : H.get g0 = some (.row cs e' true)) (hne : (e != e') = true) : Lasts e H H' := fun x xs hx => by
  simp only [bne_iff_ne, ne_eq] at hne
  refine s.same x _ ⟨fun ex => ?_, trivial⟩ hx
  subst ex
  rw [h0] at hx
  cases hx
  exact hne rfl
theorem OwnRows.keep {b k : Nat} {H H' : GHeap} {e : TypeId} {r : Nat → Option Addr} {X : Nat → List Int} (h : OwnRows b H e r X k) (s : Lasts e H H') : OwnRows b H' e r X k := ⟨fun i hi => by
  obtain ⟨x, h1, h2, h3⟩ := h.row i hi
  exact ⟨x, h1, h2, s x _ h3⟩, h.inj⟩
theorem OwnRows.succ' {b g k : Nat} {H H' : GHeap} {e : TypeId} {r : Nat → Option Addr} {X : Nat → List Int} (h : OwnRows b H e r X k) (s : Lasts e H H')
    (hg : H'.get g = some (.row (ints (X k)) e true)) (hn : H.next ≤ g) (hb : b ≤ g) : OwnRows b H' e (upd r k (some ⟨g, 0, none⟩)) X (k + 1) := by
  refine ⟨fun i hi => ?_, fun i j hi hj hij => ?_⟩
  · by_cases ek : i = k
    · subst ek; exact ⟨g, upd_eq _ _ _, hb, hg⟩
    · obtain ⟨x, h1, h2, h3⟩ := h.row i (by omega)
      exact ⟨x, by rw [upd_ne ek]; exact h1, h2, s x _ h3⟩
  · by_cases ei : i = k
    · by_cases ej : j = k
      · omega
      · subst ei
        rw [upd_eq, upd_ne ej] at hij
        obtain ⟨x, h1, _, h3⟩ := h.row j (by omega)
        rw [h1] at hij
        cases hij
        have := GHeap.ltg h3
        omega
    · by_cases ej : j = k
      · subst ej
        rw [upd_eq, upd_ne ei] at hij
        obtain ⟨x, h1, _, h3⟩ := h.row i (by omega)
        rw [h1] at hij
        cases hij
        have := GHeap.ltg h3
        omega
      · rw [upd_ne ei, upd_ne ej] at hij
        exact h.inj i j (by omega) (by omega) hij
theorem OwnRows.succ {b g g0 k : Nat} {H H' : GHeap} {e e' : TypeId} {r : Nat → Option Addr} {X : Nat → List Int} {cs : List Value} (h : OwnRows b H e r X k) (s : St [g0] H H') (h0 : H.get g0 = some (.row cs e' true)) (hne : (e != e') = true)
    (hg : H'.get g = some (.row (ints (X k)) e true)) (hn : H.next ≤ g) (hb : b ≤ g) : OwnRows b H' e (upd r k (some ⟨g, 0, none⟩)) X (k + 1) := h.succ' (s.lasts1 h0 hne) hg hn hb
theorem mem_lvBlk {g n x : Nat} (h : x ∈ lvBlk (some ⟨g, 0, none⟩, n)) : x = g := by
  cases n with
  | zero => simp [lvBlk] at h
  | succ n => simpa [lvBlk] using h
theorem lvBlks_rowsL {r : Nat → Option Addr} {xss : List (List Int)} (hr : ∀ i, i < xss.length → ∃ g, r i = some ⟨g, 0, none⟩) (hi : ∀ i j, i < xss.length → j < xss.length → r i = r j → i = j) : ∀ {n}, n ≤ xss.length →
    (lvBlks (rowsL r xss n)).Nodup ∧ ∀ g ∈ lvBlks (rowsL r xss n), ∃ i, i < n ∧ r i = some ⟨g, 0, none⟩
  | 0, _ => by simp [rowsL, lvBlks]
  | n + 1, hn => by
    obtain ⟨h1, h2⟩ := lvBlks_rowsL hr hi (n := n) (by omega)
    obtain ⟨g, hg⟩ := hr n (by omega)
    have h3 : ∀ x ∈ lvBlk (r n, (xss.getD n []).length), x = g := fun x hx => by rw [hg] at hx; exact mem_lvBlk hx
    have h4 : (lvBlk (r n, (xss.getD n []).length)).Nodup := by unfold lvBlk; split <;> simp
    have e1 : lvBlks (rowsL r xss (n + 1)) = lvBlks (rowsL r xss n) ++ lvBlk (r n, (xss.getD n []).length) := by rw [rowsL_succ, lvBlks_append]; simp [lvBlks]
    rw [e1]
    refine ⟨List.nodup_append.2 ⟨h1, h4, fun x hx y hy hxy => ?_⟩, fun x hx => ?_⟩
    · obtain ⟨i, i1, i2⟩ := h2 x hx
      have := h3 y hy
      subst hxy this
      have := hi i n (by omega) (by omega) (by rw [i2, hg])
      omega
    · rcases List.mem_append.1 hx with hx | hx
      · obtain ⟨i, i1, i2⟩ := h2 x hx
        exact ⟨i, by omega, i2⟩
      · exact ⟨n, by omega, by rw [h3 x hx]; exact hg⟩
def rowsOf (X : Nat → List Int) (n : Nat) : List (List Int) := (List.range n).map X
@[simp] theorem length_rowsOf (X : Nat → List Int) (n : Nat) : (rowsOf X n).length = n := by simp [rowsOf]
theorem rowsOf_get {X : Nat → List Int} {n i : Nat} (h : i < n) : (rowsOf X n).getD i [] = X i := by simp [rowsOf, List.getD_eq_getElem?_getD, h]
theorem OwnRows.done {b g n : Nat} {H : GHeap} {e e' : TypeId} {r : Nat → Option Addr} {X : Nat → List Int} (h : OwnRows b H e r X n) (hg : H.get g = some (.row (slsOf r X n) e' true)) (hb : b ≤ g) : IntssR b H (some ⟨g, 0, none⟩) (rowsOf X n) r := by
  refine ⟨.inr ⟨g, e', slsOf r X n, rfl, hb, hg, by simp, fun i hi => ?_, fun i hi => ?_⟩, ?_⟩
  · rw [length_rowsOf] at hi
    rw [rowsOf_get hi]
    simp [slsOf, hi]
  · rw [length_rowsOf] at hi
    rw [rowsOf_get hi]
    obtain ⟨x, h1, h2, h3⟩ := h.row i hi
    exact ⟨x, e, h1, h2, h3⟩
  · exact (lvBlks_rowsL (fun i hi => by rw [length_rowsOf] at hi; obtain ⟨x, h1, _⟩ := h.row i hi; exact ⟨x, h1⟩) (fun i j hi hj => by rw [length_rowsOf] at hi hj; exact h.inj i j hi hj) (Nat.le_refl _)).1

def NilOr (b : Nat) (H : GHeap) (a : Option Addr) (g : Nat) (cs : List Value) (e : TypeId) (k : Nat) : Prop := (a = none ∧ k = 0) ∨ (a = some ⟨g, 0, none⟩ ∧ 0 < k ∧ b ≤ g ∧ H.get g = some (.row cs e true))
theorem NilOr.st {b g g0 k : Nat} {H H' : GHeap} {a : Option Addr} {cs : List Value} {e : TypeId} (h : NilOr b H a g cs e k) (s : St [g0] H H') (hn : g0 < b) : NilOr b H' a g cs e k := h.imp id fun ⟨h1, h0, h2, h3⟩ => ⟨h1, h0, h2, s.same g _ ⟨by omega, trivial⟩ h3⟩
theorem Lasts.trans {e : TypeId} {A B C : GHeap} (h : Lasts e A B) (h' : Lasts e B C) : Lasts e A C := fun x xs hx => h' x xs (h x xs hx)
section
variable {P : Program} {o : Oper} {fr : Slots} {H : GHeap}
end
def SMap.backX (m : SMap) (me : List (List Int)) (x : Nat) : List Int := filtN (m.pa.getD x []).length fun e => (me.getD x []).contains ((m.pa.getD x []).getD e 0)
def SMap.backR (m : SMap) (me : List (List Int)) : List (List Int) := rowsOf (m.backX me) m.pa.length
noncomputable def SMap.back (m : SMap) (me : List (List Int)) : Prt := ⟨bif B (m.Is ∧ m.t.Part me) then m.backR me else []⟩
def SFun.pick (f : SFun) (Y : Nat → Nat → Bool) : Prt := ⟨rowsOf (fun x => filtN (f.sz.getD x 0).toNat (Y x)) f.sz.length⟩
end Go.GL
namespace Go.GL
def slsL (r : Nat → Option Addr) (xss : List (List Int)) : List Value := slsOf r (fun i => xss.getD i []) xss.length
@[simp] theorem length_slsL (r : Nat → Option Addr) (xss : List (List Int)) : (slsL r xss).length = xss.length := by simp [slsL]
theorem slsOf_congr {r : Nat → Option Addr} {X Y : Nat → List Int} {k : Nat} (h : ∀ i, i < k → X i = Y i) : slsOf r X k = slsOf r Y k := List.map_congr_left fun i hi => by rw [h i (List.mem_range.1 hi)]
theorem getD_snoc {α : Type} {xs : List α} {x d : α} {i : Nat} : (xs ++ [x]).getD i d = if i < xs.length then xs.getD i d else if i = xs.length then x else d := by
  rw [List.getD_eq_getElem?_getD, List.getD_eq_getElem?_getD]
  by_cases h : i < xs.length
  · rw [if_pos h, List.getElem?_append_left h]
  · rw [if_neg h, List.getElem?_append_right (by omega)]
    by_cases e : i = xs.length
    · subst e; simp
    · rw [if_neg e, List.getElem?_eq_none (by simp; omega)]; rfl
theorem slsL_snoc {r : Nat → Option Addr} {xss : List (List Int)} {x : List Int} {a : Option Addr} : slsL (upd r xss.length a) (xss ++ [x]) = slsL r xss ++ [.slice a x.length x.length] := by
  unfold slsL
  rw [List.length_append, List.length_singleton]
  rw [slsOf_succ]
  congr 1
  · refine slsOf_congr fun i hi => ?_
    rw [getD_snoc, if_pos hi]
  · rw [getD_snoc, if_neg (by omega), if_pos rfl]
def OwnL (b : Nat) (H : GHeap) (e : TypeId) (r : Nat → Option Addr) (xss : List (List Int)) : Prop := OwnRows b H e r (fun i => xss.getD i []) xss.length
theorem OwnL.nil (b : Nat) (H : GHeap) (e : TypeId) (r : Nat → Option Addr) : OwnL b H e r [] := OwnRows.zero _ _ _ _ _
theorem OwnRows.congr {b : Nat} {H : GHeap} {e : TypeId} {r : Nat → Option Addr} {X Y : Nat → List Int} {k : Nat} (h : OwnRows b H e r X k) (hx : ∀ i, i < k → X i = Y i) : OwnRows b H e r Y k := ⟨fun i hi => by rw [← hx i hi]; exact h.row i hi, h.inj⟩
theorem OwnL.snoc {b g : Nat} {H H' : GHeap} {e : TypeId} {r : Nat → Option Addr} {xss : List (List Int)} {x : List Int} (h : OwnL b H e r xss) (s : Lasts e H H') (hg : H'.get g = some (.row (ints x) e true)) (hn : H.next ≤ g) (hb : b ≤ g) : OwnL b H' e (upd r xss.length (some ⟨g, 0, none⟩)) (xss ++ [x]) := by
  unfold OwnL at h ⊢
  rw [List.length_append, List.length_singleton]
  have h' : OwnRows b H e r (fun i => (xss ++ [x]).getD i []) xss.length := h.congr fun i hi => by rw [getD_snoc, if_pos hi]
  exact h'.succ' s (by rw [getD_snoc, if_neg (by omega), if_pos rfl]; exact hg) hn hb
theorem OwnL.keep {b : Nat} {H H' : GHeap} {e : TypeId} {r : Nat → Option Addr} {xss : List (List Int)} (h : OwnL b H e r xss) (s : Lasts e H H') : OwnL b H' e r xss := OwnRows.keep h s
theorem rowsOf_self (xss : List (List Int)) : rowsOf (fun i => xss.getD i []) xss.length = xss := by
  apply List.ext_getElem (by simp)
  intro i h1 h2
  simp only [rowsOf, List.getElem_map, List.getElem_range, List.getD_eq_getElem?_getD, List.getElem?_eq_getElem h2, Option.getD_some]
theorem OwnL.done {b g : Nat} {H : GHeap} {e e' : TypeId} {r : Nat → Option Addr} {xss : List (List Int)} (h : OwnL b H e r xss) (hg : H.get g = some (.row (slsL r xss) e' true)) (hb : b ≤ g) : IntssR b H (some ⟨g, 0, none⟩) xss r := by
  have := OwnRows.done (X := fun i => xss.getD i []) h hg hb
  rwa [rowsOf_self] at this
theorem OwnL.intss {b g : Nat} {H : GHeap} {e e' : TypeId} {r : Nat → Option Addr} {xss : List (List Int)} (h : OwnL b H e r xss) (hg : H.get g = some (.row (slsL r xss) e' true)) (hb : b ≤ g) : Intss H (some ⟨g, 0, none⟩) xss r := (h.done hg hb).intss
theorem IntsR.of_at {b : Nat} {H : GHeap} {g : Nat} {e : TypeId} {xs : List Int} (h : H.get g = some (.row (Go.GL.ints xs) e true)) (hb : b ≤ g) : IntsR b H (some ⟨g, 0, none⟩) xs := .inr ⟨g, e, rfl, hb, h⟩

def nestL {α : Type} (pr : Nat → Nat → α) (sz : Nat → Nat) (k t : Nat) : List α := (List.range k).flatMap (fun a => (List.range (sz a)).map (pr a)) ++ (List.range t).map (pr k)
theorem nestL_zero {α : Type} (pr : Nat → Nat → α) (sz : Nat → Nat) : nestL pr sz 0 0 = [] := rfl
theorem nestL_snoc {α : Type} {pr : Nat → Nat → α} {sz : Nat → Nat} {k t : Nat} : nestL pr sz k (t + 1) = nestL pr sz k t ++ [pr k t] := by
  unfold nestL
  rw [List.range_succ, List.map_append, ← List.append_assoc]
  rfl
theorem nestL_next {α : Type} {pr : Nat → Nat → α} {sz : Nat → Nat} {k : Nat} : nestL pr sz (k + 1) 0 = nestL pr sz k (sz k) := by
  unfold nestL
  rw [List.range_succ, List.flatMap_append]
  simp
theorem nestL_mem {α : Type} {pr : Nat → Nat → α} {sz : Nat → Nat} {k : Nat} {x : α} (h : x ∈ nestL pr sz k 0) : ∃ a t, a < k ∧ t < sz a ∧ x = pr a t := by
  simp only [nestL, List.range_zero, List.map_nil, List.append_nil, List.mem_flatMap, List.mem_range, List.mem_map] at h
  obtain ⟨a, ha, t, ht, e⟩ := h
  exact ⟨a, t, ha, ht, e.symm⟩
theorem nestL_length {α : Type} {pr : Nat → Nat → α} {sz : Nat → Nat} {c : Nat} : ∀ {k}, (∀ a, a < k → sz a ≤ c) → (nestL pr sz k 0).length ≤ k * c
  | 0, _ => by simp [nestL]
  | k + 1, h => by
    have ih := nestL_length (pr := pr) (sz := sz) (c := c) (k := k) fun a ha => h a (by omega)
    have := h k (by omega)
    rw [nestL_next]
    simp only [nestL, List.length_append, List.length_map, List.length_range, List.range_zero, List.map_nil, List.append_nil] at ih ⊢
    rw [Nat.add_mul]
    omega
theorem nestL_le {α : Type} {pr : Nat → Nat → α} {sz : Nat → Nat} {c k t n : Nat} (h : ∀ a, a < n → sz a ≤ c) (hk : k < n) (ht : t ≤ sz k) : (nestL pr sz k t).length ≤ n * c := by
  have h1 := nestL_length (pr := pr) (sz := sz) (c := c) (k := k) fun a ha => h a (by omega)
  have h2 := h k hk
  have h3 : (k + 1) * c ≤ n * c := Nat.mul_le_mul_right _ hk
  rw [Nat.add_mul] at h3
  simp only [nestL, List.length_append, List.length_map, List.length_range, List.range_zero, List.map_nil, List.append_nil] at h1 ⊢
  omega
def nest3 {α : Type} (pr : Nat → Nat → Nat → α) (s1 : Nat → Nat) (s2 : Nat → Nat → Nat) (k t u : Nat) : List α := (List.range k).flatMap (fun a => nestL (pr a) (s2 a) (s1 a) 0) ++ nestL (pr k) (s2 k) t u
theorem nest3_zero {α : Type} (pr : Nat → Nat → Nat → α) (s1 : Nat → Nat) (s2 : Nat → Nat → Nat) : nest3 pr s1 s2 0 0 0 = [] := rfl
theorem nest3_snoc {α : Type} {pr : Nat → Nat → Nat → α} {s1 : Nat → Nat} {s2 : Nat → Nat → Nat} {k t u : Nat} : nest3 pr s1 s2 k t (u + 1) = nest3 pr s1 s2 k t u ++ [pr k t u] := by
  unfold nest3
  rw [nestL_snoc, List.append_assoc]
theorem nest3_next2 {α : Type} {pr : Nat → Nat → Nat → α} {s1 : Nat → Nat} {s2 : Nat → Nat → Nat} {k t : Nat} : nest3 pr s1 s2 k (t + 1) 0 = nest3 pr s1 s2 k t (s2 k t) := by
  unfold nest3
  rw [nestL_next]
theorem nest3_next1 {α : Type} {pr : Nat → Nat → Nat → α} {s1 : Nat → Nat} {s2 : Nat → Nat → Nat} {k : Nat} : nest3 pr s1 s2 (k + 1) 0 0 = nest3 pr s1 s2 k (s1 k) 0 := by
  unfold nest3
  rw [List.range_succ, List.flatMap_append]
  simp [nestL_zero]
theorem nest3_mem {α : Type} {pr : Nat → Nat → Nat → α} {s1 : Nat → Nat} {s2 : Nat → Nat → Nat} {k : Nat} {x : α} (h : x ∈ nest3 pr s1 s2 k 0 0) : ∃ a b t, a < k ∧ b < s1 a ∧ t < s2 a b ∧ x = pr a b t := by
  unfold nest3 at h
  rw [nestL_zero, List.append_nil, List.mem_flatMap] at h
  obtain ⟨a, ha, hx⟩ := h
  obtain ⟨b, t, hb, ht, e⟩ := nestL_mem hx
  exact ⟨a, b, t, List.mem_range.1 ha, hb, ht, e⟩
theorem flatMap_len {α : Type} {f : Nat → List α} {c : Nat} : ∀ {k}, (∀ a, a < k → (f a).length ≤ c) → ((List.range k).flatMap f).length ≤ k * c
  | 0, _ => by simp
  | k + 1, h => by
    have ih := flatMap_len (f := f) (c := c) (k := k) fun a ha => h a (by omega)
    have := h k (by omega)
    rw [List.range_succ, List.flatMap_append, List.length_append, Nat.add_mul]
    simp only [List.flatMap_cons, List.flatMap_nil, List.append_nil]
    omega
theorem nest3_le {α : Type} {pr : Nat → Nat → Nat → α} {s1 : Nat → Nat} {s2 : Nat → Nat → Nat} {c d k t u n : Nat} (h1 : ∀ a, a < n → s1 a ≤ d) (h2 : ∀ a, a < n → ∀ b, b < s1 a → s2 a b ≤ c) (hk : k < n) (ht : t < s1 k) (hu : u ≤ s2 k t) : (nest3 pr s1 s2 k t u).length ≤ n * (d * c) := by
  unfold nest3
  rw [List.length_append]
  have q1 := flatMap_len (f := fun a => nestL (pr a) (s2 a) (s1 a) 0) (c := d * c) (k := k) fun a ha => by
    have r1 := nestL_length (pr := pr a) (sz := s2 a) (c := c) (k := s1 a) fun b hb => h2 a (by omega) b hb
    exact Nat.le_trans r1 (Nat.mul_le_mul_right _ (h1 a (by omega)))
  have q2 := nestL_le (pr := pr k) (sz := s2 k) (c := c) (k := t) (t := u) (n := s1 k) (fun b hb => h2 k hk b hb) ht hu
  have q3 : s1 k * c ≤ d * c := Nat.mul_le_mul_right _ (h1 k hk)
  have q4 : (k + 1) * (d * c) ≤ n * (d * c) := Nat.mul_le_mul_right _ hk
  rw [Nat.add_mul] at q4
  omega
theorem nest3_all {α : Type} {pr : Nat → Nat → Nat → α} {s1 : Nat → Nat} {s2 : Nat → Nat → Nat} {c d n : Nat} (h1 : ∀ a, a < n → s1 a ≤ d) (h2 : ∀ a, a < n → ∀ b, b < s1 a → s2 a b ≤ c) : (nest3 pr s1 s2 n 0 0).length ≤ n * (d * c) := by
  unfold nest3
  rw [nestL_zero, List.append_nil]
  exact flatMap_len fun a ha => by
    have r1 := nestL_length (pr := pr a) (sz := s2 a) (c := c) (k := s1 a) fun b hb => h2 a ha b hb
    exact Nat.le_trans r1 (Nat.mul_le_mul_right _ (h1 a ha))
theorem getD_mem_list {α : Type} {xs : List α} {d : α} {i : Nat} (h : i < xs.length) : xs.getD i d ∈ xs := by
  rw [List.getD_eq_getElem?_getD, List.getElem?_eq_getElem h]
  exact List.getElem_mem h

def CatR (b : Nat) (H : GHeap) (c : Cat) (p : CatP) : Prop := (IntsR b H p.a1 c.src ∧ IntsR b H p.a2 c.tgt ∧ IntsR b H p.a3 c.idn ∧ IntssR b H p.a4 c.comp p.r) ∧ (lvBlks (c.leaves p)).Nodup
theorem CatR.keep {b b' : Nat} {H H' : GHeap} {c : Cat} {p : CatP} (h : CatR b H c p) (k : Keep b' H H') (hb : b' ≤ b) : CatR b' H' c p := ⟨⟨h.1.1.keep k hb, h.1.2.1.keep k hb, h.1.2.2.1.keep k hb, h.1.2.2.2.keep k hb⟩, h.2⟩
theorem CatR.inn {b : Nat} {H : GHeap} {c : Cat} {p : CatP} (h : CatR b H c p) : c.In H p := ⟨h.1.1.ints, h.1.2.1.ints, h.1.2.2.1.ints, h.1.2.2.2.intss⟩
theorem CatW.of_r {b : Nat} {H0 H : GHeap} {c : Cat} {p : CatP} (h : CatR b H0 c p) (k : Keep b H0 H) : CatW b H0.next H c p := ⟨.of_r h.1.1 k, .of_r h.1.2.1 k, .of_r h.1.2.2.1 k, .of_r h.1.2.2.2 k⟩
def Cat.zero : Cat := ⟨0, [], [], [], []⟩
def CatP.zero : CatP := ⟨none, none, none, none, fun _ => none⟩
theorem CatR.zero (b : Nat) (H : GHeap) : CatR b H .zero .zero := ⟨⟨.inl ⟨rfl, rfl⟩, .inl ⟨rfl, rfl⟩, .inl ⟨rfl, rfl⟩, .nil _ _ _⟩, by simp [Cat.leaves, Cat.zero, CatP.zero, lvBlks, lvBlk, rowsL]⟩
theorem mem_lvBlk1 {a : Option Addr} {n x : Nat} (h : x ∈ lvBlk (a, n)) : ∃ o s, a = some ⟨x, o, s⟩ := by
  unfold lvBlk at h
  split at h
  · rename_i a' m e
    cases e
    rw [List.mem_singleton] at h
    subst h
    exact ⟨_, _, rfl⟩
  · cases h
theorem lvBlk_nodup (l : Leaf) : (lvBlk l).Nodup := by unfold lvBlk; split <;> simp
theorem CatR.mk {b : Nat} {H : GHeap} {c : Cat} {p : CatP} (h1 : IntsR b H p.a1 c.src) (h2 : IntsR b H p.a2 c.tgt) (h3 : IntsR b H p.a3 c.idn) (h4 : IntssR b H p.a4 c.comp p.r) {g1 g2 g3 : Nat} (k1 : p.a1 = none ∨ p.a1 = some ⟨g1, 0, none⟩) (k2 : p.a2 = none ∨ p.a2 = some ⟨g2, 0, none⟩) (k3 : p.a3 = none ∨ p.a3 = some ⟨g3, 0, none⟩)
    (n12 : g1 ≠ g2) (n13 : g1 ≠ g3) (n23 : g2 ≠ g3) (n4 : ∀ i, i < c.comp.length → p.r i ≠ some ⟨g1, 0, none⟩ ∧ p.r i ≠ some ⟨g2, 0, none⟩ ∧ p.r i ≠ some ⟨g3, 0, none⟩) : CatR b H c p := by
  have one : ∀ {a : Option Addr} {g n x : Nat}, (a = none ∨ a = some ⟨g, 0, none⟩) → x ∈ lvBlk (a, n) → x = g := by
    intro a g n x hk hx
    obtain ⟨o, s, e⟩ := mem_lvBlk1 hx
    rcases hk with h | h
    · rw [h] at e; cases e
    · rw [h] at e; cases e; rfl
  have rows : ∀ x ∈ lvBlks (rowsL p.r c.comp c.comp.length), x ≠ g1 ∧ x ≠ g2 ∧ x ≠ g3 := by
    intro x hx
    obtain ⟨l, hl, hxl⟩ := List.mem_flatMap.1 hx
    obtain ⟨i, hi, rfl⟩ := List.mem_map.1 hl
    have hi' := List.mem_range.1 hi
    have hlen : 0 < (c.comp.getD i []).length := by
      unfold lvBlk at hxl
      split at hxl
      · rename_i e; have := congrArg Prod.snd e; simp only at this; omega
      · cases hxl
    obtain ⟨o, s, e⟩ := mem_lvBlk1 hxl
    have hrow : ∃ g, p.r i = some ⟨g, 0, none⟩ := by
      rcases h4.1 with ⟨h, _⟩ | ⟨g, e', cs, _, _, _, _, _, h6⟩
      · rw [h] at hi'; simp at hi'
      · obtain ⟨g', _, hg', _⟩ := h6 i hi'
        exact ⟨g', hg'⟩
    obtain ⟨g, hg⟩ := hrow
    rw [hg] at e
    cases e
    obtain ⟨q1, q2, q3⟩ := n4 i hi'
    rw [hg] at q1 q2 q3
    exact ⟨fun h => q1 (by rw [h]), fun h => q2 (by rw [h]), fun h => q3 (by rw [h])⟩
  refine ⟨⟨h1, h2, h3, h4⟩, ?_⟩
  unfold Cat.leaves
  rw [lvBlks_append, lvBlks_append, lvBlks_append]
  have s1 : lvBlks [(p.a1, c.src.length)] = lvBlk (p.a1, c.src.length) := by simp [lvBlks]
  have s2 : lvBlks [(p.a2, c.tgt.length)] = lvBlk (p.a2, c.tgt.length) := by simp [lvBlks]
  have s3 : lvBlks [(p.a3, c.idn.length)] = lvBlk (p.a3, c.idn.length) := by simp [lvBlks]
  rw [s1, s2, s3]
  refine List.nodup_append.2 ⟨lvBlk_nodup _, List.nodup_append.2 ⟨lvBlk_nodup _, List.nodup_append.2 ⟨lvBlk_nodup _, h4.2, ?_⟩, ?_⟩, ?_⟩
  · intro x hx y hy hxy
    have e1 := one k3 hx
    have e2 := rows y hy
    omega
  · intro x hx y hy hxy
    have e1 := one k2 hx
    rcases List.mem_append.1 hy with hy | hy
    · have e2 := one k3 hy; omega
    · have e2 := rows y hy; omega
  · intro x hx y hy hxy
    have e1 := one k1 hx
    rcases List.mem_append.1 hy with hy | hy
    · have e2 := one k2 hy; omega
    · rcases List.mem_append.1 hy with hy | hy
      · have e2 := one k3 hy; omega
      · have e2 := rows y hy; omega
end Go.GL
namespace Go.GL
section
variable {P : Program} {N : Nat} {ops : Array Oper} {Q : Slots → GHeap → Prop} {L : List (Oper × Nat)} {fr : Slots} {H Hb : GHeap} {o : Oper} {i : Nat} {t : Tree}
end
end Go.GL
namespace Go.GL
theorem allN_succ (n : Nat) (p : Nat → Bool) : allN (n + 1) p = (allN n p && p n) := by simp [allN, List.range_succ, List.all_append]
theorem allN_early {n k : Nat} {p : Nat → Bool} (h : allN k p = false) (hk : k ≤ n) : allN n p = false := by
  rw [← Bool.not_eq_true, allN_iff] at h ⊢
  exact fun hh => h fun i hi => hh i (by omega)
theorem filtTake_T {xs : List Int} {P : Int → Bool} {i : Nat} (hi : i < xs.length) (h : P (xs.getD i 0) = true) : (xs.take (i + 1)).filter P = (xs.take i).filter P ++ [xs.getD i 0] := by
  rw [List.take_add_one, List.getElem?_eq_getElem hi, List.filter_append]
  have e : xs.getD i 0 = xs[i] := by rw [List.getD_eq_getElem?_getD, List.getElem?_eq_getElem hi]; rfl
  rw [e] at h ⊢
  simp [h]
theorem filtTake_F {xs : List Int} {P : Int → Bool} {i : Nat} (hi : i < xs.length) (h : P (xs.getD i 0) = false) : (xs.take (i + 1)).filter P = (xs.take i).filter P := by
  rw [List.take_add_one, List.getElem?_eq_getElem hi, List.filter_append]
  have e : xs.getD i 0 = xs[i] := by rw [List.getD_eq_getElem?_getD, List.getElem?_eq_getElem hi]; rfl
  rw [e] at h
  simp [h]
theorem filtTake_le {xs : List Int} {P : Int → Bool} {i : Nat} : ((xs.take i).filter P).length ≤ xs.length := Nat.le_trans (List.length_filter_le _ _) (by simp; omega)
def Fun.coneFit (d : Fun) (p q : Con) (u : Int) : Bool := allN p.lg.length fun j => d.t.th u (q.lg.getD j 0) == p.lg.getD j 0
def Fun.coneMaps (d : Fun) (p q : Con) : List Int := (d.t.hom p.ap q.ap).filter (d.coneFit p q)
theorem Fun.coneMaps_len (d : Fun) (p q : Con) : (d.coneMaps p q).length ≤ d.t.src.length := Nat.le_trans (List.length_filter_le _ _) (Cat.hom_le _ _ _)
end Go.GL
namespace Go.Proofs.Ytagkeabmdodfiaa
open Go Go.GL Go.RowKit Go.Proofs
theorem sz_98_Cm : (Try.prog.info? 98).map (·.size) = some 2 := by kernel_rfl
theorem fo_98_0_Cm : fieldOff Try.prog 98 0 = some 0 := by kernel_rfl
theorem fo_98_1_Cm : fieldOff Try.prog 98 1 = some 1 := by kernel_rfl
set_option maxHeartbeats 4000000 in
theorem l12Maps_c {d : Fun} {p : FunP} {m m' : Con} {q q' : ConP} {H : GHeap} (hin : d.In H p := by assumption) (hin1 : m.In H q := by assumption) (hin2 : m'.In H q' := by assumption) (hI : d.Is := by assumption) (hc : d.Cone m := by assumption) (hc' : d.Cone m' := by assumption) :
    GCalls Try.prog 53 [.agg (d.cells p).toArray, .agg (m.cells q).toArray, .agg (m'.cells q').toArray] H (NewInts 2 H (d.coneMaps m m')) := by
  have hS := hI.2.1.1
  have b1 := hS.n40
  have b2 := hc.ll
  have b3 := hc'.ll
  have b4 := hI.2.2.ol
  have b5 := hI.1.1.obj
  have hlh := d.t.hom_le m.ap m'.ap
  refine GCalls.body (N := 63) (rs := [.tmp 6]) Try.func53 rfl rfl rfl rfl (fun Qx hret hend => ?_)
  refine .forget (fr' := [(0, some _), (1, some _), (2, some _)]) ⟨rfl, rfl, rfl, trivial⟩ ?_
  have hle := GHeap.Le.refl H
  have base_hin := hin
  have base_hin1 := hin1
  have base_hin2 := hin2
  refine .seq (fun K1 hK1 => .region ?_)
  refine .r rfl rfl rfl (.boxR rfl sz_33_E rfl) ?_
  rintro _ H3 ⟨g3, rfl, le3, ge3, at3⟩
  replace hle := hle.trans le3
  have lt_at3 := GHeap.ltg at3
  replace hin := base_hin.mono hle
  have hb3 : Fun.At _ g3 0 d p := ⟨Mem.of_get at3, hin⟩
  refine .r rfl rfl rfl (.boxR rfl sz_98_Cm rfl) ?_
  rintro _ H4 ⟨g4, rfl, le4, ge4, at4⟩
  replace hle := hle.trans le4
  replace at3 := le4.2 _ _ at3
  have lt_at4 := GHeap.ltg at4
  replace hin := base_hin.mono hle
  replace hin1 := base_hin1.mono hle
  clear hb3
  have hb3 : Fun.At _ g3 0 d p := ⟨Mem.of_get at3, hin⟩
  have hb4 : Con.At _ g4 0 m q := ⟨Mem.of_get at4, hin1⟩
  refine .r rfl rfl rfl (.boxR rfl sz_98_Cm rfl) ?_
  rintro _ H5 ⟨g5, rfl, le5, ge5, at5⟩
  replace hle := hle.trans le5
  replace at3 := le5.2 _ _ at3
  replace at4 := le5.2 _ _ at4
  have lt_at5 := GHeap.ltg at5
  replace hin := base_hin.mono hle
  replace hin1 := base_hin1.mono hle
  replace hin2 := base_hin2.mono hle
  clear hb3
  have hb3 : Fun.At _ g3 0 d p := ⟨Mem.of_get at3, hin⟩
  obtain ⟨-, ft3, -, -, -, -⟩ := hb3.get
  have hmt3 : MemN _ _ _ _ _ := ⟨rfl, ft3.1⟩
  have hit3 := ft3.2
  clear hb4
  have hb4 : Con.At _ g4 0 m q := ⟨Mem.of_get at4, hin1⟩
  obtain ⟨c04, -, -⟩ := hb4.get
  have hb5 : Con.At _ g5 0 m' q' := ⟨Mem.of_get at5, hin2⟩
  obtain ⟨c05, -, -⟩ := hb5.get
  refine .mv rfl (.nil (hK1 _ _ (.seq (fun K2 hK2 => .region (.m rfl rfl rfl (.fieldAddr fo_33_1_E rfl) ?_)))))
  refine .m rfl rfl rfl (.loadM ag_31_D rfl (by assumption)) ?_
  refine .m rfl rfl rfl (.fieldAddr fo_98_0_Cm rfl) ?_
  refine .m rfl rfl rfl (.load on_2_A rfl (by first | assumption | exact Mem.of_get at4 0 _ rfl)) ?_
  refine .m rfl rfl rfl (.fieldAddr fo_98_0_Cm rfl) ?_
  refine .m rfl rfl rfl (.load on_2_A rfl (by first | assumption | exact Mem.of_get at5 0 _ rfl)) ?_
  refine .call rfl rfl rfl rfl @Try.call85 rfl (l02Hom_c) ?_
  rintro _ H18 ⟨le18, g18, rfl, at18, ge18⟩
  replace hle := hle.trans le18
  replace at3 := le18.2 _ _ at3
  replace at4 := le18.2 _ _ at4
  replace at5 := le18.2 _ _ at5
  have lt_at18 := GHeap.ltg at18
  replace hin := base_hin.mono hle
  replace hin1 := base_hin1.mono hle
  replace hin2 := base_hin2.mono hle
  clear hb3 ft3 hmt3 hit3
  have hb3 : Fun.At _ g3 0 d p := ⟨Mem.of_get at3, hin⟩
  clear hb4 c04
  have hb4 : Con.At _ g4 0 m q := ⟨Mem.of_get at4, hin1⟩
  clear hb5 c05
  have hb5 : Con.At _ g5 0 m' q' := ⟨Mem.of_get at5, hin2⟩
  refine .mv rfl (.nil (hK2 _ _ (.seq (fun K3 hK3 => .region ?_))))
  refine .r rfl rfl rfl (.litR rfl sl_22_A ze_2_E rfl rfl (by omega) (by omega) rfl rfl) ?_
  rintro _ H19 ⟨g19, rfl, le19, ge19, at19⟩
  replace hle := hle.trans le19
  replace at3 := le19.2 _ _ at3
  replace at4 := le19.2 _ _ at4
  replace at5 := le19.2 _ _ at5
  replace at18 := le19.2 _ _ at18
  have lt_at19 := GHeap.ltg at19
  replace hin := base_hin.mono hle
  replace hin1 := base_hin1.mono hle
  replace hin2 := base_hin2.mono hle
  clear hb3
  have hb3 : Fun.At _ g3 0 d p := ⟨Mem.of_get at3, hin⟩
  clear hb4
  have hb4 : Con.At _ g4 0 m q := ⟨Mem.of_get at4, hin1⟩
  clear hb5
  have hb5 : Con.At _ g5 0 m' q' := ⟨Mem.of_get at5, hin2⟩
  replace at19 : GHeap.get H19 g19 = some (.row (ints []) 2 true) := at19
  refine .mv rfl (.nil (hK3 _ _ (.seq (fun K4 hK4 => .seq (fun K5 hK5 => .region (.mv rfl (.nil (hK5 _ _ ?_))))))))
  refine .block ?_
  refine .loopR (σ := Nat × Nat × Nat) [(3, some _), (4, some _), (5, some _), (7, some _)] (fun (i, gL8, nL8) => [(9, some (.int .i64 (i : Int))), (8, some (.slice (some ⟨gL8, 0, none⟩) nL8 nL8))]) (fun (i, gL8, nL8) H' => St [g19] H19 H' ∧ H'.get gL8 = some (.row (ints (((d.t.hom m.ap m'.ap).take i).filter (d.coneFit m m'))) 2 true) ∧ (gL8 = g19 ∨ H19.next ≤ gL8) ∧ nL8 = (((d.t.hom m.ap m'.ap).take i).filter (d.coneFit m m')).length ∧ i ≤ (d.t.hom m.ap m'.ap).length) (fun (i, gL8, nL8) => (d.t.hom m.ap m'.ap).length - i) ((0, _, _)) ⟨rfl, rfl, rfl, rfl, trivial⟩ ⟨rfl, rfl, trivial⟩ ?_ ?_
  ·
   refine ⟨.refl _ _, by assumption, .inl rfl, by rfl, ?_⟩
   omega
  rintro ⟨i, gL8, nL8⟩ HL1 ⟨lst1, at_L8, pl_L8, ln_L8, hI⟩ KL1 hKL1
  refine .forget (fr' := [(9, some (.int .i64 (i : Int))), (8, some (.slice (some ⟨gL8, 0, none⟩) nL8 nL8)), (3, some _), (4, some _), (5, some _), (7, some _)]) ⟨rfl, rfl, rfl, rfl, rfl, rfl, trivial⟩ ?_
  have ge_L8 : H.next ≤ gL8 := by omega
  have nx_HL1 := lst1.nx
  replace hle := hle.st lst1 (fun k hk => ⟨by omega, trivial⟩)
  replace at3 := lst1.same _ _ ⟨(by first | assumption | omega), trivial⟩ at3
  replace at4 := lst1.same _ _ ⟨(by first | assumption | omega), trivial⟩ at4
  replace at5 := lst1.same _ _ ⟨(by first | assumption | omega), trivial⟩ at5
  replace at18 := lst1.same _ _ ⟨(by first | assumption | omega), trivial⟩ at18
  replace hin := base_hin.mono hle
  replace hin1 := base_hin1.mono hle
  replace hin2 := base_hin2.mono hle
  clear hb3
  have hb3 : Fun.At _ g3 0 d p := ⟨Mem.of_get at3, hin⟩
  obtain ⟨-, ft3, -, -, -, -⟩ := hb3.get
  have hmt3 : MemN _ _ _ _ _ := ⟨rfl, ft3.1⟩
  have hit3 := ft3.2
  clear hb4
  have hb4 : Con.At _ g4 0 m q := ⟨Mem.of_get at4, hin1⟩
  obtain ⟨-, c14, -⟩ := hb4.get
  have hi4 := hb4.2
  clear hb5
  have hb5 : Con.At _ g5 0 m' q' := ⟨Mem.of_get at5, hin2⟩
  obtain ⟨-, c15, -⟩ := hb5.get
  have hi5 := hb5.2
  have i18 := Ints.of_get at18
  have hfl := filtTake_le (xs := d.t.hom m.ap m'.ap) (P := d.coneFit m m') (i := i)
  refine .seq (fun K6 hK6 => .seq (fun K7 hK7 => .region (.mv rfl (.mv rfl (.m rfl rfl rfl (.len sl_22_A rfl) (.m rfl rfl rfl (.cmp rfl rfl rfl) (.nil (hK7 _ _ ?_))))))))
  refine .cond rfl (fun h23 => ?_) (fun h23 => ?_)
  ·
   simp only [sps] at h23
   obtain ⟨f, hf1, -, -, hf4⟩ := Cat.hom_get (c := d.t) (x := m.ap) (y := m'.ap) (i := i) (by omega)
   refine .skip ?_
   refine hK6 _ _ (.seq (fun K8 hK8 => ?_))
   refine .block ?_
   refine .seq (fun K9 hK9 => .region (.mv rfl (.nil (hK9 _ _ (.seq (fun K10 hK10 => .seq (fun K11 hK11 => .region (.mv rfl (.nil (hK11 _ _ ?_))))))))))
   refine .block ?_
   refine .loopR (σ := Nat × Bool) [(3, some _), (4, some _), (5, some _), (7, some _), (8, some _), (9, some _)] (fun (j, b) => [(11, some (.int .i64 (j : Int))), (10, some (.bool b))]) (fun (j, b) H' => HL1 = H' ∧ j ≤ m.lg.length ∧ b = allN j fun j => d.t.th ((d.t.hom m.ap m'.ap).getD i 0) (m'.lg.getD j 0) == m.lg.getD j 0) (fun (j, b) => m.lg.length - j) ((0, true)) ⟨rfl, rfl, rfl, rfl, rfl, rfl, trivial⟩ ⟨rfl, rfl, trivial⟩ ?_ ?_
   ·
    refine ⟨rfl, ?_⟩
    exact ⟨by omega, rfl⟩
   rintro ⟨j, b⟩ _ ⟨rfl, hI⟩ KL2 hKL2
   refine .forget (fr' := [(11, some (.int .i64 (j : Int))), (10, some (.bool b)), (3, some _), (4, some _), (5, some _), (7, some _), (8, some _), (9, some _)]) ⟨rfl, rfl, rfl, rfl, rfl, rfl, rfl, rfl, trivial⟩ ?_
   obtain ⟨hj, hb⟩ := hI
   refine .seq (fun K12 hK12 => .seq (fun K13 hK13 => .region (.mv rfl (.m rfl rfl rfl (.fieldAddr fo_98_1_Cm rfl) ?_))))
   refine .m rfl rfl rfl (.load on_22_B rfl (by first | assumption | exact Mem.of_get at4 1 _ rfl)) ?_
   refine .m rfl rfl rfl (.len sl_22_A rfl) (.m rfl rfl rfl (.cmp rfl rfl rfl) (.mv rfl ?_))
   refine .split (fun h31 => ?_) (fun h31 => ?_)
   ·
    simp only [sps] at h31
    have w1 := hc'.lg j (by omega)
    refine .mg rfl rfl rfl rfl rfl (.move rfl) (.m rfl rfl rfl (.pickT rfl rfl) (.nil (hK13 _ _ ?_)))
    refine .cond rfl (fun h33 => ?_) (fun h33 => ?_)
    ·
     try simp only [sps] at h33
     refine .skip ?_
     refine hK12 _ _ (.seq (fun K14 hK14 => ?_))
     refine .block ?_
     refine .regionD mo_B (.q 0 (.q 1 (.q 2 (.q 3 (.q 4 (.q 5 (.q 6 (.q 7 (.q 8 (.q 9 (.q 10 (.q 12 (.q 13 (.q 14 (.q 15 (.q 16 (.c 11 1 (.q 17 (.q 18 (.done)))))))))))))))))))) (by kernel_rfl) ?_
     refine .m rfl rfl rfl rfl (.refl _) (.fieldAddr fo_33_1_E rfl) ?_
     refine .m rfl rfl rfl rfl (.refl _) (.loadM ag_31_D rfl (by assumption)) ?_
     refine .mv rfl rfl (.mv rfl rfl ?_)
     refine .m rfl rfl rfl rfl (.refl _) (.idxN sl_22_A (by first | assumption | exact SlA.of_row at18 (by first | rfl | (simp; done) | (simp <;> omega))) rfl rfl (by omega)) ?_
     refine .m rfl rfl rfl rfl (.refl _) (.loadI on_2_A (by first | assumption | exact Ints.of_get at18) rfl (by omega)) ?_
     refine .m rfl rfl rfl rfl (.refl _) (.fieldAddr fo_98_1_Cm rfl) ?_
     refine .m rfl rfl rfl rfl (.refl _) (.load on_22_B rfl (by first | assumption | exact Mem.of_get at5 1 _ rfl)) ?_
     refine .mv rfl rfl ?_
     refine .m rfl rfl rfl rfl (.refl _) (.idxN sl_22_A (by assumption) rfl rfl (by omega)) ?_
     refine .m rfl rfl rfl rfl (.refl _) (.loadI on_2_A (by assumption) rfl (by omega)) ?_
     refine .m rfl rfl rfl rfl (.refl _) (.fieldAddr fo_98_1_Cm rfl) ?_
     refine .m rfl rfl rfl rfl (.refl _) (.load on_22_B rfl (by first | assumption | exact Mem.of_get at4 1 _ rfl)) ?_
     refine .mv rfl rfl ?_
     refine .m rfl rfl rfl rfl (.refl _) (.idxN sl_22_A (by assumption) rfl rfl (by omega)) ?_
     refine .m rfl rfl rfl rfl (.refl _) (.loadI on_2_A (by assumption) rfl (by omega)) ?_
     refine .callQ1 rfl rfl rfl rfl rfl @Try.call57 rfl (l02Then_c) (.refl _) ?_
     refine .m rfl rfl rfl rfl (.refl _) (.cmp rfl rfl rfl) (.mv rfl rfl ?_)
     refine .done ?_
     refine hK14 _ _ (.region (.mv rfl ?_))
     refine .m rfl rfl rfl (.add rfl rfl rfl (by omega) (by omega)) ?_
     refine .mv rfl (.nil ?_)
     refine hKL2 ((j + 1, d.t.th ((d.t.hom m.ap m'.ap).getD i 0) (m'.lg.getD j 0) == m.lg.getD j 0)) _ _ ?_ ?_ ⟨rfl, rfl, rfl, rfl, rfl, rfl, rfl, rfl, trivial⟩
     ·
      refine ⟨rfl, ?_⟩
      exact ⟨by omega, by rw [allN_succ, ← hb, h33]; rfl⟩
     (dsimp only; omega)
    try simp only [sps] at h33
    refine .exit ?_
    refine hK10 _ _ (.seq (fun K15 hK15 => .region ?_))
    have hfit0 : b = d.coneFit m m' ((d.t.hom m.ap m'.ap).getD i 0) := by
      first
      | (have h33' : b = false := h33
         subst h33'
         unfold Fun.coneFit
         exact (allN_early (n := m.lg.length) hb.symm (by omega)).symm)
      | (obtain rfl : j = m.lg.length := by omega
         exact hb)
    refine .mv rfl (.nil (hK15 _ _ ?_))
    refine .cond rfl (fun h54 => ?_) (fun h54 => ?_)
    ·
     have hfit : d.coneFit m m' ((d.t.hom m.ap m'.ap).getD i 0) = true := by rw [← hfit0]; exact h54
     refine .region (.mv rfl (.mv rfl (.mv rfl ?_)))
     refine .m rfl rfl rfl (.idxN sl_22_A (by first | assumption | exact SlA.of_row at18 (by first | rfl | (simp; done) | (simp <;> omega))) rfl rfl (by omega)) ?_
     refine .m rfl rfl rfl (.loadI on_2_A (by first | assumption | exact Ints.of_get at18) rfl (by omega)) ?_
     refine .r rfl rfl rfl (.litR rfl sl_22_A ze_2_E rfl rfl (by omega) (by omega) rfl rfl) ?_
     rintro _ H60 ⟨g60, rfl, le60, ge60, at60⟩
     replace hle := hle.trans le60
     replace lst1 := lst1.le le60
     replace at3 := le60.2 _ _ at3
     replace at4 := le60.2 _ _ at4
     replace at5 := le60.2 _ _ at5
     replace at_L8 := le60.2 _ _ at_L8
     have lt_at60 := GHeap.ltg at60
     replace hin := base_hin.mono hle
     replace hin1 := base_hin1.mono hle
     replace hin2 := base_hin2.mono hle
     clear hb3 ft3 hmt3 hit3
     have hb3 : Fun.At _ g3 0 d p := ⟨Mem.of_get at3, hin⟩
     clear hb4 c14 hi4
     have hb4 : Con.At _ g4 0 m q := ⟨Mem.of_get at4, hin1⟩
     clear hb5 c15 hi5
     have hb5 : Con.At _ g5 0 m' q' := ⟨Mem.of_get at5, hin2⟩
     clear i18
     refine .r rfl rfl rfl (.appendI rfl sl_22_A ze_2_E rfl by_2_E sl_22_A rfl rfl (by assumption) (by assumption) (by first | omega | (simp <;> omega)) (by omega) (by omega)) ?_
     rintro _ H61 ⟨g61, rfl, st61, ge61, at61⟩
     replace hle := hle.st st61 (fun k hk => ⟨by omega, trivial⟩)
     replace lst1 := lst1.st st61 (fun k hk ho => by simp only [out, and_true] at ho ⊢ <;> first | exact ho | exact ho.1 | exact ho.2 | exact ho.2.1 | exact ho.2.2 | exact ho.2.2.1 | exact ho.2.2.2 | omega)
     have ne_g3_gL8 : NE g3 gL8 := ⟨by first | assumption | omega⟩
     replace at3 := st61.same _ _ ⟨ne_g3_gL8.ne, trivial⟩ at3
     have ne_g4_gL8 : NE g4 gL8 := ⟨by first | assumption | omega⟩
     replace at4 := st61.same _ _ ⟨ne_g4_gL8.ne, trivial⟩ at4
     have ne_g5_gL8 : NE g5 gL8 := ⟨by first | assumption | omega⟩
     replace at5 := st61.same _ _ ⟨ne_g5_gL8.ne, trivial⟩ at5
     replace hin := base_hin.mono hle
     replace hin1 := base_hin1.mono hle
     replace hin2 := base_hin2.mono hle
     clear hb3
     have hb3 : Fun.At _ g3 0 d p := ⟨Mem.of_get at3, hin⟩
     clear hb4
     have hb4 : Con.At _ g4 0 m q := ⟨Mem.of_get at4, hin1⟩
     clear hb5
     have hb5 : Con.At _ g5 0 m' q' := ⟨Mem.of_get at5, hin2⟩
     refine .mv rfl (.nil (hK8 _ _ (.region (.mv rfl ?_))))
     refine .m rfl rfl rfl (.add rfl rfl rfl (by omega) (by omega)) ?_
     refine .mv rfl (.nil ?_)
     refine hKL1 ((i + 1, _, _)) _ _ ?_ ?_ ⟨rfl, rfl, rfl, rfl, rfl, rfl, trivial⟩
     ·
      refine ⟨lst1, by (rw [filtTake_T (by omega) hfit]; assumption), by omega, by (rw [filtTake_T (by omega) hfit] <;> (first | omega | (simp only [List.length_append, List.length_cons, List.length_nil] <;> omega))), ?_⟩
      omega
     (dsimp only; omega)
    have hfit : d.coneFit m m' ((d.t.hom m.ap m'.ap).getD i 0) = false := by rw [← hfit0]; exact h54
    refine .skip ?_
    refine hK8 _ _ (.region (.mv rfl ?_))
    refine .m rfl rfl rfl (.add rfl rfl rfl (by omega) (by omega)) ?_
    refine .mv rfl (.nil ?_)
    refine hKL1 ((i + 1, _, _)) _ _ ?_ ?_ ⟨rfl, rfl, rfl, rfl, rfl, rfl, trivial⟩
    ·
     refine ⟨lst1, by (rw [filtTake_F (by omega) hfit]; assumption), by omega, by (rw [filtTake_F (by omega) hfit] <;> (first | omega | (simp only [List.length_append, List.length_cons, List.length_nil] <;> omega))), ?_⟩
     omega
    (dsimp only; omega)
   simp only [sps] at h31
   refine .sg rfl rfl rfl rfl rfl (.m rfl rfl rfl (.pickF rfl rfl) (.nil (hK13 _ _ ?_)))
   refine .condF rfl ?_
   refine .exit ?_
   refine hK10 _ _ (.seq (fun K16 hK16 => .region ?_))
   have hfit0 : b = d.coneFit m m' ((d.t.hom m.ap m'.ap).getD i 0) := by
     first
     | (have h33' : b = false := h33
        subst h33'
        unfold Fun.coneFit
        exact (allN_early (n := m.lg.length) hb.symm (by omega)).symm)
     | (obtain rfl : j = m.lg.length := by omega
        exact hb)
   refine .mv rfl (.nil (hK16 _ _ ?_))
   refine .cond rfl (fun h54 => ?_) (fun h54 => ?_)
   ·
    have hfit : d.coneFit m m' ((d.t.hom m.ap m'.ap).getD i 0) = true := by rw [← hfit0]; exact h54
    refine .region (.mv rfl (.mv rfl (.mv rfl ?_)))
    refine .m rfl rfl rfl (.idxN sl_22_A (by first | assumption | exact SlA.of_row at18 (by first | rfl | (simp; done) | (simp <;> omega))) rfl rfl (by omega)) ?_
    refine .m rfl rfl rfl (.loadI on_2_A (by first | assumption | exact Ints.of_get at18) rfl (by omega)) ?_
    refine .r rfl rfl rfl (.litR rfl sl_22_A ze_2_E rfl rfl (by omega) (by omega) rfl rfl) ?_
    rintro _ H60x2 ⟨g60x2, rfl, le60x2, ge60x2, at60x2⟩
    replace hle := hle.trans le60x2
    replace lst1 := lst1.le le60x2
    replace at3 := le60x2.2 _ _ at3
    replace at4 := le60x2.2 _ _ at4
    replace at5 := le60x2.2 _ _ at5
    replace at_L8 := le60x2.2 _ _ at_L8
    have lt_at60x2 := GHeap.ltg at60x2
    replace hin := base_hin.mono hle
    replace hin1 := base_hin1.mono hle
    replace hin2 := base_hin2.mono hle
    have hb3 : Fun.At _ g3 0 d p := ⟨Mem.of_get at3, hin⟩
    have hb4 : Con.At _ g4 0 m q := ⟨Mem.of_get at4, hin1⟩
    have hb5 : Con.At _ g5 0 m' q' := ⟨Mem.of_get at5, hin2⟩
    refine .r rfl rfl rfl (.appendI rfl sl_22_A ze_2_E rfl by_2_E sl_22_A rfl rfl (by assumption) (by assumption) (by first | omega | (simp <;> omega)) (by omega) (by omega)) ?_
    rintro _ H61x2 ⟨g61x2, rfl, st61x2, ge61x2, at61x2⟩
    replace hle := hle.st st61x2 (fun k hk => ⟨by omega, trivial⟩)
    replace lst1 := lst1.st st61x2 (fun k hk ho => by simp only [out, and_true] at ho ⊢ <;> first | exact ho | exact ho.1 | exact ho.2 | exact ho.2.1 | exact ho.2.2 | exact ho.2.2.1 | exact ho.2.2.2 | omega)
    have ne_g3_gL8 : NE g3 gL8 := ⟨by first | assumption | omega⟩
    replace at3 := st61x2.same _ _ ⟨ne_g3_gL8.ne, trivial⟩ at3
    have ne_g4_gL8 : NE g4 gL8 := ⟨by first | assumption | omega⟩
    replace at4 := st61x2.same _ _ ⟨ne_g4_gL8.ne, trivial⟩ at4
    have ne_g5_gL8 : NE g5 gL8 := ⟨by first | assumption | omega⟩
    replace at5 := st61x2.same _ _ ⟨ne_g5_gL8.ne, trivial⟩ at5
    replace hin := base_hin.mono hle
    replace hin1 := base_hin1.mono hle
    replace hin2 := base_hin2.mono hle
    clear hb3
    have hb3 : Fun.At _ g3 0 d p := ⟨Mem.of_get at3, hin⟩
    clear hb4
    have hb4 : Con.At _ g4 0 m q := ⟨Mem.of_get at4, hin1⟩
    clear hb5
    have hb5 : Con.At _ g5 0 m' q' := ⟨Mem.of_get at5, hin2⟩
    refine .mv rfl (.nil (hK8 _ _ (.region (.mv rfl ?_))))
    refine .m rfl rfl rfl (.add rfl rfl rfl (by omega) (by omega)) ?_
    refine .mv rfl (.nil ?_)
    refine hKL1 ((i + 1, _, _)) _ _ ?_ ?_ ⟨rfl, rfl, rfl, rfl, rfl, rfl, trivial⟩
    ·
     refine ⟨lst1, by (rw [filtTake_T (by omega) hfit]; assumption), by omega, by (rw [filtTake_T (by omega) hfit] <;> (first | omega | (simp only [List.length_append, List.length_cons, List.length_nil] <;> omega))), ?_⟩
     omega
    (dsimp only; omega)
   have hfit : d.coneFit m m' ((d.t.hom m.ap m'.ap).getD i 0) = false := by rw [← hfit0]; exact h54
   refine .skip ?_
   refine hK8 _ _ (.region (.mv rfl ?_))
   refine .m rfl rfl rfl (.add rfl rfl rfl (by omega) (by omega)) ?_
   refine .mv rfl (.nil ?_)
   refine hKL1 ((i + 1, _, _)) _ _ ?_ ?_ ⟨rfl, rfl, rfl, rfl, rfl, rfl, trivial⟩
   ·
    refine ⟨lst1, by (rw [filtTake_F (by omega) hfit]; assumption), by omega, by (rw [filtTake_F (by omega) hfit] <;> (first | omega | (simp only [List.length_append, List.length_cons, List.length_nil] <;> omega))), ?_⟩
    omega
   (dsimp only; omega)
  try simp only [sps] at h23
  refine .exit ?_
  refine hK4 _ _ (.seq (fun K17 hK17 => .region (.mv rfl (.mv rfl (.nil (hK17 _ _ ?_))))))
  refine .ret ?_
  refine hret _ _ ?_
  refine ⟨_, rfl, ?_⟩
  obtain rfl : i = (d.t.hom m.ap m'.ap).length := by omega
  rw [List.take_length] at at_L8 ln_L8
  exact ⟨hle, _, by rw [ln_L8]; rfl, at_L8, by omega⟩
set_option maxHeartbeats 4000000 in
theorem coneMaps_c {g o : Nat} {d : Fun} {p : FunP} {m m' : Con} {q q' : ConP} {H : GHeap} (h : Fun.At H g o d p := by assumption) (hin1 : m.In H q := by assumption) (hin2 : m'.In H q' := by assumption) (hI : d.Is := by assumption) (hc : d.Cone m := by assumption) (hc' : d.Cone m' := by assumption) :
    GCalls Try.prog 60 [.pointer (some ⟨g, o, none⟩), .agg (m.cells q).toArray, .agg (m'.cells q').toArray] H (NewInts 2 H (d.coneMaps m m')) := by
  have hS := hI.2.1.1
  have b1 := hS.n40
  have b2 := hc.ll
  have b3 := hc'.ll
  have b4 := hI.2.2.ol
  have b5 := hI.1.1.obj
  have hlh := d.t.hom_le m.ap m'.ap
  refine GCalls.body (N := 53) (rs := [.tmp 6]) Try.func60 rfl rfl rfl rfl (fun Qx hret hend => ?_)
  refine .forget (fr' := [(0, some _), (1, some _), (2, some _)]) ⟨rfl, rfl, rfl, trivial⟩ ?_
  have hle := GHeap.Le.refl H
  have base_h := h
  have base_hin1 := hin1
  have base_hin2 := hin2
  refine .seq (fun K1 hK1 => .region ?_)
  refine .r rfl rfl rfl (.boxR rfl sz_98_Cm rfl) ?_
  rintro _ H4 ⟨g4, rfl, le4, ge4, at4⟩
  replace hle := hle.trans le4
  have lt_at4 := GHeap.ltg at4
  replace h := base_h.mono hle
  replace hin1 := base_hin1.mono hle
  have hb4 : Con.At _ g4 0 m q := ⟨Mem.of_get at4, hin1⟩
  refine .r rfl rfl rfl (.boxR rfl sz_98_Cm rfl) ?_
  rintro _ H5 ⟨g5, rfl, le5, ge5, at5⟩
  replace hle := hle.trans le5
  replace at4 := le5.2 _ _ at4
  have lt_at5 := GHeap.ltg at5
  replace h := base_h.mono hle
  replace hin1 := base_hin1.mono hle
  replace hin2 := base_hin2.mono hle
  clear hb4
  have hb4 : Con.At _ g4 0 m q := ⟨Mem.of_get at4, hin1⟩
  have hb5 : Con.At _ g5 0 m' q' := ⟨Mem.of_get at5, hin2⟩
  refine .mv rfl (.nil (hK1 _ _ ?_))
  refine .scope ?_
  refine .seq (fun K2 hK2 => .region (.mv rfl (.m rfl rfl rfl (.nilCheck rfl) (.m rfl rfl rfl (.fieldAddr fo_33_1_E rfl) (.mv rfl (.nil (hK2 _ _ (.seq (fun K3 hK3 => .region ?_)))))))))
  refine .r rfl rfl rfl (.litR rfl sl_22_A ze_2_E rfl rfl (by omega) (by omega) rfl rfl) ?_
  rintro _ H16 ⟨g16, rfl, le16, ge16, at16⟩
  replace hle := hle.trans le16
  replace at4 := le16.2 _ _ at4
  replace at5 := le16.2 _ _ at5
  have lt_at16 := GHeap.ltg at16
  replace h := base_h.mono hle
  replace hin1 := base_hin1.mono hle
  replace hin2 := base_hin2.mono hle
  obtain ⟨-, ft, -, -, -, -⟩ := h.get
  clear hb4
  have hb4 : Con.At _ g4 0 m q := ⟨Mem.of_get at4, hin1⟩
  obtain ⟨c04, -, -⟩ := hb4.get
  clear hb5
  have hb5 : Con.At _ g5 0 m' q' := ⟨Mem.of_get at5, hin2⟩
  obtain ⟨c05, -, -⟩ := hb5.get
  replace at16 : GHeap.get H16 g16 = some (.row (ints []) 2 true) := at16
  refine .mv rfl (.nil (hK3 _ _ (.seq (fun K4 hK4 => ?_))))
  refine .label ?_
  refine hK4 _ _ (.seq (fun K5 hK5 => .seq (fun K6 hK6 => .region (.mv rfl (.m rfl rfl rfl (.fieldAddr fo_98_0_Cm rfl) ?_)))))
  refine .m rfl rfl rfl (.load on_2_A rfl (by first | assumption | exact Mem.of_get at4 0 _ rfl)) ?_
  refine .m rfl rfl rfl (.fieldAddr fo_98_0_Cm rfl) ?_
  refine .m rfl rfl rfl (.load on_2_A rfl (by first | assumption | exact Mem.of_get at5 0 _ rfl)) ?_
  refine .call rfl rfl rfl rfl @Try.call91 rfl (hom_c) ?_
  rintro _ H22 ⟨le22, g22, rfl, at22, ge22⟩
  replace hle := hle.trans le22
  replace at4 := le22.2 _ _ at4
  replace at5 := le22.2 _ _ at5
  replace at16 := le22.2 _ _ at16
  have lt_at22 := GHeap.ltg at22
  replace h := base_h.mono hle
  replace hin1 := base_hin1.mono hle
  replace hin2 := base_hin2.mono hle
  clear ft
  clear hb4 c04
  have hb4 : Con.At _ g4 0 m q := ⟨Mem.of_get at4, hin1⟩
  clear hb5 c05
  have hb5 : Con.At _ g5 0 m' q' := ⟨Mem.of_get at5, hin2⟩
  refine .m rfl rfl rfl (.len sl_22_A rfl) (.mv rfl (.nil (hK6 _ _ ?_)))
  refine .block ?_
  refine .loopR (σ := Nat × Nat × Nat) [(4, some _), (5, some _), (7, some _), (22, some _), (23, some _)] (fun (i, gL8, nL8) => [(24, some (.int .i64 (i : Int))), (8, some (.slice (some ⟨gL8, 0, none⟩) nL8 nL8))]) (fun (i, gL8, nL8) H' => St [g16] H22 H' ∧ H'.get gL8 = some (.row (ints (((d.t.hom m.ap m'.ap).take i).filter (d.coneFit m m'))) 2 true) ∧ (gL8 = g16 ∨ H22.next ≤ gL8) ∧ nL8 = (((d.t.hom m.ap m'.ap).take i).filter (d.coneFit m m')).length ∧ i ≤ (d.t.hom m.ap m'.ap).length) (fun (i, gL8, nL8) => (d.t.hom m.ap m'.ap).length - i) ((0, _, _)) ⟨rfl, rfl, rfl, rfl, rfl, trivial⟩ ⟨rfl, rfl, trivial⟩ ?_ ?_
  ·
   refine ⟨.refl _ _, by assumption, .inl rfl, by rfl, ?_⟩
   omega
  rintro ⟨i, gL8, nL8⟩ HL1 ⟨lst1, at_L8, pl_L8, ln_L8, hI⟩ KL1 hKL1
  refine .forget (fr' := [(24, some (.int .i64 (i : Int))), (8, some (.slice (some ⟨gL8, 0, none⟩) nL8 nL8)), (4, some _), (5, some _), (7, some _), (22, some _), (23, some _)]) ⟨rfl, rfl, rfl, rfl, rfl, rfl, rfl, trivial⟩ ?_
  have ge_L8 : H.next ≤ gL8 := by omega
  have nx_HL1 := lst1.nx
  replace hle := hle.st lst1 (fun k hk => ⟨by omega, trivial⟩)
  replace at4 := lst1.same _ _ ⟨(by first | assumption | omega), trivial⟩ at4
  replace at5 := lst1.same _ _ ⟨(by first | assumption | omega), trivial⟩ at5
  replace at22 := lst1.same _ _ ⟨(by first | assumption | omega), trivial⟩ at22
  replace h := base_h.mono hle
  replace hin1 := base_hin1.mono hle
  replace hin2 := base_hin2.mono hle
  obtain ⟨-, ft, -, -, -, -⟩ := h.get
  clear hb4
  have hb4 : Con.At _ g4 0 m q := ⟨Mem.of_get at4, hin1⟩
  obtain ⟨-, c14, -⟩ := hb4.get
  have hi4 := hb4.2
  clear hb5
  have hb5 : Con.At _ g5 0 m' q' := ⟨Mem.of_get at5, hin2⟩
  obtain ⟨-, c15, -⟩ := hb5.get
  have hi5 := hb5.2
  have i22 := Ints.of_get at22
  have hfl := filtTake_le (xs := d.t.hom m.ap m'.ap) (P := d.coneFit m m') (i := i)
  refine .seq (fun K7 hK7 => .region (.m rfl rfl rfl (.cmp rfl rfl rfl) (.nil (hK7 _ _ (.seq (fun K8 hK8 => ?_))))))
  refine .cond rfl (fun h25 => ?_) (fun h25 => ?_)
  ·
   simp only [sps] at h25
   obtain ⟨f, hf1, -, -, hf4⟩ := Cat.hom_get (c := d.t) (x := m.ap) (y := m'.ap) (i := i) (by omega)
   refine .skip ?_
   refine hK8 _ _ (.seq (fun K9 hK9 => ?_))
   refine .block ?_
   refine .seq (fun K10 hK10 => .region ?_)
   refine .m rfl rfl rfl (.idxN sl_22_A (by first | assumption | exact SlA.of_row at22 (by first | rfl | (simp; done) | (simp <;> omega))) rfl rfl (by omega)) ?_
   refine .m rfl rfl rfl (.loadI on_2_A (by first | assumption | exact Ints.of_get at22) rfl (by omega)) ?_
   refine .mv rfl (.nil (hK10 _ _ (.seq (fun K11 hK11 => .seq (fun K12 hK12 => .region (.m rfl rfl rfl (.fieldAddr fo_98_1_Cm rfl) ?_))))))
   refine .m rfl rfl rfl (.load on_22_B rfl (by first | assumption | exact Mem.of_get at5 1 _ rfl)) ?_
   refine .m rfl rfl rfl (.len sl_22_A rfl) (.mv rfl (.nil (hK12 _ _ ?_)))
   refine .block ?_
   refine .loopR (σ := Nat) [(4, some _), (5, some _), (7, some _), (8, some _), (10, some _), (22, some _), (23, some _), (24, some _), (29, some _), (30, some _)] (fun j => [(31, some (.int .i64 (j : Int)))]) (fun j H' => HL1 = H' ∧ j ≤ m'.lg.length ∧ allN j (fun j => d.t.th ((d.t.hom m.ap m'.ap).getD i 0) (m'.lg.getD j 0) == m.lg.getD j 0) = true) (fun j => m'.lg.length - j) (0) ⟨rfl, rfl, rfl, rfl, rfl, rfl, rfl, rfl, rfl, rfl, trivial⟩ ⟨rfl, trivial⟩ ?_ ?_
   ·
    refine ⟨rfl, ?_⟩
    exact ⟨by omega, rfl⟩
   rintro j _ ⟨rfl, hI⟩ KL2 hKL2
   refine .forget (fr' := [(31, some (.int .i64 (j : Int))), (4, some _), (5, some _), (7, some _), (8, some _), (10, some _), (22, some _), (23, some _), (24, some _), (29, some _), (30, some _)]) ⟨rfl, rfl, rfl, rfl, rfl, rfl, rfl, rfl, rfl, rfl, rfl, trivial⟩ ?_
   obtain ⟨hj, hb⟩ := hI
   refine .seq (fun K13 hK13 => .region (.m rfl rfl rfl (.cmp rfl rfl rfl) (.nil (hK13 _ _ (.seq (fun K14 hK14 => ?_))))))
   refine .cond rfl (fun h32 => ?_) (fun h32 => ?_)
   ·
    simp only [sps] at h32
    have w1 := hc'.lg j (by omega)
    refine .skip ?_
    refine hK14 _ _ (.seq (fun K15 hK15 => ?_))
    refine .block ?_
    refine .seq (fun K16 hK16 => .region (.mv rfl ?_))
    refine .m rfl rfl rfl (.idxN sl_22_A (by assumption) rfl rfl (by omega)) ?_
    refine .m rfl rfl rfl (.loadI on_2_A (by assumption) rfl (by omega)) ?_
    refine .mv rfl (.mv rfl (.nil (hK16 _ _ (.seq (fun K17 hK17 => ?_)))))
    refine .regionD mo_B (.q 0 (.q 1 (.q 2 (.q 4 (.q 5 (.q 6 (.q 7 (.q 8 (.c 3 1 (.q 9 (.done))))))))))) (by kernel_rfl) ?_
    refine .mv rfl rfl (.mv rfl rfl (.mv rfl rfl (.m rfl rfl rfl rfl (.refl _) (.fieldAddr fo_98_1_Cm rfl) ?_)))
    refine .m rfl rfl rfl rfl (.refl _) (.load on_22_B rfl (by first | assumption | exact Mem.of_get at4 1 _ rfl)) ?_
    refine .mv rfl rfl ?_
    refine .m rfl rfl rfl rfl (.refl _) (.idxN sl_22_A (by assumption) rfl rfl (by omega)) ?_
    refine .m rfl rfl rfl rfl (.refl _) (.loadI on_2_A (by assumption) rfl (by omega)) ?_
    refine .callQ1 rfl rfl rfl rfl rfl @Try.call65 rfl (then_s) (.refl _) ?_
    refine .m rfl rfl rfl rfl (.refl _) (.cmp rfl rfl rfl) ?_
    refine .done ?_
    refine hK17 _ _ ?_
    refine .cond rfl (fun h45 => ?_) (fun h45 => ?_)
    ·
     simp only [sps] at h45
     have hfit : d.coneFit m m' ((d.t.hom m.ap m'.ap).getD i 0) = false := by
       unfold Fun.coneFit
       refine allN_early (k := j + 1) ?_ (by omega)
       rw [allN_succ, hb]
       simpa using h45
     refine .exit ?_
     refine hK9 _ _ (.region ?_)
     refine .m rfl rfl rfl (.add rfl rfl rfl (by omega) (by omega)) ?_
     refine .mv rfl (.nil ?_)
     refine hKL1 ((i + 1, _, _)) _ _ ?_ ?_ ⟨rfl, rfl, rfl, rfl, rfl, rfl, rfl, trivial⟩
     ·
      refine ⟨lst1, by (rw [filtTake_F (by omega) hfit]; assumption), by omega, by (rw [filtTake_F (by omega) hfit] <;> (first | omega | (simp only [List.length_append, List.length_cons, List.length_nil] <;> omega))), ?_⟩
      omega
     (dsimp only; omega)
    simp only [sps] at h45
    refine .skip ?_
    refine hK15 _ _ (.region ?_)
    refine .m rfl rfl rfl (.add rfl rfl rfl (by omega) (by omega)) ?_
    refine .mv rfl (.nil ?_)
    refine hKL2 (j + 1) _ _ ?_ ?_ ⟨rfl, rfl, rfl, rfl, rfl, rfl, rfl, rfl, rfl, rfl, rfl, trivial⟩
    ·
     refine ⟨rfl, ?_⟩
     exact ⟨by omega, by rw [allN_succ, hb]; simpa using h45⟩
    omega
   try simp only [sps] at h32
   refine .exit ?_
   refine hK11 _ _ (.region ?_)
   have hfit : d.coneFit m m' ((d.t.hom m.ap m'.ap).getD i 0) = true := by
     unfold Fun.coneFit
     rw [show m.lg.length = j by omega]
     exact hb
   refine .mv rfl (.mv rfl ?_)
   refine .r rfl rfl rfl (.litR rfl sl_22_A ze_2_E rfl rfl (by omega) (by omega) rfl rfl) ?_
   rintro _ H49 ⟨g49, rfl, le49, ge49, at49⟩
   replace hle := hle.trans le49
   replace lst1 := lst1.le le49
   replace at4 := le49.2 _ _ at4
   replace at5 := le49.2 _ _ at5
   replace at_L8 := le49.2 _ _ at_L8
   have lt_at49 := GHeap.ltg at49
   replace h := base_h.mono hle
   replace hin1 := base_hin1.mono hle
   replace hin2 := base_hin2.mono hle
   clear ft
   clear hb4 c14 hi4
   have hb4 : Con.At _ g4 0 m q := ⟨Mem.of_get at4, hin1⟩
   clear hb5 c15 hi5
   have hb5 : Con.At _ g5 0 m' q' := ⟨Mem.of_get at5, hin2⟩
   clear i22
   refine .r rfl rfl rfl (.appendI rfl sl_22_A ze_2_E rfl by_2_E sl_22_A rfl rfl (by assumption) (by assumption) (by first | omega | (simp <;> omega)) (by omega) (by omega)) ?_
   rintro _ H50 ⟨g50, rfl, st50, ge50, at50⟩
   replace hle := hle.st st50 (fun k hk => ⟨by omega, trivial⟩)
   replace lst1 := lst1.st st50 (fun k hk ho => by simp only [out, and_true] at ho ⊢ <;> first | exact ho | exact ho.1 | exact ho.2 | exact ho.2.1 | exact ho.2.2 | exact ho.2.2.1 | exact ho.2.2.2 | omega)
   replace at4 := st50.same _ _ ⟨(by first | assumption | omega), trivial⟩ at4
   replace at5 := st50.same _ _ ⟨(by first | assumption | omega), trivial⟩ at5
   replace h := base_h.mono hle
   replace hin1 := base_hin1.mono hle
   replace hin2 := base_hin2.mono hle
   clear hb4
   have hb4 : Con.At _ g4 0 m q := ⟨Mem.of_get at4, hin1⟩
   clear hb5
   have hb5 : Con.At _ g5 0 m' q' := ⟨Mem.of_get at5, hin2⟩
   refine .mv rfl (.nil (hK9 _ _ (.region ?_)))
   refine .m rfl rfl rfl (.add rfl rfl rfl (by omega) (by omega)) ?_
   refine .mv rfl (.nil ?_)
   refine hKL1 ((i + 1, _, _)) _ _ ?_ ?_ ⟨rfl, rfl, rfl, rfl, rfl, rfl, rfl, trivial⟩
   ·
    refine ⟨lst1, by (rw [filtTake_T (by omega) hfit]; assumption), by omega, by (rw [filtTake_T (by omega) hfit] <;> (first | omega | (simp only [List.length_append, List.length_cons, List.length_nil] <;> omega))), ?_⟩
    omega
   (dsimp only; omega)
  try simp only [sps] at h25
  refine .exit ?_
  refine hK5 _ _ (.seq (fun K18 hK18 => .region (.mv rfl (.mv rfl (.nil (hK18 _ _ ?_))))))
  refine .ret ?_
  refine hret _ _ ?_
  refine ⟨_, rfl, ?_⟩
  obtain rfl : i = (d.t.hom m.ap m'.ap).length := by omega
  rw [List.take_length] at at_L8 ln_L8
  exact ⟨hle, _, by rw [ln_L8]; rfl, at_L8, by omega⟩
end Go.Proofs.Ytagkeabmdodfiaa
namespace Go.Proofs.Ytagkeabmdodfiaa
open Go Go.GL Go.RowKit Go.Proofs
end Go.Proofs.Ytagkeabmdodfiaa
namespace Go.Proofs.Ytagkeabmdodfiaa
open Go Go.GL Go.RowKit Go.Proofs
end Go.Proofs.Ytagkeabmdodfiaa
namespace Go.Proofs.Ytagkeabmdodfiaa
open Go Go.GL Go.RowKit Go.Proofs
end Go.Proofs.Ytagkeabmdodfiaa
namespace Go.GL

def numsL (n : Nat) : List Int := (List.range n).map fun (i : Nat) => (i : Int)
@[simp] theorem length_numsL (n : Nat) : (numsL n).length = n := by simp [numsL]
theorem numsL_get {n i : Nat} (h : i < n) : (numsL n).getD i 0 = i := by simp [numsL, List.getD_eq_getElem?_getD, h]
def NoMove (xs : List Int) : Prop := ∀ i : Nat, i < xs.length → xs.getD i 0 = i
structure Prof.Sized (m : Prof) : Prop where
  sl : (m.sz.length : Int) = m.s.obj
  bl : m.be.length = m.s.src.length
  hl : m.bh.length = m.t.src.length
  row : ∀ x, x < m.sz.length → ((m.sz.getD x []).length : Int) = m.t.obj
  rng : ∀ x, x < m.sz.length → ∀ y, y < (m.sz.getD x []).length → 0 ≤ (m.sz.getD x []).getD y 0 ∧ (m.sz.getD x []).getD y 0 ≤ 64
def Prof.BeOk (m : Prof) (a y : Nat) : Prop :=
  (((m.be.getD a []).getD y []).length : Int) = (m.sz.getD (m.s.tgt.getD a 0).toNat []).getD y 0 ∧ allIn ((m.be.getD a []).getD y []) ((m.sz.getD (m.s.src.getD a 0).toNat []).getD y 0) = true
def Prof.BhOk (m : Prof) (b x : Nat) : Prop :=
  (((m.bh.getD b []).getD x []).length : Int) = (m.sz.getD x []).getD (m.t.src.getD b 0).toNat 0 ∧ allIn ((m.bh.getD b []).getD x []) ((m.sz.getD x []).getD (m.t.tgt.getD b 0).toNat 0) = true
structure Prof.Maps (m : Prof) : Prop where
  be : ∀ a, a < m.be.length → ((m.be.getD a []).length : Int) = m.t.obj ∧ ∀ y, y < (m.be.getD a []).length → m.BeOk a y
  bh : ∀ b, b < m.bh.length → ((m.bh.getD b []).length : Int) = m.s.obj ∧ ∀ x, x < (m.bh.getD b []).length → m.BhOk b x
structure Prof.Shape (m : Prof) : Prop where
  s : m.s.Is
  t : m.t.Is
  z : m.Sized
  ok : m.Maps
theorem Prof.Sized.b {m : Prof} (z : m.Sized) (s : m.s.Is) {a : Nat} (ha : a < m.be.length) : a < m.s.src.length ∧ a < m.s.tgt.length ∧ 0 ≤ m.s.src.getD a 0 ∧ m.s.src.getD a 0 < m.sz.length ∧ 0 ≤ m.s.tgt.getD a 0 ∧ m.s.tgt.getD a 0 < m.sz.length ∧
    ((m.sz.getD (m.s.src.getD a 0).toNat []).length : Int) = m.t.obj ∧ ((m.sz.getD (m.s.tgt.getD a 0).toNat []).length : Int) = m.t.obj := by
  have h0 := z.bl
  have h1 := s.1.tl
  have h2 := s.1.src a (by omega)
  have h3 := s.1.tgt a (by omega)
  have h4 := z.sl
  exact ⟨by omega, by omega, by omega, by omega, by omega, by omega, z.row _ (by omega), z.row _ (by omega)⟩
theorem Prof.Sized.h {m : Prof} (z : m.Sized) (t : m.t.Is) {b : Nat} (hb : b < m.bh.length) : b < m.t.src.length ∧ b < m.t.tgt.length ∧ 0 ≤ m.t.src.getD b 0 ∧ m.t.src.getD b 0 < m.t.obj ∧ 0 ≤ m.t.tgt.getD b 0 ∧ m.t.tgt.getD b 0 < m.t.obj := by
  have h0 := z.hl
  have h1 := t.1.tl
  have h2 := t.1.src b (by omega)
  have h3 := t.1.tgt b (by omega)
  exact ⟨by omega, by omega, by omega, by omega, by omega, by omega⟩
theorem Prof.Shape.by {m : Prof} (h : m.Shape) {a y : Nat} (ha : a < m.be.length) (hy : (y : Int) < m.t.obj) : y < (m.be.getD a []).length ∧ y < (m.sz.getD (m.s.src.getD a 0).toNat []).length ∧ y < (m.sz.getD (m.s.tgt.getD a 0).toNat []).length ∧
    (((m.be.getD a []).getD y []).length : Int) = (m.sz.getD (m.s.tgt.getD a 0).toNat []).getD y 0 ∧ (∀ i, i < ((m.be.getD a []).getD y []).length → 0 ≤ ((m.be.getD a []).getD y []).getD i 0 ∧ ((m.be.getD a []).getD y []).getD i 0 < (m.sz.getD (m.s.src.getD a 0).toNat []).getD y 0) ∧
    (0 ≤ (m.sz.getD (m.s.src.getD a 0).toNat []).getD y 0 ∧ (m.sz.getD (m.s.src.getD a 0).toNat []).getD y 0 ≤ 64) ∧ 0 ≤ (m.sz.getD (m.s.tgt.getD a 0).toNat []).getD y 0 ∧ (m.sz.getD (m.s.tgt.getD a 0).toNat []).getD y 0 ≤ 64 := by
  have q := h.z.b h.s ha
  have r := h.ok.be a ha
  have r2 := r.2 y (by omega)
  exact ⟨by omega, by omega, by omega, r2.1, allIn_iff.1 r2.2, h.z.rng _ (by omega) _ (by omega), h.z.rng _ (by omega) _ (by omega)⟩
theorem Prof.Shape.hx {m : Prof} (h : m.Shape) {b x : Nat} (hb : b < m.bh.length) (hx : (x : Int) < m.s.obj) : x < (m.bh.getD b []).length ∧ x < m.sz.length ∧ (m.t.src.getD b 0).toNat < (m.sz.getD x []).length ∧ (m.t.tgt.getD b 0).toNat < (m.sz.getD x []).length ∧
    (((m.bh.getD b []).getD x []).length : Int) = (m.sz.getD x []).getD (m.t.src.getD b 0).toNat 0 ∧ (∀ i, i < ((m.bh.getD b []).getD x []).length → 0 ≤ ((m.bh.getD b []).getD x []).getD i 0 ∧ ((m.bh.getD b []).getD x []).getD i 0 < (m.sz.getD x []).getD (m.t.tgt.getD b 0).toNat 0) ∧
    (0 ≤ (m.sz.getD x []).getD (m.t.src.getD b 0).toNat 0 ∧ (m.sz.getD x []).getD (m.t.src.getD b 0).toNat 0 ≤ 64) ∧ 0 ≤ (m.sz.getD x []).getD (m.t.tgt.getD b 0).toNat 0 ∧ (m.sz.getD x []).getD (m.t.tgt.getD b 0).toNat 0 ≤ 64 := by
  have q := h.z.h h.t hb
  have z := h.z.sl
  have w := h.z.row x (by omega)
  have r := h.ok.bh b hb
  have r2 := r.2 x (by omega)
  exact ⟨by omega, by omega, by omega, by omega, r2.1, allIn_iff.1 r2.2, h.z.rng _ (by omega) _ (by omega), h.z.rng _ (by omega) _ (by omega)⟩
theorem Cat.Shape.comp {c : Cat} (h : c.Shape) {a b : Nat} (ha : a < c.src.length) (hb : b < c.src.length) (hp : 0 ≤ (c.comp.getD a []).getD b 0) :
    c.tgt.getD a 0 = c.src.getD b 0 ∧ (c.comp.getD a []).getD b 0 < c.src.length ∧ c.src.getD ((c.comp.getD a []).getD b 0).toNat 0 = c.src.getD a 0 ∧ c.tgt.getD ((c.comp.getD a []).getD b 0).toNat 0 = c.tgt.getD b 0 := by
  have u := (h.th_ge (f := a) (g := b) ha hb).1 hp
  exact ⟨u, ((Cat.Cell.pos u).1 (h.cell a (by have := h.cl; omega) b hb)).2⟩

structure Prof.Acts (m : Prof) : Prop where
  idb : ∀ y : Nat, (y : Int) < m.t.obj → ∀ x : Nat, (x : Int) < m.s.obj → NoMove ((m.be.getD (m.s.idn.getD x 0).toNat []).getD y []) ∧ NoMove ((m.bh.getD (m.t.idn.getD y 0).toNat []).getD x [])
  thb : ∀ y : Nat, (y : Int) < m.t.obj → ∀ a : Nat, a < m.s.src.length → ∀ b : Nat, b < m.s.src.length → 0 ≤ (m.s.comp.getD a []).getD b 0 →
    (m.be.getD ((m.s.comp.getD a []).getD b 0).toNat []).getD y [] = thenL ((m.be.getD b []).getD y []) ((m.be.getD a []).getD y [])
  thh : ∀ x : Nat, (x : Int) < m.s.obj → ∀ a : Nat, a < m.t.src.length → ∀ b : Nat, b < m.t.src.length → 0 ≤ (m.t.comp.getD a []).getD b 0 →
    (m.bh.getD ((m.t.comp.getD a []).getD b 0).toNat []).getD x [] = thenL ((m.bh.getD a []).getD x []) ((m.bh.getD b []).getD x [])
def Prof.MixAt (m : Prof) (a b : Nat) : Prop :=
  thenL ((m.be.getD a []).getD (m.t.src.getD b 0).toNat []) ((m.bh.getD b []).getD (m.s.src.getD a 0).toNat []) = thenL ((m.bh.getD b []).getD (m.s.tgt.getD a 0).toNat []) ((m.be.getD a []).getD (m.t.tgt.getD b 0).toNat [])
def Prof.Mix (m : Prof) : Prop := ∀ a, a < m.s.src.length → ∀ b, b < m.t.src.length → m.MixAt a b
def Prof.Is (m : Prof) : Prop := m.Shape ∧ m.Acts ∧ m.Mix

def sumN (f : Nat → Int) : Nat → Int
  | 0 => 0
  | n + 1 => sumN f n + f n
theorem sumN_bd {f : Nat → Int} {c : Int} {N : Nat} (h : ∀ i, i < N → 0 ≤ f i ∧ f i ≤ c) : ∀ {n}, n ≤ N → 0 ≤ sumN f n ∧ sumN f n ≤ n * c
  | 0, _ => ⟨Int.le_refl _, by simp [sumN]⟩
  | n + 1, hn => by
    have h1 := sumN_bd h (n := n) (by omega)
    have h2 := h n (by omega)
    have h3 : ((n + 1 : Nat) : Int) * c = n * c + c := by rw [Int.natCast_add, Int.add_mul]; simp
    rw [h3]
    simp only [sumN]
    omega
def Prof.diag (m : Prof) (i : Nat) : Int := (m.sz.getD i []).getD i 0
def Prof.firsts (m : Prof) (n : Nat) : List Int := (List.range n).map (sumN m.diag)
@[simp] theorem Prof.length_firsts (m : Prof) (n : Nat) : (m.firsts n).length = n := by simp [Prof.firsts]
noncomputable def Prof.code (m : Prof) : Int := bif B m.Is then (bif B (m.s = m.t) then 0 else 5) else 1
theorem Prof.Sized.diag {m : Prof} (z : m.Sized) (e : m.s = m.t) {i : Nat} (hi : i < m.sz.length) : i < (m.sz.getD i []).length ∧ 0 ≤ m.diag i ∧ m.diag i ≤ 64 := by
  have h1 := z.row i hi
  have h2 := z.sl
  rw [e] at h2
  have h3 := z.rng i hi i (by omega)
  exact ⟨by omega, h3⟩
theorem Prof.Sized.sum {m : Prof} (z : m.Sized) (e : m.s = m.t) {n : Nat} (hn : n ≤ m.sz.length) : 0 ≤ sumN m.diag n ∧ sumN m.diag n ≤ n * 64 := sumN_bd (N := m.sz.length) (fun _ hi => (z.diag e hi).2) hn
noncomputable def Prof.place (m : Prof) (x e : Int) : Int × Int := bif B (m.code = 0) then (bif B (0 ≤ x ∧ x < m.s.obj ∧ 0 ≤ e ∧ e < m.diag x.toNat) then (sumN m.diag x.toNat + e, 0) else (0, 2)) else (0, m.code)
abbrev L3 := List (List (List Int))
def Prof.CoOk (m n : Prof) (c : L3) (x y : Nat) : Prop := (((c.getD x []).getD y []).length : Int) = (m.sz.getD x []).getD y 0 ∧ allIn ((c.getD x []).getD y []) ((n.sz.getD x []).getD y 0) = true
structure Prof.Rows (m n : Prof) (c : L3) : Prop where
  cl : (c.length : Int) = m.s.obj
  row : ∀ x, x < c.length → ((c.getD x []).length : Int) = m.t.obj ∧ ∀ y, y < (c.getD x []).length → m.CoOk n c x y
def Prof.NatB (m n : Prof) (c : L3) (a y : Nat) : Prop :=
  thenL ((m.be.getD a []).getD y []) ((c.getD (m.s.src.getD a 0).toNat []).getD y []) = thenL ((c.getD (m.s.tgt.getD a 0).toNat []).getD y []) ((n.be.getD a []).getD y [])
def Prof.NatH (m n : Prof) (c : L3) (b x : Nat) : Prop :=
  thenL ((m.bh.getD b []).getD x []) ((c.getD x []).getD (m.t.tgt.getD b 0).toNat []) = thenL ((c.getD x []).getD (m.t.src.getD b 0).toNat []) ((n.bh.getD b []).getD x [])
structure Prof.IsMap (m n : Prof) (c : L3) : Prop where
  rows : m.Rows n c
  nb : ∀ a, a < m.s.src.length → ∀ y : Nat, (y : Int) < m.t.obj → m.NatB n c a y
  nh : ∀ b, b < m.t.src.length → ∀ x : Nat, (x : Int) < m.s.obj → m.NatH n c b x
theorem Prof.Rows.co {m n : Prof} {c : L3} (h : m.Rows n c) {x y : Nat} (hx : (x : Int) < m.s.obj) (hy : (y : Int) < m.t.obj) : x < c.length ∧ y < (c.getD x []).length ∧ (((c.getD x []).getD y []).length : Int) = (m.sz.getD x []).getD y 0 ∧
    ∀ i, i < ((c.getD x []).getD y []).length → 0 ≤ ((c.getD x []).getD y []).getD i 0 ∧ ((c.getD x []).getD y []).getD i 0 < (n.sz.getD x []).getD y 0 := by
  have h1 := h.cl
  have h2 := h.row x (by omega)
  have h3 := h2.2 y (by omega)
  exact ⟨by omega, by omega, h3.1, allIn_iff.1 h3.2⟩
end Go.GL
namespace Go.Proofs.Ytagkeabmdodfiaa
open Go Go.GL Go.RowKit Go.Proofs
end Go.Proofs.Ytagkeabmdodfiaa
namespace Go.GL
open Go.RowKit
theorem CDo.appendL {P : Program} {H : GHeap} {fr : Slots} {o : Oper} {t tx e e' : TypeId} {s x : Operand} {g n bytes : Nat} {a : Option Addr} {z : List Value} {ys xs : List Int} (ho : o.op = .call { callee := .builtin .append, args := #[s, x], argTypes := #[t, tx] }) (ht : sliceT P t = some (e, 1)) (hz : zeroT P e = some (z, 1)) (hzn : z.length = 1)
    (hb : (P.info? e).map (·.bytes) = some bytes) (htx : sliceT P tx = some (e', 1)) (hsv : ev fr s = some (.slice (some ⟨g, 0, none⟩) n n)) (hx : ev fr x = some (.slice a xs.length xs.length)) (hg : H.get g = some (.row (ints ys) e true)) (hxs : Ints H a xs) (hend : n = ys.length)
    (hN : n + xs.length ≤ 16777216) (hB : (n + xs.length) * bytes ≤ 140737488355328) :
    CDo P o fr H (fun r H' => ∃ g', r = some (.slice (some ⟨g', 0, none⟩) (n + xs.length) (n + xs.length)) ∧ St [g] H H' ∧ H.next ≤ g' ∧ H'.get g' = some (.row (ints (ys ++ xs)) e true)) := by
  have e1 : ints (ys ++ xs) = (ints ys).drop 0 ++ ints xs := by simp [ints]
  rw [e1]
  refine .appendR (off := 0) (cs := ints ys) (news := ints xs) ho ht hz hzn hb hsv hg (by simp; omega) ?_ hN hB
  rcases hxs with h0 | ⟨g', off, rfl, hc⟩
  · obtain rfl : xs = [] := List.eq_nil_of_length_eq_zero h0
    exact .empty htx hx
  · exact .slice htx hx (by simp) (fun i v hv => by
      have hi : i < xs.length := by have := (List.getElem?_eq_some_iff.1 hv).1; simpa using this
      rw [ints_get hi] at hv
      cases hv
      exact hc i hi) (fun v hv => by
      simp only [ints, List.mem_map] at hv
      obtain ⟨m, _, rfl⟩ := hv
      rfl)

section
variable {P : Program} {B : Nat} {w0 : World} {ρ : Place} {H : GHeap} {w : World} {fr : Slots} {o : Oper} {R : Option Value → GHeap → Prop}
end
end Go.GL
