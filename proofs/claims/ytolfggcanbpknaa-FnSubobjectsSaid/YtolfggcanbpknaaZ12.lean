/- Subobjects: the rules' side; kinds of arrows. No condition but those of each statement. -/
import Derived.Test.YtolfggcanbpknaaZ11
namespace Go.Proofs.Ytolfggcanbpknaa
open Go Go.GL Go.RowKit Go.Proofs
theorem sz_4_Fs : (Try.prog.info? 4).map (·.size) = some 1 := by kernel_rfl
theorem on_4_Fs : oneT Try.prog 4 = true := by kernel_rfl
theorem bta_83_Fs : buildAT Try.prog 83 = some ([.bool false, .bool false, .bool false, .bool false, .bool false], 1) := by kernel_rfl
theorem ze_83_Fs : zeroT Try.prog 83 = some ([.bool false, .bool false, .bool false, .bool false, .bool false], 5) := by kernel_rfl
theorem sz_83_Fs : (Try.prog.info? 83).map (·.size) = some 5 := by kernel_rfl
theorem ag_83_Fs : aggT Try.prog 83 = some 5 := by kernel_rfl
theorem l05Below_c {c : Cat} {p : CatP} {m k : Int} {H : GHeap} (hin : c.In H p := by assumption) (hs : c.Small := by assumption) (hS : c.Shape := by assumption) (h0 : 0 ≤ m := by omega) (h1 : m < c.src.length := by omega) (h2 : 0 ≤ k := by omega) (h3 : k < c.src.length := by omega) :
    GCalls Try.prog 103 [.agg (c.cells p).toArray, .int .i64 m, .int .i64 k] H (Ret (.bool (c.belB m k)) H) := by
  refine GCalls.ret rfl ?_
  have q1 := hS.tl
  have q2 := hS.n40
  have q3 := hS.cl
  refine GCalls.body (N := 51) (rs := [.tmp 6]) Try.func103 rfl rfl rfl rfl (fun Qx hret hend => ?_)
  refine .fg [0, 1, 2] rfl ?_
  have hle := GHeap.Le.refl H
  have base_hin := hin
  refine .seq (fun K1 hK1 => .region ?_)
  refine .R rfl (.boxR rfl sz_27_D rfl) ?_
  rintro _ H3 ⟨g3, rfl, le3, ge3, at3⟩
  replace hle := hle.trans le3
  replace hin := base_hin.mono hle
  have hb3 : Cat.At _ g3 0 c p := ⟨Mem.of_get at3, hin⟩
  obtain ⟨-, c13, c23, -, c43, i13, i23, -, i43⟩ := hb3.get
  refine .mv rfl (.nil (hK1 _ _ (.seq (fun K2 hK2 => .seq (fun K3 hK3 => .region (.mv rfl (.nil (hK3 _ _ ?_))))))))
  refine .block ?_
  refine .loopR (σ := Nat) [(1, some _), (2, some _), (3, some _)] (fun i => [(7, some (.int .i64 (i : Int)))]) (fun i H' => H3 = H' ∧ i ≤ c.src.length ∧ ∀ a : Nat, a < i → ¬ (c.src.getD a 0 = c.S m ∧ c.tgt.getD a 0 = c.S k ∧ c.th a k = m)) (fun i => c.src.length - i) (0) ⟨rfl, rfl, rfl, trivial⟩ ⟨rfl, trivial⟩ ?_ ?_
  ·
   refine ⟨rfl, ?_⟩
   exact ⟨by omega, fun a h => by omega⟩
  rintro i _ ⟨rfl, hI⟩ KL1 hKL1
  refine .forget (fr' := [(7, some (.int .i64 (i : Int))), (1, some _), (2, some _), (3, some _)]) ⟨rfl, rfl, rfl, rfl, trivial⟩ ?_
  obtain ⟨hi, hno⟩ := hI
  refine .seq (fun K4 hK4 => .seq (fun K5 hK5 => .region (.mv rfl (.q rfl (.fieldAddr fo_27_1_B rfl) ?_))))
  refine .q rfl (.load on_24_B rfl (by first | assumption | exact Mem.of_get at3 1 _ rfl)) ?_
  refine .q rfl (.len sl_24_A rfl) (.q rfl (.cmp rfl rfl rfl) (.nil (hK5 _ _ ?_)))
  refine .cond rfl (fun h12 => ?_) (fun h12 => ?_)
  ·
   simp only [sps] at h12
   have r1 := hS.row i (by omega)
   refine .skip ?_
   refine hK4 _ _ (.seq (fun K6 hK6 => ?_))
   refine .block ?_
   refine .seq (fun K7 hK7 => ?_)
   refine .regionD mo_B (.q 0 (.q 1 (.q 2 (.q 3 (.q 4 (.q 5 (.q 6 (.q 7 (.q 8 (.q 9 (.q 10 (.q 11 (.q 12 (.q 13 (.q 14 (.q 15 (.q 16 (.q 17 (.q 18 (.q 19 (.q 20 (.q 21 (.q 22 (.q 23 (.q 24 (.q 25 (.q 26 (.q 27 (.q 28 (.q 29 (.q 30 (.q 31 (.q 32 (.q 33 (.q 34 (.q 35 (.done))))))))))))))))))))))))))))))))))))) (by kernel_rfl) ?_
   refine .cut [(1, some _), (2, some _), (3, some _), (7, some _), (8, some _), (9, some _), (10, some _), (11, some _), (12, some _)] ⟨rfl, rfl, rfl, rfl, rfl, rfl, rfl, rfl, rfl, trivial⟩ (fun rest fr' H' => ∃ e : Bool, Sub ((50, some (.bool e)) :: rest) fr' ∧ H3 = H' ∧ (e = false → ¬ (c.src.getD i 0 = c.S m ∧ c.tgt.getD i 0 = c.S k ∧ c.th i k = m)) ∧ (e = true → (c.src.getD i 0 = c.S m ∧ c.tgt.getD i 0 = c.S k ∧ c.th i k = m))) ?_ ?_
   ·
    refine .q rfl (.fieldAddr fo_27_1_B rfl) ?_
    refine .q rfl (.load on_24_B rfl (by first | assumption | exact Mem.of_get at3 1 _ rfl)) ?_
    refine .mv rfl rfl ?_
    refine .q rfl (.idxN sl_24_A (by assumption) rfl rfl (by omega)) ?_
    refine .q rfl (.loadI on_2_A (by assumption) rfl (by omega)) ?_
    refine .q rfl (.fieldAddr fo_27_1_B rfl) ?_
    refine .q rfl (.load on_24_B rfl (by first | assumption | exact Mem.of_get at3 1 _ rfl)) ?_
    refine .mv rfl rfl ?_
    refine .q rfl (.idx1 sl_24_A (by assumption) rfl rfl (by omega) (by omega)) ?_
    refine .q rfl (.loadI on_2_A (by assumption) rfl (by omega)) ?_
    refine .q rfl (.cmp rfl rfl rfl) (.mv rfl rfl ?_)
    refine .split (fun h26 => ?_) (fun h26 => ?_)
    ·
     try simp only [sps] at h26
     refine .qg rfl (.fieldAddr fo_27_2_B rfl) ?_
     refine .qg rfl (.load on_24_B rfl (by first | assumption | exact Mem.of_get at3 2 _ rfl)) ?_
     refine .qg rfl (.move rfl) ?_
     refine .qg rfl (.idxN sl_24_A (by assumption) rfl rfl (by omega)) ?_
     refine .qg rfl (.loadI on_2_A (by assumption) rfl (by omega)) ?_
     refine .qg rfl (.fieldAddr fo_27_1_B rfl) ?_
     refine .qg rfl (.load on_24_B rfl (by first | assumption | exact Mem.of_get at3 1 _ rfl)) ?_
     refine .qg rfl (.move rfl) ?_
     refine .qg rfl (.idx1 sl_24_A (by assumption) rfl rfl (by omega) (by omega)) ?_
     refine .qg rfl (.loadI on_2_A (by assumption) rfl (by omega)) ?_
     refine .qg rfl (.cmp rfl rfl rfl) (.q rfl (.pickT rfl rfl) (.mv rfl rfl ?_))
     refine .split (fun h39 => ?_) (fun h39 => ?_)
     ·
      try simp only [sps] at h39
      refine .qg rfl (.fieldAddr fo_27_4_B rfl) ?_
      refine .qg rfl (.load on_25_B rfl (by first | assumption | exact Mem.of_get at3 4 _ rfl)) ?_
      refine .qg rfl (.move rfl) ?_
      refine .qg rfl (.idxN sl_25_B (Intss.sl (by assumption)) rfl rfl (by omega)) ?_
      refine .qg rfl (.loadR on_24_B (by assumption) rfl (by omega)) ?_
      refine .qg rfl (.move rfl) ?_
      have w1 := i43.2 i (by omega)
      refine .qg rfl (.idx1 sl_24_A (by assumption) rfl rfl (by omega) (by omega)) ?_
      refine .qg rfl (.loadI on_2_A (by assumption) rfl (by omega)) ?_
      refine .qg rfl (.move rfl) (.qg rfl (.cmp rfl rfl rfl) (.q rfl (.pickT rfl rfl) ?_))
      refine .done ?_
      refine ⟨_, ⟨rfl, rfl, rfl, rfl, rfl, rfl, rfl, rfl, rfl, rfl, trivial⟩, rfl, ?_⟩
      exact ⟨fun q => by simp only [sps] at q; exact fun z => q z.2.2, fun q => by simp only [sps] at q; exact ⟨h26, h39, q⟩⟩
     try simp only [sps] at h39
     refine .z rfl (.z rfl (.z rfl (.z rfl (.z rfl (.z rfl (.z rfl (.z rfl (.z rfl (.z rfl (.q rfl (.pickF rfl rfl) ?_))))))))))
     refine .done ?_
     refine ⟨_, ⟨rfl, rfl, rfl, rfl, rfl, rfl, rfl, rfl, rfl, rfl, trivial⟩, rfl, ?_⟩
     exact ⟨fun _ z => h39 z.2.1, fun q => by cases q⟩
    try simp only [sps] at h26
    refine .z rfl (.z rfl (.z rfl (.z rfl (.z rfl (.z rfl (.z rfl (.z rfl (.z rfl (.z rfl (.z rfl (.q rfl (.pickF rfl rfl) (.mv rfl rfl (.z rfl (.z rfl (.z rfl ?_)))))))))))))))
    refine .z rfl (.z rfl (.z rfl (.z rfl (.z rfl (.z rfl (.z rfl (.q rfl (.pickF rfl rfl) ?_)))))))
    refine .done ?_
    refine ⟨_, ⟨rfl, rfl, rfl, rfl, rfl, rfl, rfl, rfl, rfl, rfl, trivial⟩, rfl, ?_⟩
    exact ⟨fun _ z => h26 z.1, fun q => by cases q⟩
   rintro frJ4 _ ⟨e, hsubJ4, rfl, hJ4⟩
   refine hK7 _ _ ?_
   refine .forget hsubJ4 ?_
   refine .cond rfl (fun h50 => ?_) (fun h50 => ?_)
   ·
    try simp only [sps] at h50
    refine .seq (fun K8 hK8 => .region (.mv rfl (.nil (hK8 _ _ ?_))))
    refine .ret ?_
    refine hret _ _ ?_
    refine ⟨_, rfl, ?_⟩
    obtain ⟨z1, z2, z3⟩ := hJ4.2 h50
    exact ⟨congrArg _ (Cat.belB_iff.2 ⟨i, by omega, z1, z2, z3⟩), hle⟩
   try simp only [sps] at h50
   refine .skip ?_
   refine hK6 _ _ (.region (.mv rfl ?_))
   refine .q rfl (.add rfl rfl rfl (by omega) (by omega)) ?_
   refine .mv rfl (.nil ?_)
   refine hKL1 (i + 1) _ _ ?_ ?_ ⟨rfl, rfl, rfl, rfl, trivial⟩
   ·
    refine ⟨rfl, ?_⟩
    refine ⟨by omega, fun a ha => ?_⟩
    by_cases e : a < i
    · exact hno a e
    · obtain rfl : a = i := by omega
      exact hJ4.1 h50
   omega
  try simp only [sps] at h12
  refine .exit ?_
  refine hK2 _ _ (.seq (fun K9 hK9 => .region (.mv rfl (.nil (hK9 _ _ ?_)))))
  refine .ret ?_
  refine hret _ _ ?_
  refine ⟨_, rfl, ?_⟩
  exact ⟨congrArg _ (Bool.eq_false_iff.2 fun q => by
    obtain ⟨a, a1, a2, a3, a4⟩ := Cat.belB_iff.1 q
    exact hno a (by omega) ⟨a2, a3, a4⟩), hle⟩
set_option maxHeartbeats 4000000 in
theorem l05Subobjects_c {c : Cat} {p : CatP} {x : Int} {H : GHeap} (hin : c.In H p := by assumption) (hs : c.Small := by assumption) (hIs : c.Is := by assumption) :
    GCalls Try.prog 76 [.agg (c.cells p).toArray, .int .i64 x] H (NewIntssR H (c.subs x)) := by
  have hS := hIs.1
  have q1 := hS.tl
  have q2 := hS.n40
  refine GCalls.body (N := 75) (rs := [.tmp 4]) Try.func76 rfl rfl rfl rfl (fun Qx hret hend => ?_)
  refine .fg [0, 1] rfl ?_
  have hle := GHeap.Le.refl H
  have base_hin := hin
  refine .seq (fun K1 hK1 => .region ?_)
  refine .R rfl (.boxR rfl sz_27_D rfl) ?_
  rintro _ H2 ⟨g2, rfl, le2, ge2, at2⟩
  replace hle := hle.trans le2
  have lt_at2 := GHeap.ltg at2
  replace hin := base_hin.mono hle
  have hb2 : Cat.At _ g2 0 c p := ⟨Mem.of_get at2, hin⟩
  refine .mv rfl (.nil (hK1 _ _ (.seq (fun K2 hK2 => .region ?_))))
  refine .R rfl (.litA rfl sl_25_B ze_24_Hj rfl rfl rfl rfl) ?_
  rintro _ H11 ⟨g11, rfl, le11, ge11, at11⟩
  replace hle := hle.trans le11
  replace at2 := le11.2 _ _ at2
  replace hin := base_hin.mono hle
  clear hb2
  have hb2 : Cat.At _ g2 0 c p := ⟨Mem.of_get at2, hin⟩
  refine .mv rfl (.nil (hK2 _ _ (.seq (fun K3 hK3 => .seq (fun K4 hK4 => .region (.mv rfl (.nil (hK4 _ _ ?_))))))))
  refine .block ?_
  refine .loopR (σ := Nat × Nat × Nat × (Nat → Option Addr)) [(1, some _), (2, some _)] (fun (i, gV, nV, rr) => [(6, some (.int .i64 (i : Int))), (5, some (.slice (some ⟨gV, 0, none⟩) nV nV))]) (fun (i, gV, nV, rr) H' => (i ≤ c.src.length ∧ gV ≠ g2 ∧ nV = (clsOf c.eqvB (c.toL x i)).length) ∧ SubSt 2 24 H H' gV rr (clsOf c.eqvB (c.toL x i)) ∧ H'.get g2 = some (.row (c.cells p) 27 true)) (fun (i, gV, nV, rr) => c.src.length - i) ((0, g11, 0, fun _ => none)) ⟨rfl, rfl, trivial⟩ ⟨rfl, rfl, trivial⟩ ?_ ?_
  ·
   exact ⟨⟨by omega, by omega, rfl⟩, ⟨hle, at11, by omega, .nil _ _ _ _⟩, at2⟩
  rintro ⟨i, gV, nV, rr⟩ HL1 hI KL1 hKL1
  refine .forget (fr' := [(6, some (.int .i64 (i : Int))), (5, some (.slice (some ⟨gV, 0, none⟩) nV nV)), (1, some _), (2, some _)]) ⟨rfl, rfl, rfl, rfl, trivial⟩ ?_
  obtain ⟨⟨hi, hVg, hnV⟩, hS2, a2⟩ := hI
  obtain ⟨hle, a5, b5, hR⟩ := id hS2
  have rk := St.refl [] HL1
  have htm : ∀ m ∈ c.toL x i, c.ToX x m := fun m hm => Cat.toL_mem hi hm
  have hok := clsOf_ok (c.eqv_on hIs x) htm
  obtain ⟨T, hT⟩ : ∃ T, T = clsOf c.eqvB (c.toL x i) := ⟨_, rfl⟩
  have htt := clsOf_tot (c.eqv_on hIs x) htm
  have htl := hok.len
  have hfn := filtN_le i (fun m => decide (c.tgt.getD m 0 = x) && B (c.Mono m))
  have hfn2 : (c.toL x i).length ≤ i := hfn
  rw [← hT] at a5 hR hok htt htl hnV
  have hfl : (slsL rr T).length = T.length := length_slsL _ _
  have nx_HL1 := hle.1
  have lt_a5 := GHeap.ltg a5
  have lt_a2 := GHeap.ltg a2
  replace hin := base_hin.mono hle
  have hb2 : Cat.At _ g2 0 c p := ⟨Mem.of_get a2, hin⟩
  obtain ⟨-, c12, c22, -, -, -, i22, -, -⟩ := hb2.get
  have hi2 := hb2.2
  refine .seq (fun K5 hK5 => .seq (fun K6 hK6 => .region (.mv rfl (.q rfl (.fieldAddr fo_27_1_B rfl) ?_))))
  refine .q rfl (.load on_24_B rfl (by first | assumption | exact Mem.of_get a2 1 _ rfl)) ?_
  refine .q rfl (.len sl_24_A rfl) (.q rfl (.cmp rfl rfl rfl) (.nil (hK6 _ _ ?_)))
  refine .cond rfl (fun h16 => ?_) (fun h16 => ?_)
  ·
   simp only [sps] at h16
   refine .skip ?_
   refine hK5 _ _ (.seq (fun K7 hK7 => ?_))
   refine .block ?_
   refine .seq (fun K8 hK8 => .seq (fun K9 hK9 => .region (.q rfl (.fieldAddr fo_27_2_B rfl) ?_)))
   refine .q rfl (.load on_24_B rfl (by first | assumption | exact Mem.of_get a2 2 _ rfl)) ?_
   refine .mv rfl ?_
   refine .q rfl (.idxN sl_24_A (by assumption) rfl rfl (by omega)) ?_
   refine .q rfl (.loadI on_2_A (by assumption) rfl (by omega)) ?_
   refine .mv rfl (.q rfl (.cmp rfl rfl rfl) (.mv rfl ?_))
   refine .split (fun h26 => ?_) (fun h26 => ?_)
   ·
    simp only [sps] at h26
    have hTN : clsOf c.eqvB (c.toL x (i + 1)) = T := by rw [Cat.toL_F fun q => h26 q.1, hT]
    have hnN := hnV.trans (congrArg List.length hTN.symm)
    obtain ⟨rN, hrN⟩ : ∃ r, r = rr := ⟨_, rfl⟩
    have hRN : OwnL H.next HL1 2 rN (clsOf c.eqvB (c.toL x (i + 1))) := by rw [hTN, hrN]; exact hR
    have a5N : HL1.get gV = some (.row (slsL rN (clsOf c.eqvB (c.toL x (i + 1)))) 24 true) := by rw [hTN, hrN]; exact a5
    refine .z rfl (.z rfl (.z rfl (.z rfl (.q rfl (.pickT rfl rfl) (.nil (hK9 _ _ ?_))))))
    refine .condT rfl ?_
    refine .exit ?_
    refine hK7 _ _ (.region (.mv rfl ?_))
    refine .q rfl (.add rfl rfl rfl (by omega) (by omega)) ?_
    refine .mv rfl (.nil ?_)
    refine hKL1 ((i + 1, _, _, rN)) _ _ ?_ ?_ ⟨rfl, rfl, rfl, rfl, trivial⟩
    ·
     exact ⟨⟨by omega, by omega, hnN⟩, ⟨hle, by assumption, by omega, hRN⟩, by assumption⟩
    (dsimp only; omega)
   simp only [sps] at h26
   refine .qg rfl (.loadM ag_27_D rfl ⟨rfl, Mem.of_get a2⟩) ?_
   refine .qg rfl (.move rfl) ?_
   refine .callQg rfl rfl rfl rfl rfl rfl @Try.call60 rfl (l05Mono_c) ?_
   refine .qg rfl (.not rfl) (.q rfl (.pickF rfl rfl) (.nil (hK9 _ _ ?_)))
   refine .cond rfl (fun h31 => ?_) (fun h31 => ?_)
   ·
    simp only [sps] at h31
    have hTN : clsOf c.eqvB (c.toL x (i + 1)) = T := by rw [Cat.toL_F fun q => h31 q.2, hT]
    have hnN := hnV.trans (congrArg List.length hTN.symm)
    obtain ⟨rN, hrN⟩ : ∃ r, r = rr := ⟨_, rfl⟩
    have hRN : OwnL H.next HL1 2 rN (clsOf c.eqvB (c.toL x (i + 1))) := by rw [hTN, hrN]; exact hR
    have a5N : HL1.get gV = some (.row (slsL rN (clsOf c.eqvB (c.toL x (i + 1)))) 24 true) := by rw [hTN, hrN]; exact a5
    refine .exit ?_
    refine hK7 _ _ (.region (.mv rfl ?_))
    refine .q rfl (.add rfl rfl rfl (by omega) (by omega)) ?_
    refine .mv rfl (.nil ?_)
    refine hKL1 ((i + 1, _, _, rN)) _ _ ?_ ?_ ⟨rfl, rfl, rfl, rfl, trivial⟩
    ·
     exact ⟨⟨by omega, by omega, hnN⟩, ⟨hle, by assumption, by omega, hRN⟩, by assumption⟩
    (dsimp only; omega)
   simp only [sps] at h31
   have hTN : clsOf c.eqvB (c.toL x (i + 1)) = clsIn c.eqvB T i := by rw [Cat.toL_T h26 h31, clsOf_snoc, hT]
   refine .skip ?_
   refine hK8 _ _ (.seq (fun K10 hK10 => .region ?_))
   refine .R rfl (.litA rfl sl_25_B ze_24_Hj rfl rfl rfl rfl) ?_
   rintro _ H32 ⟨g32, rfl, le32, ge32, at32⟩
   replace hle := hle.trans le32
   replace rk := rk.le le32
   replace a5 := le32.2 _ _ a5
   replace a2 := le32.2 _ _ a2
   have lt_at32 := GHeap.ltg at32
   replace hin := base_hin.mono hle
   clear hb2 c12 c22 i22 hi2
   have hb2 : Cat.At _ g2 0 c p := ⟨Mem.of_get a2, hin⟩
   refine .mv rfl (.mv rfl (.nil (hK10 _ _ (.seq (fun K11 hK11 => .seq (fun K12 hK12 => .region (.mv rfl (.nil (hK12 _ _ ?_)))))))))
   refine .block ?_
   refine .loopR (σ := Nat × (Nat → Option Addr) × Bool × Nat × Nat) [(1, some _), (2, some _), (5, some _), (6, some _), (27, some _), (28, some _), (29, some _), (30, some _)] (fun (k, ru, pb, gL7, nL7) => [(9, some (.int .i64 (k : Int))), (8, some (.bool pb)), (7, some (.slice (some ⟨gL7, 0, none⟩) nL7 nL7))]) (fun (k, ru, pb, gL7, nL7) H' => St [g32] H32 H' ∧ H'.get gL7 = some (.row ((slsL ru (clsU c.eqvB i T k))) 24 true) ∧ (gL7 = g32 ∨ H32.next ≤ gL7) ∧ nL7 = (slsL ru (clsU c.eqvB i T k)).length ∧ k ≤ T.length ∧ OwnL HL1.next H' 2 ru (clsU c.eqvB i T k) ∧ pb = clsP c.eqvB i T k) (fun (k, ru, pb, gL7, nL7) => T.length - k) ((0, fun _ => none, false, _, _)) ⟨rfl, rfl, rfl, rfl, rfl, rfl, rfl, rfl, trivial⟩ ⟨rfl, rfl, rfl, trivial⟩ ?_ ?_
   ·
    refine ⟨.refl _ _, by assumption, .inl rfl, by rfl, ?_⟩
    exact ⟨by omega, .nil _ _ _ _, rfl⟩
   rintro ⟨k, ru, pb, gL7, nL7⟩ HL2 ⟨lst2, at_L7, pl_L7, ln_L7, hI⟩ KL2 hKL2
   refine .forget (fr' := [(9, some (.int .i64 (k : Int))), (8, some (.bool pb)), (7, some (.slice (some ⟨gL7, 0, none⟩) nL7 nL7)), (1, some _), (2, some _), (5, some _), (6, some _), (27, some _), (28, some _), (29, some _), (30, some _)]) ⟨rfl, rfl, rfl, rfl, rfl, rfl, rfl, rfl, rfl, rfl, rfl, trivial⟩ ?_
   have ge_L7 : H.next ≤ gL7 := by omega
   have nx_HL2 := lst2.nx
   replace hle := hle.st lst2 (fun k hk => ⟨by omega, trivial⟩)
   replace rk := rk.sA lst2
   replace a5 := lst2.s a5
   replace a2 := lst2.s a2
   have lt_at_L7 := GHeap.ltg at_L7
   replace hin := base_hin.mono hle
   clear hb2
   have hb2 : Cat.At _ g2 0 c p := ⟨Mem.of_get a2, hin⟩
   have rk2 := St.refl [gL7] HL2
   obtain ⟨hk, hRu, hpb⟩ := hI
   have hat7 := at_L7
   have hul := length_clsU (E := c.eqvB) (m := i) hk
   have hfu : (slsL ru (clsU c.eqvB i T k)).length = (clsU c.eqvB i T k).length := length_slsL _ _
   refine .seq (fun K13 hK13 => .seq (fun K14 hK14 => .region (.mv rfl (.mv rfl (.q rfl (.len sl_25_B rfl) (.q rfl (.cmp rfl rfl rfl) (.nil (hK14 _ _ ?_))))))))
   refine .cond rfl (fun h36 => ?_) (fun h36 => ?_)
   ·
    simp only [sps] at h36
    have hRk := hR.st rk (.nil _ _)
    obtain ⟨gi, hgi, hbi, hati⟩ := hRk.row k (by omega)
    have cC := slsL_cell a5 (i := k) (by omega)
    rw [hgi] at cC
    have hne := hok.ne k (by omega)
    have hrw := totN_row (T := T) (i := k) (by omega)
    obtain ⟨p0, p1, -, -⟩ := hok.hd (i := k) (by omega)
    refine .skip ?_
    refine hK13 _ _ (.seq (fun K15 hK15 => ?_))
    refine .block ?_
    refine .seq (fun K16 hK16 => .region (.mv rfl (.mv rfl ?_)))
    refine .q rfl (.idxN sl_25_B (by first | exact (Intss.sl (by assumption)) | exact SlA.of_row a5 (by first | rfl | (simp; done) | (simp <;> omega))) rfl rfl (by omega)) ?_
    refine .q rfl (.load on_24_B rfl cC) ?_
    have lt_hati := GHeap.ltg hati
    refine .call rfl rfl rfl rfl @Try.call102 rfl (l01Own_c (h := Ints.of_get hati)) ?_
    rintro _ H43 ⟨le43, g43, rfl, at43, ge43⟩
    have nx_H43 := le43.1
    replace hle := hle.trans le43
    replace lst2 := lst2.le le43
    replace rk2 := rk2.le le43
    replace a2 := le43.2 _ _ a2
    replace at_L7 := le43.2 _ _ at_L7
    have lt_at43 := GHeap.ltg at43
    replace hin := base_hin.mono hle
    clear hb2
    have hb2 : Cat.At _ g2 0 c p := ⟨Mem.of_get a2, hin⟩
    have hi2 := hb2.2
    have i43 := Ints.of_get at43
    refine .mv rfl (.nil (hK16 _ _ (.seq (fun K17 hK17 => .seq (fun K18 hK18 => ?_)))))
    refine .regionD mo_B (.q 0 (.q 1 (.q 2 (.q 3 (.q 4 (.c 5 0 (.q 6 (.q 7 (.q 8 (.q 9 (.q 10 (.q 11 (.c 12 0 (.q 13 (.done))))))))))))))) (by kernel_rfl) ?_
    refine .cut [(1, some _), (2, some _), (5, some _), (6, some _), (7, some _), (8, some _), (9, some _), (10, some _), (27, some _), (28, some _), (29, some _), (30, some _), (33, some _), (34, some _), (35, some _), (36, some _), (39, some _), (40, some _), (41, some _), (42, some _), (43, some _)] ⟨rfl, rfl, rfl, rfl, rfl, rfl, rfl, rfl, rfl, rfl, rfl, rfl, rfl, rfl, rfl, rfl, rfl, rfl, rfl, rfl, rfl, trivial⟩ (fun rest fr' H' => ∃ e : Bool, Sub ((57, some (.bool e)) :: rest) fr' ∧ H43 = H' ∧ e = c.eqvB i (hd (T.getD k []))) ?_ ?_
    ·
     refine .q rfl (.loadM ag_27_D rfl ⟨rfl, Mem.of_get a2⟩) ?_
     refine .mv rfl rfl (.mv rfl rfl ?_)
     refine .q rfl (.idxN (j := 0) sl_24_A (by first | assumption | exact SlA.of_row at43 (by first | rfl | (simp; done) | (simp <;> omega))) rfl rfl (by omega)) ?_
     refine .q rfl (.loadI on_2_A (by first | assumption | exact Ints.of_get at43) rfl (by omega)) ?_
     refine .callQ0 rfl rfl rfl rfl rfl @Try.call103 rfl (l05Below_c) ?_
     refine .mv rfl rfl ?_
     refine .split (fun h50 => ?_) (fun h50 => ?_)
     ·
      try simp only [sps] at h50
      refine .qg rfl (.loadM ag_27_D rfl ⟨rfl, Mem.of_get a2⟩) ?_
      refine .qg rfl (.move rfl) ?_
      refine .qg rfl (.idxN (j := 0) sl_24_A (by first | assumption | exact SlA.of_row at43 (by first | rfl | (simp; done) | (simp <;> omega))) rfl rfl (by omega)) ?_
      refine .qg rfl (.loadI on_2_A (by first | assumption | exact Ints.of_get at43) rfl (by omega)) ?_
      refine .qg rfl (.move rfl) ?_
      refine .callQ0g rfl rfl rfl rfl rfl rfl rfl @Try.call103 rfl (l05Below_c) ?_
      refine .q rfl (.pickT rfl rfl) ?_
      refine .done ?_
      refine ⟨_, ⟨rfl, rfl, rfl, rfl, rfl, rfl, rfl, rfl, rfl, rfl, rfl, rfl, rfl, rfl, rfl, rfl, rfl, rfl, rfl, rfl, rfl, rfl, trivial⟩, rfl, ?_⟩
      unfold Cat.eqvB; rw [h50, Bool.true_and]
     try simp only [sps] at h50
     refine .z rfl (.z rfl (.z rfl (.z rfl (.z rfl (.sgc rfl rfl rfl rfl rfl rfl (.q rfl (.pickF rfl rfl) ?_))))))
     refine .done ?_
     refine ⟨_, ⟨rfl, rfl, rfl, rfl, rfl, rfl, rfl, rfl, rfl, rfl, rfl, rfl, rfl, rfl, rfl, rfl, rfl, rfl, rfl, rfl, rfl, rfl, trivial⟩, rfl, ?_⟩
     unfold Cat.eqvB; rw [h50, Bool.false_and]
    rintro frJ11 _ ⟨e, hsubJ11, rfl, hJ11⟩
    refine hK18 _ _ ?_
    refine .forget hsubJ11 ?_
    refine .cond rfl (fun h57 => ?_) (fun h57 => ?_)
    ·
     have hE := hJ11.symm.trans h57
     have hfy : clsF c.eqvB i (T.getD k []) = T.getD k [] ++ [(i : Int)] := clsF_T hE
     refine .seq (fun K19 hK19 => .region (.mv rfl (.mv rfl ?_)))
     refine .R rfl (.litA rfl sl_24_A ze_2_L rfl rfl rfl rfl) ?_
     rintro _ H60 ⟨g60, rfl, le60, ge60, at60⟩
     replace hle := hle.trans le60
     replace lst2 := lst2.le le60
     replace rk2 := rk2.le le60
     replace a2 := le60.2 _ _ a2
     replace at_L7 := le60.2 _ _ at_L7
     replace at43 := le60.2 _ _ at43
     have lt_at60 := GHeap.ltg at60
     replace hin := base_hin.mono hle
     clear hb2 hi2
     have hb2 : Cat.At _ g2 0 c p := ⟨Mem.of_get a2, hin⟩
     clear i43
     refine .R rfl (.appendI rfl sl_24_A ze_2_L rfl by_2_L sl_24_A rfl rfl (by assumption) (by assumption) (by first | omega | (simp <;> omega)) (by omega) (by omega)) ?_
     rintro _ H61 ⟨g61, rfl, st61, ge61, at61⟩
     have nx_H61 := st61.nx
     replace hle := hle.st st61 (fun k hk => ⟨by omega, trivial⟩)
     replace lst2 := lst2.sA st61
     replace rk2 := rk2.sA st61
     replace a2 := st61.s a2
     replace at_L7 := st61.s at_L7
     replace hin := base_hin.mono hle
     clear hb2
     have hb2 : Cat.At _ g2 0 c p := ⟨Mem.of_get a2, hin⟩
     obtain ⟨gy, hgy⟩ : ∃ g, g = g61 := ⟨_, rfl⟩
     refine .mv rfl (.nil (hK19 _ _ (.region (.mv rfl (.nil (hK17 _ _ (.region (.mv rfl (.mv rfl ?_)))))))))
     refine .R rfl (.litA rfl sl_25_B ze_24_Hj rfl rfl rfl rfl) ?_
     rintro _ H64 ⟨g64, rfl, le64, ge64, at64⟩
     replace hle := hle.trans le64
     replace lst2 := lst2.le le64
     replace rk2 := rk2.le le64
     replace a2 := le64.2 _ _ a2
     replace at_L7 := le64.2 _ _ at_L7
     replace at61 := le64.2 _ _ at61
     have lt_at64 := GHeap.ltg at64
     replace hin := base_hin.mono hle
     clear hb2
     have hb2 : Cat.At _ g2 0 c p := ⟨Mem.of_get a2, hin⟩
     refine .R rfl (.appendV rfl sl_25_B ze_24_Hj rfl by_24_Hj sl_25_B rfl rfl (by assumption) (by assumption) (by first | omega | (simp <;> omega)) rfl rfl (by omega) (by omega)) ?_
     rintro _ H65 ⟨g65, rfl, st65, ge65, at65⟩
     replace hle := hle.st st65 (fun k hk => ⟨by omega, trivial⟩)
     replace lst2 := lst2.sA st65
     replace rk2 := rk2.sA st65
     have ne_g2_gL7 : NE g2 gL7 := .a
     replace a2 := st65.s a2 ne_g2_gL7.ne
     replace at61 := st65.s at61
     replace hin := base_hin.mono hle
     clear hb2
     have hb2 : Cat.At _ g2 0 c p := ⟨Mem.of_get a2, hin⟩
     have hs1 := clsU_succ (E := c.eqvB) (m := i) (T := T) (k := k) (by omega)
     obtain ⟨ruN, hruN⟩ : ∃ r, r = upd ru (clsU c.eqvB i T k).length (some ⟨gy, 0, none⟩) := ⟨_, rfl⟩
     have hrow : GHeap.get H65 gy = some (.row (ints (clsF c.eqvB i (T.getD k []))) 2 true) := by
       rw [hgy, hfy]
       first | exact at61 | exact at43
     have hRuN := (hRu.st rk2 (.cons (hRu.neT hat7 rfl) (.nil _ _))).snoc2 hrow (hRu.ne (by omega)) (by omega)
     rw [← hruN, ← hs1] at hRuN
     have atN : GHeap.get H65 g65 = some (.row (slsL ru (clsU c.eqvB i T k) ++ [.slice (some ⟨gy, 0, none⟩) (clsF c.eqvB i (T.getD k [])).length (clsF c.eqvB i (T.getD k [])).length]) 24 true) := by
       rw [hgy, hfy]
       first | exact at65 | (rw [List.length_append, List.length_singleton]; exact at65)
     have hsn := slsL_snoc (r := ru) (xss := clsU c.eqvB i T k) (x := clsF c.eqvB i (T.getD k [])) (a := some ⟨gy, 0, none⟩)
     rw [← hruN, ← hs1] at hsn
     rw [← hsn] at atN
     have hfN : (slsL ruN (clsU c.eqvB i T (k + 1))).length = k + 1 := by rw [length_slsL, length_clsU (by omega)]
     refine .mv rfl (.nil (hK15 _ _ (.region (.mv rfl ?_))))
     refine .q rfl (.add rfl rfl rfl (by omega) (by omega)) ?_
     refine .mv rfl (.nil ?_)
     refine hKL2 ((k + 1, ruN, _, _, _)) _ _ ?_ ?_ ⟨rfl, rfl, rfl, rfl, rfl, rfl, rfl, rfl, rfl, rfl, rfl, trivial⟩
     ·
      refine ⟨lst2, by assumption, by omega, by omega, ?_⟩
      exact ⟨by omega, hRuN, by
      rw [clsP_succ (by omega), hE]
      first | rw [Bool.or_true] | (rw [Bool.or_false]; exact hpb)⟩
     (dsimp only; omega)
    have hE := hJ11.symm.trans h57
    have hfy : clsF c.eqvB i (T.getD k []) = T.getD k [] := clsF_F hE
    obtain ⟨gy, hgy⟩ : ∃ g, g = g43 := ⟨_, rfl⟩
    refine .skip ?_
    refine hK17 _ _ (.region (.mv rfl (.mv rfl ?_)))
    refine .R rfl (.litA rfl sl_25_B ze_24_Hj rfl rfl rfl rfl) ?_
    rintro _ H64x2 ⟨g64x2, rfl, le64x2, ge64x2, at64x2⟩
    replace hle := hle.trans le64x2
    replace lst2 := lst2.le le64x2
    replace rk2 := rk2.le le64x2
    replace a2 := le64x2.2 _ _ a2
    replace at_L7 := le64x2.2 _ _ at_L7
    replace at43 := le64x2.2 _ _ at43
    have lt_at64x2 := GHeap.ltg at64x2
    replace hin := base_hin.mono hle
    have hb2 : Cat.At _ g2 0 c p := ⟨Mem.of_get a2, hin⟩
    refine .R rfl (.appendV rfl sl_25_B ze_24_Hj rfl by_24_Hj sl_25_B rfl rfl (by assumption) (by assumption) (by first | omega | (simp <;> omega)) rfl rfl (by omega) (by omega)) ?_
    rintro _ H65x2 ⟨g65x2, rfl, st65x2, ge65x2, at65x2⟩
    replace hle := hle.st st65x2 (fun k hk => ⟨by omega, trivial⟩)
    replace lst2 := lst2.sA st65x2
    replace rk2 := rk2.sA st65x2
    have ne_g2_gL7 : NE g2 gL7 := .a
    replace a2 := st65x2.s a2 ne_g2_gL7.ne
    replace at43 := st65x2.s at43
    replace hin := base_hin.mono hle
    clear hb2
    have hb2 : Cat.At _ g2 0 c p := ⟨Mem.of_get a2, hin⟩
    have hs1 := clsU_succ (E := c.eqvB) (m := i) (T := T) (k := k) (by omega)
    obtain ⟨ruN, hruN⟩ : ∃ r, r = upd ru (clsU c.eqvB i T k).length (some ⟨gy, 0, none⟩) := ⟨_, rfl⟩
    have hrow : GHeap.get H65x2 gy = some (.row (ints (clsF c.eqvB i (T.getD k []))) 2 true) := by
      rw [hgy, hfy]
      first | exact at61 | exact at43
    have hRuN := (hRu.st rk2 (.cons (hRu.neT hat7 rfl) (.nil _ _))).snoc2 hrow (hRu.ne (by omega)) (by omega)
    rw [← hruN, ← hs1] at hRuN
    have atN : GHeap.get H65x2 g65x2 = some (.row (slsL ru (clsU c.eqvB i T k) ++ [.slice (some ⟨gy, 0, none⟩) (clsF c.eqvB i (T.getD k [])).length (clsF c.eqvB i (T.getD k [])).length]) 24 true) := by
      rw [hgy, hfy]
      first | exact at65x2 | (rw [List.length_append, List.length_singleton]; exact at65x2)
    have hsn := slsL_snoc (r := ru) (xss := clsU c.eqvB i T k) (x := clsF c.eqvB i (T.getD k [])) (a := some ⟨gy, 0, none⟩)
    rw [← hruN, ← hs1] at hsn
    rw [← hsn] at atN
    have hfN : (slsL ruN (clsU c.eqvB i T (k + 1))).length = k + 1 := by rw [length_slsL, length_clsU (by omega)]
    refine .mv rfl (.nil (hK15 _ _ (.region (.mv rfl ?_))))
    refine .q rfl (.add rfl rfl rfl (by omega) (by omega)) ?_
    refine .mv rfl (.nil ?_)
    refine hKL2 ((k + 1, ruN, _, _, _)) _ _ ?_ ?_ ⟨rfl, rfl, rfl, rfl, rfl, rfl, rfl, rfl, rfl, rfl, rfl, trivial⟩
    ·
     refine ⟨lst2, by assumption, by omega, by omega, ?_⟩
     exact ⟨by omega, hRuN, by
     rw [clsP_succ (by omega), hE]
     first | rw [Bool.or_true] | (rw [Bool.or_false]; exact hpb)⟩
    (dsimp only; omega)
   try simp only [sps] at h36
   refine .exit ?_
   refine hK11 _ _ (.seq (fun K20 hK20 => .seq (fun K21 hK21 => .region ?_)))
   obtain rfl : k = T.length := by omega
   have rk3 := St.refl [gL7] HL2
   refine .mv rfl (.q rfl (.not rfl) (.nil (hK21 _ _ ?_)))
   refine .cond rfl (fun h67 => ?_) (fun h67 => ?_)
   ·
    have hpF : clsP c.eqvB i T T.length = false := by rw [← hpb]; simpa using h67
    have hfin := hTN.trans (clsU_none hpF)
    refine .region (.mv rfl (.mv rfl ?_))
    refine .R rfl (.litA rfl sl_24_A ze_2_L rfl rfl rfl rfl) ?_
    rintro _ H70 ⟨g70, rfl, le70, ge70, at70⟩
    replace hle := hle.trans le70
    replace rk3 := rk3.le le70
    replace a2 := le70.2 _ _ a2
    replace at_L7 := le70.2 _ _ at_L7
    have lt_at70 := GHeap.ltg at70
    replace hin := base_hin.mono hle
    have hb2 : Cat.At _ g2 0 c p := ⟨Mem.of_get a2, hin⟩
    refine .R rfl (.litA rfl sl_25_B ze_24_Hj rfl rfl rfl rfl) ?_
    rintro _ H71 ⟨g71, rfl, le71, ge71, at71⟩
    replace hle := hle.trans le71
    replace rk3 := rk3.le le71
    replace a2 := le71.2 _ _ a2
    replace at_L7 := le71.2 _ _ at_L7
    replace at70 := le71.2 _ _ at70
    have lt_at71 := GHeap.ltg at71
    replace hin := base_hin.mono hle
    clear hb2
    have hb2 : Cat.At _ g2 0 c p := ⟨Mem.of_get a2, hin⟩
    refine .R rfl (.appendV rfl sl_25_B ze_24_Hj rfl by_24_Hj sl_25_B rfl rfl (by assumption) (by assumption) (by first | omega | (simp <;> omega)) rfl rfl (by omega) (by omega)) ?_
    rintro _ H72 ⟨g72, rfl, st72, ge72, at72⟩
    replace hle := hle.st st72 (fun k hk => ⟨by omega, trivial⟩)
    replace rk3 := rk3.sA st72
    have ne_g2_gL7 : NE g2 gL7 := .a
    replace a2 := st72.s a2 ne_g2_gL7.ne
    replace at70 := st72.s at70
    replace hin := base_hin.mono hle
    clear hb2
    have hb2 : Cat.At _ g2 0 c p := ⟨Mem.of_get a2, hin⟩
    obtain ⟨rN, hrN⟩ : ∃ r, r = upd ru (clsU c.eqvB i T T.length).length (some ⟨g70, 0, none⟩) := ⟨_, rfl⟩
    have hRN := ((hRu.st rk3 (.cons (hRu.neT hat7 rfl) (.nil _ _))).snoc2 (g := g70) (x := [(i : Int)]) at70 (hRu.ne (by omega)) (by omega)).low (b' := H.next) (by omega)
    rw [← hrN, ← hfin] at hRN
    have hsn := slsL_snoc (r := ru) (xss := clsU c.eqvB i T T.length) (x := [(i : Int)]) (a := some ⟨g70, 0, none⟩)
    rw [← hrN, ← hfin] at hsn
    have atN : GHeap.get H72 g72 = some (.row (slsL ru (clsU c.eqvB i T T.length) ++ [.slice (some ⟨g70, 0, none⟩) [(i : Int)].length [(i : Int)].length]) 24 true) := at72
    rw [← hsn] at atN
    have hnN : nL7 + 1 = (clsOf c.eqvB (c.toL x (i + 1))).length := by rw [hfin, List.length_append, List.length_singleton]; omega
    refine .mv rfl (.nil (hK20 _ _ (.region (.mv rfl (.mv rfl (.nil (hK7 _ _ (.region (.mv rfl ?_)))))))))
    refine .q rfl (.add rfl rfl rfl (by omega) (by omega)) ?_
    refine .mv rfl (.nil ?_)
    refine hKL1 ((i + 1, _, _, rN)) _ _ ?_ ?_ ⟨rfl, rfl, rfl, rfl, trivial⟩
    ·
     exact ⟨⟨by omega, by omega, hnN⟩, ⟨hle, by assumption, by omega, hRN⟩, by assumption⟩
    (dsimp only; omega)
   have hpF : clsP c.eqvB i T T.length = true := by rw [← hpb]; simpa using h67
   have hfin := hTN.trans (clsU_all hpF)
   obtain ⟨rN, hrN⟩ : ∃ r, r = ru := ⟨_, rfl⟩
   have hRN : OwnL H.next HL2 2 rN (clsOf c.eqvB (c.toL x (i + 1))) := by rw [hfin, hrN]; exact hRu.low (by have := hle.1; omega)
   have a5N : HL2.get gL7 = some (.row (slsL rN (clsOf c.eqvB (c.toL x (i + 1)))) 24 true) := by rw [hfin, hrN]; exact at_L7
   have hnN : nL7 = (clsOf c.eqvB (c.toL x (i + 1))).length := by rw [hfin]; omega
   refine .skip ?_
   refine hK20 _ _ (.region (.mv rfl (.mv rfl (.nil (hK7 _ _ (.region (.mv rfl ?_)))))))
   refine .q rfl (.add rfl rfl rfl (by omega) (by omega)) ?_
   refine .mv rfl (.nil ?_)
   refine hKL1 ((i + 1, _, _, rN)) _ _ ?_ ?_ ⟨rfl, rfl, rfl, rfl, trivial⟩
   ·
    exact ⟨⟨by omega, by omega, hnN⟩, ⟨hle, by assumption, by omega, hRN⟩, by assumption⟩
   (dsimp only; omega)
  try simp only [sps] at h16
  refine .exit ?_
  refine hK3 _ _ (.seq (fun K22 hK22 => .region (.mv rfl (.mv rfl (.nil (hK22 _ _ ?_))))))
  refine .ret ?_
  refine hret _ _ ?_
  refine ⟨_, rfl, ?_⟩
  obtain rfl : i = c.src.length := by omega
  obtain rfl := hnV
  have hsub : T = c.subs x := hT
  subst hsub
  exact ⟨hle, some ⟨gV, 0, none⟩, rr, rfl, hR.done a5 b5⟩
theorem specSubobjectsOf_c {c : Cat} {p : CatP} {x : Int} {H : GHeap} (hin : c.In H p := by assumption) (hs : c.Small := by assumption) :
    GCalls Try.prog 39 [.agg (c.cells p).toArray, .int .i64 x] H (NewLLC (c.codeO [x]) (codeLL (c.codeO [x]) (c.subs x)) H) := by
  refine GCalls.body (N := 18) (rs := [.tmp 4, .tmp 5]) Try.func39 rfl rfl rfl rfl (fun Qx hret hend => ?_)
  refine .fg [0, 1] rfl ?_
  have hle := GHeap.Le.refl H
  have base_hin := hin
  refine .seq (fun K1 hK1 => .region ?_)
  refine .R rfl (.boxR rfl sz_27_D rfl) ?_
  rintro _ H2 ⟨g2, rfl, le2, ge2, at2⟩
  have nx_H2 := le2.1
  replace hle := hle.trans le2
  replace hin := base_hin.mono hle
  have hb2 : Cat.At _ g2 0 c p := ⟨Mem.of_get at2, hin⟩
  have hi2 := hb2.2
  refine .mv rfl (.mv rfl (.nil (hK1 _ _ (.seq (fun K2 hK2 => ?_)))))
  refine .block ?_
  refine .seq (fun K3 hK3 => .region ?_)
  refine .q rfl (.loadM ag_27_D rfl ⟨rfl, Mem.of_get at2⟩) ?_
  refine .callQ rfl rfl rfl rfl @Try.call64 rfl (l02Is_c) ?_
  refine .q rfl (.not rfl) (.mv rfl (.nil (hK3 _ _ ?_)))
  refine .cond rfl (fun h6 => ?_) (fun h6 => ?_)
  ·
   try simp only [sps] at h6
   refine .seq (fun K4 hK4 => .region (.mv rfl (.mv rfl (.nil (hK4 _ _ ?_)))))
   refine .ret ?_
   refine hret _ _ ?_
   refine ⟨_, _, rfl, rfl, ?_⟩
   first
   | (rw [codeLL_err (by rw [Cat.codeO_not (by assumption)]; decide), Cat.codeO_not (by assumption)]; exact ⟨hle, none, fun _ => none, rfl, .nil _ _ _⟩)
   | (have hko : c.codeO [x] = 2 := Cat.codeO_out (by assumption) (by rw [allIn_one]; assumption); rw [codeLL_err (by rw [hko]; decide), hko]; exact ⟨hle, none, fun _ => none, rfl, .nil _ _ _⟩)
   | (have hko : c.codeO [x] = 0 := Cat.codeO_one.2 ⟨by assumption, by assumption⟩; rw [codeLL_ok hko, hko]; exact ⟨hle, a17, r17, rfl, v17.keep (.of_le (.refl _)) (by omega)⟩)
  try simp only [sps] at h6
  refine .seq (fun K5 hK5 => .region ?_)
  refine .q rfl (.loadM ag_27_D rfl ⟨rfl, Mem.of_get at2⟩) ?_
  refine .mv rfl ?_
  refine .callQ rfl rfl rfl rfl @Try.call75 rfl (l02Object_c) ?_
  refine .q rfl (.not rfl) (.mv rfl (.nil (hK5 _ _ ?_)))
  refine .cond rfl (fun h10 => ?_) (fun h10 => ?_)
  ·
   try simp only [sps] at h10
   refine .seq (fun K6 hK6 => .region (.mv rfl (.mv rfl (.nil (hK6 _ _ ?_)))))
   refine .ret ?_
   refine hret _ _ ?_
   refine ⟨_, _, rfl, rfl, ?_⟩
   first
   | (rw [codeLL_err (by rw [Cat.codeO_not (by assumption)]; decide), Cat.codeO_not (by assumption)]; exact ⟨hle, none, fun _ => none, rfl, .nil _ _ _⟩)
   | (have hko : c.codeO [x] = 2 := Cat.codeO_out (by assumption) (by rw [allIn_one]; assumption); rw [codeLL_err (by rw [hko]; decide), hko]; exact ⟨hle, none, fun _ => none, rfl, .nil _ _ _⟩)
   | (have hko : c.codeO [x] = 0 := Cat.codeO_one.2 ⟨by assumption, by assumption⟩; rw [codeLL_ok hko, hko]; exact ⟨hle, a17, r17, rfl, v17.keep (.of_le (.refl _)) (by omega)⟩)
  try simp only [sps] at h10
  refine .skip ?_
  refine hK2 _ _ (.seq (fun K7 hK7 => .region ?_))
  refine .q rfl (.loadM ag_27_D rfl ⟨rfl, Mem.of_get at2⟩) ?_
  refine .mv rfl ?_
  refine .call rfl rfl rfl rfl @Try.call76 rfl (l05Subobjects_c) ?_
  rintro _ H17 ⟨le17, a17, r17, rfl, v17⟩
  replace hle := hle.trans le17
  replace at2 := le17.2 _ _ at2
  replace hin := base_hin.mono hle
  clear hb2 hi2
  have hb2 : Cat.At _ g2 0 c p := ⟨Mem.of_get at2, hin⟩
  refine .mv rfl (.mv rfl (.nil (hK7 _ _ ?_)))
  refine .ret ?_
  refine hret _ _ ?_
  refine ⟨_, _, rfl, rfl, ?_⟩
  first
  | (rw [codeLL_err (by rw [Cat.codeO_not (by assumption)]; decide), Cat.codeO_not (by assumption)]; exact ⟨hle, none, fun _ => none, rfl, .nil _ _ _⟩)
  | (have hko : c.codeO [x] = 2 := Cat.codeO_out (by assumption) (by rw [allIn_one]; assumption); rw [codeLL_err (by rw [hko]; decide), hko]; exact ⟨hle, none, fun _ => none, rfl, .nil _ _ _⟩)
  | (have hko : c.codeO [x] = 0 := Cat.codeO_one.2 ⟨by assumption, by assumption⟩; rw [codeLL_ok hko, hko]; exact ⟨hle, a17, r17, rfl, v17.keep (.of_le (.refl _)) (by omega)⟩)
theorem und_arr5 : Try.prog.underlying 83 = some (.array 5 4) := by kernel_rfl
set_option maxHeartbeats 4000000 in
theorem arrowKinds_c {c : Cat} {p : CatP} {H : GHeap} (hin : c.In H p := by assumption) (hs : c.Small := by assumption) :
    GCalls Try.prog 41 [.agg (c.cells p).toArray] H (NewLC (c.code []) (codeL (c.code []) c.kinds) H) := by
  refine GCalls.body (N := 53) (rs := [.tmp 2, .tmp 3]) Try.func41 rfl rfl rfl rfl (fun Qx hret hend => ?_)
  refine .fg [0] rfl ?_
  have hle := GHeap.Le.refl H
  have base_hin := hin
  refine .seq (fun K1 hK1 => .region ?_)
  refine .R rfl (.boxR rfl sz_27_D rfl) ?_
  rintro _ H1 ⟨g1, rfl, le1, ge1, at1⟩
  replace hle := hle.trans le1
  have lt_at1 := GHeap.ltg at1
  replace hin := base_hin.mono hle
  have hb1 : Cat.At _ g1 0 c p := ⟨Mem.of_get at1, hin⟩
  refine .mv rfl (.mv rfl (.nil (hK1 _ _ (.seq (fun K2 hK2 => .seq (fun K3 hK3 => .region ?_))))))
  refine .callQ rfl rfl rfl rfl @Try.call61 rfl (isCategory_c) ?_
  refine .q rfl (.not rfl) (.nil (hK3 _ _ ?_))
  refine .cond rfl (fun h11 => ?_) (fun h11 => ?_)
  ·
   try simp only [sps] at h11
   refine .seq (fun K4 hK4 => .region (.mv rfl (.mv rfl (.nil (hK4 _ _ ?_)))))
   refine .ret ?_
   refine hret _ _ ?_
   refine ⟨_, _, rfl, rfl, ?_⟩
   rw [codeL_err (by rw [Cat.code_nil1 h11]; decide), Cat.code_nil1 h11]; exact ⟨hle, none, rfl, .inl ⟨rfl, rfl⟩⟩
  simp only [sps] at h11
  have hS := h11.1
  have q1 := hS.n40
  refine .skip ?_
  refine hK2 _ _ (.seq (fun K5 hK5 => .region ?_))
  refine .callQ rfl rfl rfl rfl @Try.call77 rfl (arrows_c) ?_
  refine .R rfl (.makeIN rfl sl_24_A ze_2_L by_2_L rfl rfl (by omega) (by omega) (by omega)) ?_
  rintro _ H13 ⟨g13, rfl, le13, ge13, at13⟩
  replace hle := hle.trans le13
  replace at1 := le13.2 _ _ at1
  replace hin := base_hin.mono hle
  clear hb1
  have hb1 : Cat.At _ g1 0 c p := ⟨Mem.of_get at1, hin⟩
  refine .mv rfl (.nil (hK5 _ _ (.seq (fun K6 hK6 => .seq (fun K7 hK7 => .region (.mv rfl (.q rfl (.len sl_24_A rfl) (.mv rfl (.nil (hK7 _ _ ?_))))))))))
  refine .block ?_
  refine .loopR (σ := Nat) [(1, some _), (4, some _), (15, some _)] (fun i => [(16, some (.int .i64 (i : Int)))]) (fun i H' => St [g13] H13 H' ∧ H'.get g13 = some (.row (ints (part0 c.src.length c.kind i)) 2 true) ∧ i ≤ c.src.length) (fun i => c.src.length - i) (0) ⟨rfl, rfl, rfl, trivial⟩ ⟨rfl, trivial⟩ ?_ ?_
  ·
   refine ⟨.refl _ _, by (rw [part0_zero]; simpa using at13), ?_⟩
   omega
  rintro i HL1 ⟨lst1, at_L4, hI⟩ KL1 hKL1
  refine .forget (fr' := [(16, some (.int .i64 (i : Int))), (1, some _), (4, some _), (15, some _)]) ⟨rfl, rfl, rfl, rfl, trivial⟩ ?_
  have nx_HL1 := lst1.nx
  replace hle := hle.st lst1 (fun k hk => ⟨by omega, trivial⟩)
  have ne_g1_g13 : NE g1 g13 := .a
  replace at1 := lst1.s at1 ne_g1_g13.ne
  have lt_at_L4 := GHeap.ltg at_L4
  replace hin := base_hin.mono hle
  clear hb1
  have hb1 : Cat.At _ g1 0 c p := ⟨Mem.of_get at1, hin⟩
  refine .seq (fun K8 hK8 => .region (.q rfl (.cmp rfl rfl rfl) (.nil (hK8 _ _ (.seq (fun K9 hK9 => ?_))))))
  refine .cond rfl (fun h17 => ?_) (fun h17 => ?_)
  ·
   simp only [sps, length_part0, List.length_replicate] at h17
   refine .skip ?_
   refine hK9 _ _ (.seq (fun K10 hK10 => ?_))
   refine .block ?_
   refine .seq (fun K11 hK11 => .region (.mv rfl (.mv rfl (.nil (hK11 _ _ (.seq (fun K12 hK12 => .region (.mv rfl (.mv rfl (.nil (hK12 _ _ (.seq (fun K13 hK13 => .region (.mv rfl ?_))))))))))))))
   refine .callQ rfl rfl rfl rfl @Try.call59 rfl (isMono_c) ?_
   refine .mv rfl ?_
   refine .callQ rfl rfl rfl rfl @Try.call63 rfl (isEpi_c) ?_
   refine .mv rfl ?_
   refine .call rfl rfl rfl rfl @Try.call57 rfl (retractions_c) ?_
   rintro _ H25 ⟨le25, g25, rfl, at25, ge25⟩
   replace hle := hle.trans le25
   replace lst1 := lst1.le le25
   replace at1 := le25.2 _ _ at1
   replace at_L4 := le25.2 _ _ at_L4
   have lt_at25 := GHeap.ltg at25
   replace hin := base_hin.mono hle
   clear hb1
   have hb1 : Cat.At _ g1 0 c p := ⟨Mem.of_get at1, hin⟩
   refine .q rfl (.len sl_24_A rfl) (.q rfl (.cmp rfl rfl rfl) (.mv rfl ?_))
   refine .call rfl rfl rfl rfl @Try.call58 rfl (sections_c) ?_
   rintro _ H29 ⟨le29, g29, rfl, at29, ge29⟩
   replace hle := hle.trans le29
   replace lst1 := lst1.le le29
   replace at1 := le29.2 _ _ at1
   replace at_L4 := le29.2 _ _ at_L4
   have lt_at29 := GHeap.ltg at29
   replace hin := base_hin.mono hle
   clear hb1
   have hb1 : Cat.At _ g1 0 c p := ⟨Mem.of_get at1, hin⟩
   refine .q rfl (.len sl_24_A rfl) (.q rfl (.cmp rfl rfl rfl) (.mv rfl ?_))
   refine .callQ rfl rfl rfl rfl @Try.call55 rfl (inverse_c) ?_
   refine .q rfl (.cmp rfl rfl rfl) (.q rfl (.buildA bta_83_Fs rfl rfl rfl) ?_)
   refine .R rfl (.allocR rfl ze_83_Fs rfl) ?_
   rintro _ H7 ⟨g7, rfl, le7, ge7, at7⟩
   replace hle := hle.trans le7
   replace lst1 := lst1.le le7
   replace at1 := le7.2 _ _ at1
   replace at_L4 := le7.2 _ _ at_L4
   replace hin := base_hin.mono hle
   clear hb1
   have hb1 : Cat.At _ g1 0 c p := ⟨Mem.of_get at1, hin⟩
   refine .r0 rfl rfl (.fillA rfl sz_83_Fs rfl rfl rfl rfl) ?_
   rintro _ H8017 ⟨rfl, st8017, at8017⟩
   replace hle := hle.st st8017 (fun k hk => ⟨by omega, trivial⟩)
   replace lst1 := lst1.sA st8017
   replace at1 := st8017.s at1
   replace at_L4 := st8017.s at_L4
   replace hin := base_hin.mono hle
   clear hb1
   have hb1 : Cat.At _ g1 0 c p := ⟨Mem.of_get at1, hin⟩
   refine .nil (hK13 _ _ (.seq (fun K14 hK14 => .region ?_)))
   refine .q rfl (.loadM ag_83_Fs rfl ⟨rfl, Mem.of_get at8017⟩) ?_
   refine .mv rfl (.nil (hK14 _ _ ?_))
   refine .block ?_
   refine .loopR (σ := Nat) [(1, some _), (4, some _), (5, some _), (15, some _), (16, some _), (36, some _)] (fun k => [(37, some (.int .i64 (k : Int)))]) (fun k H' => St [g13] H8017 H' ∧ H'.get g13 = some (.row (ints ((part0 c.src.length c.kind i).set i (kpS (c.kbL i) k))) 2 true) ∧ k ≤ 5) (fun k => 5 - k) (0) ⟨rfl, rfl, rfl, rfl, rfl, rfl, trivial⟩ ⟨rfl, trivial⟩ ?_ ?_
   ·
    refine ⟨.refl _ _, by (rw [show kpS (c.kbL i) 0 = 0 from rfl, part0_cur (by omega)]; assumption), ?_⟩
    omega
   rintro k HL2 ⟨lst2, at_L4, hI⟩ KL2 hKL2
   refine .forget (fr' := [(37, some (.int .i64 (k : Int))), (1, some _), (4, some _), (5, some _), (15, some _), (16, some _), (36, some _)]) ⟨rfl, rfl, rfl, rfl, rfl, rfl, rfl, trivial⟩ ?_
   replace hle := hle.st lst2 (fun k hk => ⟨by omega, trivial⟩)
   replace lst1 := lst1.sA lst2
   replace at1 := lst2.s at1 ne_g1_g13.ne
   replace hin := base_hin.mono hle
   clear hb1
   have hb1 : Cat.At _ g1 0 c p := ⟨Mem.of_get at1, hin⟩
   have hbd := kpS_bd (c.kbL i) k hI
   have hpl : ((part0 c.src.length c.kind i).set i (kpS (c.kbL i) k)).length = c.src.length := by rw [List.length_set, length_part0]
   refine .seq (fun K15 hK15 => .region (.q rfl (.cmp rfl rfl rfl) (.nil (hK15 _ _ (.seq (fun K16 hK16 => ?_))))))
   refine .cond rfl (fun h38 => ?_) (fun h38 => ?_)
   ·
    simp only [sps] at h38
    have hp2 := pow5 (k := k) (by omega)
    refine .skip ?_
    refine hK16 _ _ (.seq (fun K17 hK17 => ?_))
    refine .block ?_
    refine .seq (fun K18 hK18 => .region (.mv rfl ?_))
    refine .q rfl (.indexV und_arr5 sz_4_Fs on_4_Fs rfl rfl (by omega) (by omega) (arr5 (by omega))) ?_
    refine .mv rfl (.mv rfl (.nil (hK18 _ _ (.seq (fun K19 hK19 => .region (.mv rfl (.nil (hK19 _ _ ?_))))))))
    refine .cond rfl (fun h41 => ?_) (fun h41 => ?_)
    ·
     have hk1 : kpS (c.kbL i) (k + 1) = kpS (c.kbL i) k + (2 : Int) ^ k := by
       show _ + (if (c.kbL i).getD k false = true then (2 : Int) ^ k else 0) = _
       rw [if_pos (show (c.kbL i).getD k false = true from h41)]
     refine .regionD mo_B (.q 0 (.q 1 (.q 2 (.q 3 (.q 4 (.q 5 (.q 6 (.q 7 (.c 8 0 (.done)))))))))) (by kernel_rfl) ?_
     refine .mv rfl rfl (.mv rfl rfl ?_)
     refine .q rfl (.idxN sl_24_A (by first | assumption | exact SlA.of_row at_L4 (by first | rfl | (simp; done) | (simp <;> omega))) rfl rfl (by omega)) ?_
     refine .q rfl (.loadI on_2_A (by first | assumption | exact Ints.of_get at_L4) rfl (by omega)) ?_
     rw [getD_set (by rw [length_part0]; omega), if_pos rfl]
     refine .mv rfl rfl ?_
     refine .q rfl (.shl1 (j := k) (by omega) rfl rfl) ?_
     refine .q rfl (.add rfl rfl rfl (by omega) (by omega)) ?_
     refine .q rfl (.idxN sl_24_A (by first | assumption | exact SlA.of_row at_L4 (by first | rfl | (simp; done) | (simp <;> omega))) rfl rfl (by omega)) ?_
     refine .r0 rfl rfl rfl (.storeI rfl sz_2_Ch rfl rfl (by assumption) (by first | omega | (simp <;> omega))) ?_
     rintro _ H13008 ⟨rfl, st13008, at13008⟩
     replace hle := hle.st st13008 (fun k hk => ⟨by omega, trivial⟩)
     replace lst2 := lst2.sA st13008
     replace at1 := st13008.s at1 ne_g1_g13.ne
     replace hin := base_hin.mono hle
     clear hb1
     have hb1 : Cat.At _ g1 0 c p := ⟨Mem.of_get at1, hin⟩
     rw [Nat.zero_add] at at13008
     rw [List.set_set, ← hk1] at at13008
     refine .done ?_
     refine hK17 _ _ (.region ?_)
     refine .q rfl (.add rfl rfl rfl (by omega) (by omega)) ?_
     refine .mv rfl (.nil ?_)
     refine hKL2 (k + 1) _ _ ?_ ?_ ⟨rfl, rfl, rfl, rfl, rfl, rfl, rfl, trivial⟩
     ·
      refine ⟨lst2, by assumption, ?_⟩
      omega
     omega
    have hk1 : kpS (c.kbL i) (k + 1) = kpS (c.kbL i) k := by
      show _ + (if (c.kbL i).getD k false = true then (2 : Int) ^ k else 0) = _
      rw [if_neg (by rw [show (c.kbL i).getD k false = false from h41]; simp), Int.add_zero]
    refine .skip ?_
    refine hK17 _ _ (.region ?_)
    refine .q rfl (.add rfl rfl rfl (by omega) (by omega)) ?_
    refine .mv rfl (.nil ?_)
    refine hKL2 (k + 1) _ _ ?_ ?_ ⟨rfl, rfl, rfl, rfl, rfl, rfl, rfl, trivial⟩
    ·
     refine ⟨lst2, by (rw [hk1]; assumption), ?_⟩
     omega
    omega
   try simp only [sps] at h38
   refine .exit ?_
   refine hK10 _ _ (.region ?_)
   obtain rfl : k = 5 := by omega
   refine .q rfl (.add rfl rfl rfl (by omega) (by omega)) ?_
   refine .mv rfl (.nil ?_)
   refine hKL1 (i + 1) _ _ ?_ ?_ ⟨rfl, rfl, rfl, rfl, trivial⟩
   ·
    refine ⟨lst1, by (rw [part0_set (by omega) rfl]; assumption), ?_⟩
    omega
   omega
  try simp only [sps] at h17
  refine .exit ?_
  refine hK6 _ _ (.seq (fun K20 hK20 => .region (.mv rfl (.mv rfl (.mv rfl (.nil (hK20 _ _ ?_)))))))
  refine .ret ?_
  refine hret _ _ ?_
  refine ⟨_, _, rfl, rfl, ?_⟩
  obtain rfl : i = c.src.length := by omega
  have hkk : part0 c.src.length c.kind c.src.length = c.kinds := part0_all _ _
  rw [hkk] at at_L4
  rw [codeL_ok (Cat.code_nil.2 h11), Cat.code_nil.2 h11]
  exact ⟨hle, some ⟨g13, 0, none⟩, by rw [Cat.length_kinds], .of_at at_L4 (by omega)⟩
end Go.Proofs.Ytolfggcanbpknaa
namespace Go.Proofs.Ytolfggcanbpknaa
open Go Go.GL Go.RowKit Go.Proofs
theorem same29_c {a b : Option Addr} {xss yss : List (List Int)} {r s : Nat → Option Addr} {H : GHeap} (h : Intss H a xss r := by assumption) (h' : Intss H b yss s := by assumption) (hx : xss.length ≤ 1048576 := by omega) (hy : yss.length ≤ 1048576 := by omega) (hx2 : ∀ i, (xss.getD i []).length ≤ 1048576) (hy2 : ∀ i, (yss.getD i []).length ≤ 1048576) :
    GCalls Try.prog 40 [.slice a xss.length xss.length, .slice b yss.length yss.length] H (Ret (.bool (decide (xss = yss))) H) := by
  refine GCalls.body (N := 27) (rs := [.tmp 4]) Try.func40 rfl rfl rfl rfl (fun Qx hret hend => ?_)
  refine .fg [0, 1] rfl ?_
  refine .seq (fun K1 hK1 => .region (.mv rfl (.nil (hK1 _ _ (.seq (fun K2 hK2 => .seq (fun K3 hK3 => .region (.mv rfl (.q rfl (.len sl_25_B rfl) (.mv rfl (.q rfl (.len sl_25_B rfl) (.q rfl (.cmp rfl rfl rfl) (.nil (hK3 _ _ ?_))))))))))))))
  refine .cond rfl (fun h10 => ?_) (fun h10 => ?_)
  ·
   try simp only [sps] at h10
   refine .seq (fun K4 hK4 => .region (.mv rfl (.nil (hK4 _ _ ?_))))
   refine .ret ?_
   refine hret _ _ ?_
   refine ⟨_, rfl, ?_⟩
   exact .of (congrArg _ (decide_eq_false fun e => by subst e; first | omega | simp_all))
  try simp only [sps] at h10
  refine .skip ?_
  refine hK2 _ _ (.seq (fun K5 hK5 => .seq (fun K6 hK6 => .region (.mv rfl (.nil (hK6 _ _ ?_))))))
  refine .block ?_
  refine .loopR (σ := Nat) [(0, some _), (1, some _)] (fun k => [(5, some (.int .i64 (k : Int)))]) (fun k H' => H = H' ∧ k ≤ xss.length ∧ ∀ i, i < k → xss.getD i [] = yss.getD i []) (fun k => xss.length - k) (0) ⟨rfl, rfl, trivial⟩ ⟨rfl, trivial⟩ ?_ ?_
  ·
   refine ⟨rfl, ?_⟩
   exact ⟨by omega, fun i hi => by omega⟩
  rintro k _ ⟨rfl, hI⟩ KL1 hKL1
  refine .forget (fr' := [(5, some (.int .i64 (k : Int))), (0, some _), (1, some _)]) ⟨rfl, rfl, rfl, trivial⟩ ?_
  obtain ⟨hk, hall⟩ := hI
  refine .seq (fun K7 hK7 => .seq (fun K8 hK8 => .region (.mv rfl (.mv rfl (.q rfl (.len sl_25_B rfl) (.q rfl (.cmp rfl rfl rfl) (.nil (hK8 _ _ ?_))))))))
  refine .cond rfl (fun h14 => ?_) (fun h14 => ?_)
  ·
   simp only [sps] at h14
   have w1 := h.2 k (by omega)
   have w2 := h'.2 k (by omega)
   have w3 := hx2 k
   have w4 := hy2 k
   refine .skip ?_
   refine hK7 _ _ (.seq (fun K9 hK9 => ?_))
   refine .block ?_
   refine .seq (fun K10 hK10 => ?_)
   refine .regionD mo_B (.q 0 (.q 1 (.q 2 (.q 3 (.q 4 (.q 5 (.q 6 (.q 7 (.c 8 0 (.q 9 (.done))))))))))) (by kernel_rfl) ?_
   refine .mv rfl rfl (.mv rfl rfl ?_)
   refine .q rfl (.idxN sl_25_B (Intss.sl (by assumption)) rfl rfl (by omega)) ?_
   refine .q rfl (.loadR on_24_B (by assumption) rfl (by omega)) ?_
   refine .mv rfl rfl (.mv rfl rfl ?_)
   refine .q rfl (.idxN sl_25_B (Intss.sl (by assumption)) rfl rfl (by omega)) ?_
   refine .q rfl (.loadR on_24_B (by assumption) rfl (by omega)) ?_
   refine .callQ0 rfl rfl rfl rfl rfl @Try.call21 rfl (likeInts_c) ?_
   refine .q rfl (.not rfl) ?_
   refine .done ?_
   refine hK10 _ _ ?_
   refine .cond rfl (fun h26 => ?_) (fun h26 => ?_)
   ·
    try simp only [sps] at h26
    refine .seq (fun K11 hK11 => .region (.mv rfl (.nil (hK11 _ _ ?_))))
    refine .ret ?_
    refine hret _ _ ?_
    refine ⟨_, rfl, ?_⟩
    exact .of (congrArg _ (decide_eq_false fun e => by subst e; first | omega | simp_all))
   try simp only [sps] at h26
   refine .skip ?_
   refine hK9 _ _ (.region (.mv rfl ?_))
   refine .q rfl (.add rfl rfl rfl (by omega) (by omega)) ?_
   refine .mv rfl (.nil ?_)
   refine hKL1 (k + 1) _ _ ?_ ?_ ⟨rfl, rfl, rfl, trivial⟩
   ·
    refine ⟨rfl, ?_⟩
    refine ⟨by omega, fun i hi => ?_⟩
    by_cases e : i < k
    · exact hall i e
    · obtain rfl : i = k := by omega
      assumption
   omega
  try simp only [sps] at h14
  refine .exit ?_
  refine hK5 _ _ (.seq (fun K12 hK12 => .region (.mv rfl (.nil (hK12 _ _ ?_)))))
  refine .ret ?_
  refine hret _ _ ?_
  refine ⟨_, rfl, ?_⟩
  exact .of (congrArg _ (decide_eq_true (eq_of_getD2 (by omega) fun i hi => hall i (by omega))))
set_option maxHeartbeats 8000000 in
theorem drawSubobjectsOf_c {a : Option Addr} {xs : List Int} {H : GHeap} (hb : Bytes H a xs := by assumption) (hlt : ∀ b o t, a = some ⟨b, o, t⟩ → b < H.next := by assumption) (hx : xs.length ≤ 4096 := by omega) :
    GCalls Try.prog 37 [.slice a xs.length xs.length] H (NewP H) := by
  refine GCalls.body (N := 15) (rs := [.cell 2 27, .tmp 3]) Try.func37 rfl rfl rfl rfl (fun Qx hret hend => ?_)
  refine .fg [0] rfl ?_
  have hle := GHeap.Le.refl H
  have base_hb := hb
  refine .seq (fun K1 hK1 => .region ?_)
  refine .R rfl (.allocR rfl ze_27_Hj rfl) ?_
  rintro _ H2 ⟨g2, rfl, le2, ge2, at2⟩
  replace hle := hle.trans le2
  have lt_at2 := GHeap.ltg at2
  replace hb := base_hb.mono hle
  refine .mv rfl (.nil (hK1 _ _ (.seq (fun K2 hK2 => .region (.mv rfl ?_)))))
  refine .call rfl rfl rfl rfl @Try.call47 rfl (l01From_c (hlt := fun b o t e => by have := hlt b o t e; omega)) ?_
  rintro _ H7 ⟨le7, gS, rfl, ge7, hs⟩
  have hlS := hs.lt
  have nx_H7 := le7.1
  replace hle := hle.trans le7
  replace at2 := le7.2 _ _ at2
  refine .mv rfl (.nil (hK2 _ _ (.seq (fun K3 hK3 => .region (.mv rfl ?_)))))
  refine .call rfl rfl rfl rfl @Try.call49 rfl (l02Draw_c) ?_
  rintro _ H9 ⟨c9, p9, rfl, sm9, v9, st9, hs⟩
  have nx_H9 := st9.nx
  replace hle := hle.st st9 (fun k hk => ⟨by omega, trivial⟩)
  have ne_g2_gS : NE g2 gS := .a
  replace at2 := st9.s at2 ne_g2_gS.ne
  have bs_v9 := v9
  have lv_v9 : Keep H7.next H9 H9 := fun _ _ _ h => h
  refine .R rfl (.allocR rfl ze_27_Hj rfl) ?_
  rintro _ H5 ⟨g5, rfl, le5, ge5, at5⟩
  replace hle := hle.trans le5
  replace hs := hs.le le5
  replace at2 := le5.2 _ _ at2
  replace lv_v9 := Keep.le lv_v9 le5
  refine .r0 rfl rfl (.fillA rfl sz_27_D rfl rfl rfl rfl) ?_
  rintro _ H2003 ⟨rfl, st2003, at2003⟩
  replace hle := hle.st st2003 (fun k hk => ⟨by omega, trivial⟩)
  replace hs := hs.sA st2003
  replace at2 := st2003.s at2
  replace lv_v9 := Keep.st lv_v9 st2003 (fun k hb hk => ⟨(by omega), trivial⟩)
  refine .nil (hK3 _ _ (.seq (fun K4 hK4 => ?_)))
  refine .regionDB mo_B (.q 0 (.q 1 (.q 2 (.q 3 (.c 4 1 (.c 5 0 (.q 6 (.done)))))))) (by kernel_rfl) (GHeap.le_erase H2003 gS) ?_
  have hbl := GHeap.le_erase H2003 gS
  have a5B := GHeap.get_erase_of (g := gS) at2003 (by omega)
  refine .qB rfl hbl (.loadM ag_27_D rfl ⟨rfl, Mem.of_get a5B⟩) ?_
  refine .qB rfl hbl (.move rfl) (.qB rfl hbl (.fieldAddr fo_27_0_B rfl) (.qB rfl hbl (.load on_2_A rfl (Mem.of_get a5B 0 _ rfl)) ?_))
  refine .call1 rfl rfl rfl rfl rfl @Try.call69 rfl (l02Number_c (hn := by obtain ⟨_, _, _, _, _, n6⟩ := id sm9; exact n6)) ?_
  rintro _ H14 ⟨k14, rfl, b14, st14, hs⟩
  replace hbl := hbl.erase_st st14
  refine ⟨hbl, ?_⟩
  replace hle := hle.st st14 (fun k hk => ⟨by omega, trivial⟩)
  replace at2 := st14.s at2 ne_g2_gS.ne
  replace lv_v9 := Keep.st lv_v9 st14 (fun k hb hk => ⟨(by omega), trivial⟩)
  refine .r0 rfl rfl rfl (.fillA rfl sz_27_D rfl rfl rfl rfl) ?_
  rintro _ H3005 ⟨rfl, st3005, at3005⟩
  replace hle := hle.st st3005 (fun k hk => ⟨by omega, trivial⟩)
  replace lv_v9 := Keep.st lv_v9 st3005 (fun k hb hk => ⟨(by omega), trivial⟩)
  replace v9 := bs_v9.keep lv_v9 (Nat.le_refl _)
  refine .qB rfl (.refl _) (.assign rfl) ?_
  refine .done ?_
  refine hK4 _ _ ?_
  refine .ret ?_
  refine hret _ _ ?_
  refine ⟨_, _, _, _, _, rfl, ag_27_D, (by rfl), (Mem.of_get at3005), rfl, ?_⟩
  exact ⟨hle, c9, p9, k14, rfl, sm9, v9.keep (.of_le (.refl _)) (by omega), b14⟩
set_option maxHeartbeats 40000000 in
theorem lawFnSubobjects_c {a : Option Addr} {xs : List Int} {H : GHeap} (hb : Bytes H a xs) (hl : xs.length ≤ 9223372036854775807) (hlt : ∀ b o t, a = some ⟨b, o, t⟩ → b < H.next) :
    GCalls Try.prog 7 [.slice a xs.length xs.length] H (fun v _ => v = .bool true) := by
  refine GCalls.body (N := 159) (rs := [.tmp 2]) Try.func7 rfl rfl rfl rfl (fun Qx hret hend => ?_)
  refine .fg [0] rfl ?_
  have base_hb := hb
  refine .seq (fun K1 hK1 => .region (.mv rfl (.nil (hK1 _ _ (.seq (fun K2 hK2 => .seq (fun K3 hK3 => .region (.mv rfl ?_))))))))
  refine .callQ rfl rfl rfl rfl @Try.call9 rfl (big_c) ?_
  refine .nil (hK3 _ _ ?_)
  refine .cond rfl (fun h19 => ?_) (fun h19 => ?_)
  ·
   try simp only [sps] at h19
   refine .seq (fun K4 hK4 => .region (.mv rfl (.nil (hK4 _ _ ?_))))
   refine .ret ?_
   refine hret _ _ ?_
   refine ⟨_, rfl, ?_⟩
   first | rfl | exact congrArg Value.bool (beq_iff_eq.2 (by
     obtain rfl : i = L.length := by omega
     omega))
  simp only [sps] at h19
  refine .skip ?_
  refine hK2 _ _ (.seq (fun K5 hK5 => .region (.mv rfl ?_)))
  refine .call rfl rfl rfl rfl @Try.call37 rfl (drawSubobjectsOf_c) ?_
  rintro _ H22 ⟨le22, c22, p22, k22, rfl, sm22, v22, b22⟩
  have bs_v22 := v22
  have lv_v22 : Keep H.next H22 H22 := fun _ _ _ h => h
  refine .mv rfl (.q rfl (.extract rfl rfl) (.q rfl (.extract rfl rfl) ?_))
  refine .R rfl (.allocR rfl ze_27_Hj rfl) ?_
  rintro _ H3 ⟨g3, rfl, le3, ge3, at3⟩
  replace lv_v22 := Keep.le lv_v22 le3
  refine .r0 rfl rfl (.fillA rfl sz_27_D rfl rfl rfl rfl) ?_
  rintro _ H3006 ⟨rfl, st3006, at3006⟩
  replace lv_v22 := Keep.st lv_v22 st3006 (fun k hb hk => ⟨by omega, trivial⟩)
  replace v22 := bs_v22.keep lv_v22 (Nat.le_refl _)
  have i22 := v22.inn
  refine .mv rfl (.nil (hK5 _ _ (.seq (fun K6 hK6 => .region ?_))))
  refine .q rfl (.loadM ag_27_D rfl ⟨rfl, Mem.of_get at3006⟩) ?_
  refine .mv rfl ?_
  refine .call rfl rfl rfl rfl @Try.call38 rfl (subobjectsOf_c) ?_
  rintro _ H28 ⟨le28, aL, rL, rfl, vL⟩
  replace at3006 := le28.2 _ _ at3006
  replace lv_v22 := Keep.le lv_v22 le28
  replace v22 := bs_v22.keep lv_v22 (Nat.le_refl _)
  have bs_vL := vL
  have lv_vL : Keep H3006.next H28 H28 := fun _ _ _ h => h
  clear i22
  have i22 := v22.inn
  refine .mv rfl (.q rfl (.extract rfl rfl) (.q rfl (.extract rfl rfl) (.mv rfl (.mv rfl (.nil (hK6 _ _ (.seq (fun K7 hK7 => .region ?_))))))))
  refine .q rfl (.loadM ag_27_D rfl ⟨rfl, Mem.of_get at3006⟩) ?_
  refine .mv rfl ?_
  refine .call rfl rfl rfl rfl @Try.call39 rfl (specSubobjectsOf_c) ?_
  rintro _ H34 ⟨le34, aM, rM, rfl, vM⟩
  replace at3006 := le34.2 _ _ at3006
  replace lv_v22 := Keep.le lv_v22 le34
  replace v22 := bs_v22.keep lv_v22 (Nat.le_refl _)
  replace lv_vL := Keep.le lv_vL le34
  replace vL := bs_vL.keep lv_vL (Nat.le_refl _)
  clear i22
  have i22 := v22.inn
  have iL := vL.intss
  have iM := vM.intss
  refine .mv rfl (.q rfl (.extract rfl rfl) (.q rfl (.extract rfl rfl) (.mv rfl (.mv rfl (.nil (hK7 _ _ (.seq (fun K8 hK8 => .seq (fun K9 hK9 => .region ?_)))))))))
  have hsm := c22.subs_small k22
  have hsm2 : ∀ i, ((codeLL (c22.codeO [k22]) (c22.subs k22)).getD i []).length ≤ 1048576 := fun i => by have := hsm.2 i; omega
  refine .mv rfl (.mv rfl (.q rfl (.cmp rfl rfl rfl) (.mv rfl ?_)))
  refine .split (fun h40 => ?_) (fun h40 => ?_)
  ·
   simp at h40
  try simp only [sps] at h40
  refine .qg rfl (.move rfl) (.qg rfl (.move rfl) ?_)
  refine .callQg rfl rfl rfl rfl rfl rfl @Try.call40 rfl (same29_c (hx2 := hsm2) (hy2 := hsm2)) ?_
  refine .qg rfl (.not rfl) (.q rfl (.pickF rfl rfl) (.nil (hK9 _ _ ?_)))
  refine .cond rfl (fun h45 => ?_) (fun h45 => ?_)
  ·
   simp at h45
  try simp only [sps] at h45
  refine .skip ?_
  refine hK8 _ _ (.seq (fun K10 hK10 => .seq (fun K11 hK11 => .region (.mv rfl (.q rfl (.cmp rfl rfl rfl) (.nil (hK11 _ _ ?_)))))))
  refine .cond rfl (fun h47 => ?_) (fun h47 => ?_)
  ·
   try simp only [sps] at h47
   refine .seq (fun K12 hK12 => .region (.mv rfl (.nil (hK12 _ _ ?_))))
   refine .ret ?_
   refine hret _ _ ?_
   refine ⟨_, rfl, ?_⟩
   first | rfl | exact congrArg Value.bool (beq_iff_eq.2 (by
     obtain rfl : i = L.length := by omega
     omega))
  try simp only [sps] at h47
  refine .skip ?_
  refine hK10 _ _ (.seq (fun K13 hK13 => .region ?_))
  obtain ⟨hIs, -, -⟩ := Cat.codeO_one.1 h47
  have hS := hIs.1
  have hn := hS.n40
  have htl := hS.tl
  have hcn := Cat.code_nil.2 hIs
  generalize hL : codeLL (c22.codeO [k22]) (c22.subs k22) = L at *
  have hLs : L = c22.subs k22 := hL.symm.trans (codeLL_ok h47)
  have hok : ClsOk (c22.ToX k22) c22.eqvB L := by rw [hLs]; exact Cat.subs_ok hIs _
  have htot : totN L L.length = (c22.toL k22 c22.src.length).length := by rw [hLs]; exact Cat.subs_tot hIs _
  refine .q rfl (.loadM ag_27_D rfl ⟨rfl, Mem.of_get at3006⟩) ?_
  refine .call rfl rfl rfl rfl @Try.call41 rfl (arrowKinds_c) ?_
  rintro _ H50 ⟨le50, aK, rfl, vK⟩
  replace at3006 := le50.2 _ _ at3006
  replace lv_v22 := Keep.le lv_v22 le50
  replace v22 := bs_v22.keep lv_v22 (Nat.le_refl _)
  replace lv_vL := Keep.le lv_vL le50
  have bs_vK := vK
  have lv_vK : Keep H34.next H50 H50 := fun _ _ _ h => h
  clear i22
  have i22 := v22.inn
  clear iL
  clear iM
  have iK := vK.ints
  refine .mv rfl (.q rfl (.extract rfl rfl) (.q rfl (.extract rfl rfl) (.mv rfl (.mv rfl (.nil (hK13 _ _ (.seq (fun K14 hK14 => .seq (fun K15 hK15 => .region ?_)))))))))
  have hck : codeL (c22.code []) c22.kinds = c22.kinds := codeL_ok hcn
  have hkl := c22.length_kinds
  refine .mv rfl (.q rfl (.cmp rfl rfl rfl) (.mv rfl ?_))
  refine .split (fun h55 => ?_) (fun h55 => ?_)
  ·
   rw [hcn] at h55
   simp at h55
  try simp only [sps] at h55
  refine .qg rfl (.move rfl) (.qg rfl (.len sl_24_A rfl) (.qg rfl (.fieldAddr fo_27_1_B rfl) ?_))
  refine .qg rfl (.load on_24_B rfl (by first | assumption | exact Mem.of_get at3006 1 _ rfl)) ?_
  refine .qg rfl (.len sl_24_A rfl) (.qg rfl (.cmp rfl rfl rfl) (.q rfl (.pickF rfl rfl) (.nil (hK15 _ _ ?_))))
  refine .cond rfl (fun h62 => ?_) (fun h62 => ?_)
  ·
   rw [hck] at h62
   simp only [sps] at h62
   omega
  try simp only [sps] at h62
  refine .skip ?_
  refine hK14 _ _ (.seq (fun K16 hK16 => .region ?_))
  generalize hK : codeL (c22.code []) c22.kinds = K at *
  subst hck
  refine .mv rfl (.mv rfl (.nil (hK16 _ _ (.seq (fun K17 hK17 => .seq (fun K18 hK18 => .region (.mv rfl (.nil (hK18 _ _ ?_)))))))))
  refine .block ?_
  obtain ⟨-, u2, -, -⟩ := id i22
  refine .loopR (σ := Nat × Int) [(3, some _), (4, some _), (5, some _), (9, some _), (12, some _)] (fun (f, mo) => [(13, some (.int .i64 (f : Int))), (11, some (.int .i64 mo))]) (fun (f, mo) H' => H50 = H' ∧ f ≤ c22.src.length ∧ mo = ((c22.toL k22 f).length : Int)) (fun (f, mo) => c22.src.length - f) ((0, 0)) ⟨rfl, rfl, rfl, rfl, rfl, trivial⟩ ⟨rfl, rfl, trivial⟩ ?_ ?_
  ·
   refine ⟨rfl, ?_⟩
   exact ⟨by omega, rfl⟩
  rintro ⟨f, mo⟩ _ ⟨rfl, hI⟩ KL1 hKL1
  refine .forget (fr' := [(13, some (.int .i64 (f : Int))), (11, some (.int .i64 mo)), (3, some _), (4, some _), (5, some _), (9, some _), (12, some _)]) ⟨rfl, rfl, rfl, rfl, rfl, rfl, rfl, trivial⟩ ?_
  obtain ⟨hf, hmo⟩ := hI
  have htf : (c22.toL k22 f).length ≤ f := filtN_le _ _
  refine .seq (fun K19 hK19 => .seq (fun K20 hK20 => .region (.mv rfl (.mv rfl (.q rfl (.len sl_24_A rfl) (.q rfl (.cmp rfl rfl rfl) (.nil (hK20 _ _ ?_))))))))
  refine .cond rfl (fun h66 => ?_) (fun h66 => ?_)
  ·
   simp only [sps] at h66
   have hkg := Cat.kinds_get (c := c22) (f := f) (by omega)
   refine .skip ?_
   refine hK19 _ _ (.seq (fun K21 hK21 => ?_))
   refine .block ?_
   refine .seq (fun K22 hK22 => .region (.q rfl (.fieldAddr fo_27_2_B rfl) ?_))
   refine .q rfl (.load on_24_B rfl (by first | assumption | exact Mem.of_get at3006 2 _ rfl)) ?_
   refine .mv rfl ?_
   refine .q rfl (.idxN sl_24_A (by assumption) rfl rfl (by omega)) ?_
   refine .q rfl (.loadI on_2_A (by assumption) rfl (by omega)) ?_
   refine .mv rfl (.q rfl (.cmp rfl rfl rfl) (.mv rfl ?_))
   refine .split (fun h76 => ?_) (fun h76 => ?_)
   ·
    simp only [sps] at h76
    refine .qg rfl (.move rfl) (.qg rfl (.move rfl) ?_)
    refine .qg rfl (.idxN sl_24_A (by assumption) rfl rfl (by omega)) ?_
    refine .qg rfl (.loadI on_2_A (by assumption) rfl (by omega)) ?_
    refine .qg rfl (.rem rfl rfl (by omega)) ?_
    refine .qg rfl (.cmp rfl rfl rfl) (.q rfl (.pickT rfl rfl) (.nil (hK22 _ _ ?_)))
    refine .cond rfl (fun h83 => ?_) (fun h83 => ?_)
    ·
     simp only [sps] at h83
     rw [hkg, Cat.kind_mono] at h83
     have hadd : (c22.toL k22 (f + 1)).length = (c22.toL k22 f).length + 1 := by rw [Cat.toL_T h76 h83, List.length_append, List.length_singleton]
     refine .region (.mv rfl ?_)
     refine .q rfl (.add rfl rfl rfl (by omega) (by omega)) ?_
     refine .mv rfl (.nil (hK21 _ _ (.region (.mv rfl ?_))))
     refine .q rfl (.add rfl rfl rfl (by omega) (by omega)) ?_
     refine .mv rfl (.nil ?_)
     refine hKL1 ((f + 1, _)) _ _ ?_ ?_ ⟨rfl, rfl, rfl, rfl, rfl, rfl, rfl, trivial⟩
     ·
      refine ⟨rfl, ?_⟩
      exact ⟨by omega, by omega⟩
     (dsimp only; omega)
    simp only [sps] at h83
    rw [hkg, Cat.kind_mono] at h83
    have hadd : (c22.toL k22 (f + 1)).length = (c22.toL k22 f).length := by rw [Cat.toL_F fun q => h83 q.2]
    refine .skip ?_
    refine hK21 _ _ (.region (.mv rfl ?_))
    refine .q rfl (.add rfl rfl rfl (by omega) (by omega)) ?_
    refine .mv rfl (.nil ?_)
    refine hKL1 ((f + 1, _)) _ _ ?_ ?_ ⟨rfl, rfl, rfl, rfl, rfl, rfl, rfl, trivial⟩
    ·
     refine ⟨rfl, ?_⟩
     exact ⟨by omega, by omega⟩
    (dsimp only; omega)
   simp only [sps] at h76
   have hadd : (c22.toL k22 (f + 1)).length = (c22.toL k22 f).length := by rw [Cat.toL_F fun q => h76 q.1]
   refine .z rfl (.z rfl (.z rfl (.z rfl (.z rfl (.z rfl (.q rfl (.pickF rfl rfl) (.nil (hK22 _ _ ?_))))))))
   refine .condF rfl ?_
   refine .skip ?_
   refine hK21 _ _ (.region (.mv rfl ?_))
   refine .q rfl (.add rfl rfl rfl (by omega) (by omega)) ?_
   refine .mv rfl (.nil ?_)
   refine hKL1 ((f + 1, _)) _ _ ?_ ?_ ⟨rfl, rfl, rfl, rfl, rfl, rfl, rfl, trivial⟩
   ·
    refine ⟨rfl, ?_⟩
    exact ⟨by omega, by omega⟩
   (dsimp only; omega)
  try simp only [sps] at h66
  refine .exit ?_
  refine hK17 _ _ (.seq (fun K23 hK23 => .seq (fun K24 hK24 => .region ?_)))
  obtain rfl : f = c22.src.length := by omega
  refine .mv rfl (.nil (hK24 _ _ ?_))
  refine .block ?_
  refine .loopR (σ := Nat × Int) [(3, some _), (5, some _), (9, some _), (11, some _)] (fun (i, cn) => [(14, some (.int .i64 (i : Int))), (12, some (.int .i64 cn))]) (fun (i, cn) H' => St [] H50 H' ∧ i ≤ L.length ∧ cn = ((totN L i : Nat) : Int)) (fun (i, cn) => L.length - i) ((0, 0)) ⟨rfl, rfl, rfl, rfl, trivial⟩ ⟨rfl, rfl, trivial⟩ ?_ ?_
  ·
   refine ⟨.refl _ _, ?_⟩
   exact ⟨by omega, rfl⟩
  rintro ⟨i, cn⟩ HL2 ⟨lst2, hI⟩ KL2 hKL2
  refine .forget (fr' := [(14, some (.int .i64 (i : Int))), (12, some (.int .i64 cn)), (3, some _), (5, some _), (9, some _), (11, some _)]) ⟨rfl, rfl, rfl, rfl, rfl, rfl, trivial⟩ ?_
  replace at3006 := lst2.same _ _ trivial at3006
  replace lv_v22 := Keep.st lv_v22 lst2 (fun k hb hk => trivial)
  replace lv_vL := Keep.st lv_vL lst2 (fun k hb hk => trivial)
  replace vL := bs_vL.keep lv_vL (Nat.le_refl _)
  replace lv_vK := Keep.st lv_vK lst2 (fun k hb hk => trivial)
  clear i22
  have iL := vL.intss
  clear iK
  obtain ⟨hi, hcnn⟩ := hI
  have htm := totN_mono (T := L) (k := i) hi
  refine .seq (fun K25 hK25 => .seq (fun K26 hK26 => .region (.mv rfl (.mv rfl (.q rfl (.len sl_25_B rfl) (.q rfl (.cmp rfl rfl rfl) (.nil (hK26 _ _ ?_))))))))
  refine .cond rfl (fun h89 => ?_) (fun h89 => ?_)
  ·
   simp only [sps] at h89
   have hne := hok.ne i (by omega)
   have hrw := totN_row (T := L) (i := i) (by omega)
   have hhd : c22.ToX k22 ((L.getD i []).getD 0 0) := hok.hd (i := i) (by omega)
   obtain ⟨g0, g1, g2', -⟩ := id hhd
   refine .skip ?_
   refine hK25 _ _ (.seq (fun K27 hK27 => ?_))
   refine .block ?_
   refine .seq (fun K28 hK28 => .region (.mv rfl (.mv rfl (.mv rfl ?_))))
   refine .q rfl (.idxN sl_25_B (Intss.sl (by assumption)) rfl rfl (by omega)) ?_
   refine .q rfl (.loadR on_24_B (by assumption) rfl (by omega)) ?_
   refine .q rfl (.len sl_24_A rfl) ?_
   refine .q rfl (.add rfl rfl rfl (by omega) (by omega)) ?_
   refine .mv rfl (.nil (hK28 _ _ (.seq (fun K29 hK29 => .region (.mv rfl (.nil (hK29 _ _ ?_)))))))
   refine .block ?_
   refine .loopR (σ := Nat) [(3, some _), (5, some _), (9, some _), (11, some _), (12, some _), (14, some _)] (fun j => [(15, some (.int .i64 (j : Int)))]) (fun j H' => St [] HL2 H' ∧ 1 ≤ j ∧ j ≤ (L.getD i []).length) (fun j => (L.getD i []).length - j) (1) ⟨rfl, rfl, rfl, rfl, rfl, rfl, trivial⟩ ⟨rfl, trivial⟩ ?_ ?_
   ·
    refine ⟨.refl _ _, ?_⟩
    omega
   rintro j HL3 ⟨lst3, hI⟩ KL3 hKL3
   refine .forget (fr' := [(15, some (.int .i64 (j : Int))), (3, some _), (5, some _), (9, some _), (11, some _), (12, some _), (14, some _)]) ⟨rfl, rfl, rfl, rfl, rfl, rfl, rfl, trivial⟩ ?_
   replace lst2 := lst2.sA lst3
   replace at3006 := lst3.same _ _ trivial at3006
   replace lv_v22 := Keep.st lv_v22 lst3 (fun k hb hk => trivial)
   replace v22 := bs_v22.keep lv_v22 (Nat.le_refl _)
   replace lv_vL := Keep.st lv_vL lst3 (fun k hb hk => trivial)
   replace vL := bs_vL.keep lv_vL (Nat.le_refl _)
   replace lv_vK := Keep.st lv_vK lst3 (fun k hb hk => trivial)
   have i22 := v22.inn
   clear iL
   have iL := vL.intss
   refine .seq (fun K30 hK30 => .seq (fun K31 hK31 => .region (.mv rfl (.mv rfl (.mv rfl ?_)))))
   refine .q rfl (.idxN sl_25_B (Intss.sl (by assumption)) rfl rfl (by omega)) ?_
   refine .q rfl (.loadR on_24_B (by assumption) rfl (by omega)) ?_
   refine .q rfl (.len sl_24_A rfl) (.q rfl (.cmp rfl rfl rfl) (.nil (hK31 _ _ ?_)))
   refine .cond rfl (fun h105 => ?_) (fun h105 => ?_)
   ·
    simp only [sps] at h105
    obtain ⟨hmj, hej⟩ := hok.mem i (by omega) ((L.getD i []).getD j 0) (getD_mem (by omega))
    obtain ⟨m0, m1, m2, -⟩ := id hmj
    have hlc : c22.liC ((L.getD i []).getD j 0) ((L.getD i []).getD 0 0) = 0 := Cat.liC_ok (Cat.code_two.2 ⟨hIs, ⟨m0, m1⟩, g0, g1⟩) (m2.trans g2'.symm)
    obtain ⟨y, y1, y2, y3⟩ := Cat.eqv_law hIs hmj hhd hej
    refine .skip ?_
    refine hK30 _ _ (.seq (fun K32 hK32 => ?_))
    refine .block ?_
    refine .seq (fun K33 hK33 => ?_)
    refine .regionD mo_B (.q 0 (.q 1 (.q 2 (.q 3 (.q 4 (.q 5 (.q 6 (.q 7 (.q 8 (.q 9 (.q 10 (.q 11 (.q 12 (.q 13 (.c 14 0 (.q 15 (.q 16 (.q 17 (.q 18 (.q 19 (.done))))))))))))))))))))) (by kernel_rfl) ?_
    refine .q rfl (.loadM ag_27_D rfl ⟨rfl, Mem.of_get at3006⟩) ?_
    refine .mv rfl rfl (.mv rfl rfl ?_)
    refine .q rfl (.idxN sl_25_B (Intss.sl (by assumption)) rfl rfl (by omega)) ?_
    refine .q rfl (.loadR on_24_B (by assumption) rfl (by omega)) ?_
    refine .mv rfl rfl ?_
    have w1 := iL.2 i (by omega)
    refine .q rfl (.idxN sl_24_A (by assumption) rfl rfl (by omega)) ?_
    refine .q rfl (.loadI on_2_A (by assumption) rfl (by omega)) ?_
    refine .mv rfl rfl (.mv rfl rfl ?_)
    refine .q rfl (.idxN sl_25_B (Intss.sl (by assumption)) rfl rfl (by omega)) ?_
    refine .q rfl (.loadR on_24_B (by assumption) rfl (by omega)) ?_
    refine .q rfl (.idxN (j := 0) sl_24_A (by assumption) rfl rfl (by omega)) ?_
    refine .q rfl (.loadI on_2_A (by assumption) rfl (by omega)) ?_
    refine .call0 rfl rfl rfl rfl rfl @Try.call42 rfl (liftsOf_c) ?_
    rintro _ H123 ⟨le123, aF, rfl, vF⟩
    replace lst3 := lst3.le le123
    replace lv_vK := Keep.le lv_vK le123
    replace vK := bs_vK.keep lv_vK (Nat.le_refl _)
    have bs_vF := vF
    clear i22
    clear iL
    have iK := vK.ints
    have iF := vF.ints
    refine .mv rfl rfl (.q rfl (.extract rfl rfl) (.q rfl (.extract rfl rfl) (.mv rfl rfl (.mv rfl rfl ?_))))
    refine .done ?_
    refine hK33 _ _ (.seq (fun K34 hK34 => .region ?_))
    generalize hF : codeL (c22.liC ((L.getD i []).getD j 0) ((L.getD i []).getD 0 0)) (c22.lif ((L.getD i []).getD j 0) ((L.getD i []).getD 0 0)) = F at *
    obtain rfl : F = [(y : Int)] := hF.symm.trans ((codeL_ok hlc).trans y1)
    have hky := Cat.kinds_get y2
    refine .mv rfl (.q rfl (.cmp rfl rfl rfl) (.mv rfl ?_))
    refine .split (fun h128 => ?_) (fun h128 => ?_)
    ·
     simp only [sps] at h128
     omega
    try simp only [sps] at h128
    refine .qg rfl (.move rfl) (.qg rfl (.len sl_24_A rfl) (.qg rfl (.cmp rfl rfl rfl) (.q rfl (.pickF rfl rfl) (.mv rfl ?_))))
    refine .split (fun h133 => ?_) (fun h133 => ?_)
    ·
     simp at h133
    try simp only [sps] at h133
    refine .qg rfl (.move rfl) ?_
    refine .qg rfl (.idxN (j := 0) sl_24_A (by assumption) rfl rfl (by omega)) ?_
    refine .qg rfl (.loadI on_2_A (by assumption) rfl (by omega)) ?_
    rw [show ([(y : Int)] : List Int).getD 0 0 = (y : Int) from rfl]
    refine .qg rfl (.cmp rfl rfl rfl) (.q rfl (.pickF rfl rfl) (.mv rfl ?_))
    refine .split (fun h139 => ?_) (fun h139 => ?_)
    ·
     simp only [sps] at h139
     omega
    try simp only [sps] at h139
    refine .qg rfl (.move rfl) ?_
    refine .qg rfl (.idxN (j := 0) sl_24_A (by assumption) rfl rfl (by omega)) ?_
    refine .qg rfl (.loadI on_2_A (by assumption) rfl (by omega)) ?_
    rw [show ([(y : Int)] : List Int).getD 0 0 = (y : Int) from rfl]
    refine .qg rfl (.move rfl) (.qg rfl (.len sl_24_A rfl) (.qg rfl (.cmp rfl rfl rfl) (.q rfl (.pickF rfl rfl) (.mv rfl ?_))))
    refine .split (fun h147 => ?_) (fun h147 => ?_)
    ·
     simp only [sps] at h147
     omega
    try simp only [sps] at h147
    refine .qg rfl (.move rfl) (.qg rfl (.move rfl) ?_)
    refine .qg rfl (.idxN (j := 0) sl_24_A (by assumption) rfl rfl (by omega)) ?_
    refine .qg rfl (.loadI on_2_A (by assumption) rfl (by omega)) ?_
    rw [show ([(y : Int)] : List Int).getD 0 0 = (y : Int) from rfl]
    refine .qg rfl (.idx1 sl_24_A (by assumption) rfl rfl (by omega) (by omega)) ?_
    refine .qg rfl (.loadI on_2_A (by assumption) rfl (by omega)) ?_
    refine .qg rfl (.cmp rfl rfl rfl) (.q rfl (.pickF rfl rfl) (.nil (hK34 _ _ ?_)))
    refine .cond rfl (fun h155 => ?_) (fun h155 => ?_)
    ·
     simp only [sps, Int.toNat_natCast] at h155
     rw [hky, y3] at h155
     exact absurd rfl h155
    try simp only [sps] at h155
    refine .skip ?_
    refine hK32 _ _ (.region (.mv rfl ?_))
    refine .q rfl (.add rfl rfl rfl (by omega) (by omega)) ?_
    refine .mv rfl (.nil ?_)
    refine hKL3 (j + 1) _ _ ?_ ?_ ⟨rfl, rfl, rfl, rfl, rfl, rfl, rfl, trivial⟩
    ·
     refine ⟨lst3, ?_⟩
     omega
    omega
   try simp only [sps] at h105
   refine .exit ?_
   refine hK27 _ _ (.region (.mv rfl ?_))
   refine .q rfl (.add rfl rfl rfl (by omega) (by omega)) ?_
   refine .mv rfl (.nil ?_)
   refine hKL2 ((i + 1, _)) _ _ ?_ ?_ ⟨rfl, rfl, rfl, rfl, rfl, rfl, trivial⟩
   ·
    refine ⟨lst2, ?_⟩
    exact ⟨by omega, by have := totN_succ (T := L) (k := i) (by omega); omega⟩
   (dsimp only; omega)
  try simp only [sps] at h89
  refine .exit ?_
  refine hK23 _ _ (.seq (fun K35 hK35 => .region (.mv rfl (.mv rfl (.q rfl (.cmp rfl rfl rfl) (.mv rfl (.nil (hK35 _ _ ?_))))))))
  refine .ret ?_
  refine hret _ _ ?_
  refine ⟨_, rfl, ?_⟩
  first | rfl | exact congrArg Value.bool (beq_iff_eq.2 (by
    obtain rfl : i = L.length := by omega
    omega))
end Go.Proofs.Ytolfggcanbpknaa
