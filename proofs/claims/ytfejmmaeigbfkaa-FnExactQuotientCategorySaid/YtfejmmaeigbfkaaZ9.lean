/- Quotients of categories: the program's test. No condition but those of each statement. -/
import Derived.Test.YtfejmmaeigbfkaaZ8
namespace Go.Proofs.Ytfejmmaeigbfkaa
open Go Go.GL Go.RowKit Go.Proofs
theorem mp_128_Qi : mapIT Try.prog 128 = some 2 := by kernel_rfl
theorem zv_2_Qi : zvT Try.prog 2 = some (.int .i64 0) := by kernel_rfl
theorem on_88_Qi : oneT Try.prog 88 = true := by kernel_rfl
theorem on_109_Qi : oneT Try.prog 109 = true := by kernel_rfl
theorem isNormal_c {a : Option Addr} {xs : List Int} {H : GHeap} (h : Ints H a xs := by assumption) (hl : xs.length ≤ 1048576 := by omega) :
    GCalls Try.prog 89 [.slice a xs.length xs.length] H (Ret (.bool (decide (clsL (kerB xs) xs.length = xs))) H) := by
  refine GCalls.body (N := 22) (rs := [.tmp 2]) Try.func89 rfl rfl rfl rfl (fun Qx hret hend => ?_)
  refine .forget (fr' := [(0, some _)]) ⟨rfl, trivial⟩ ?_
  refine .seq (fun K1 hK1 => ?_)
  refine .region ?_
  refine .m rfl rfl rfl (.assign rfl) ?_
  refine .nil ?_
  refine hK1 _ _ ?_
  refine .seq (fun K2 hK2 => ?_)
  refine .region ?_
  refine .m rfl rfl rfl (.assign rfl) ?_
  refine .nil ?_
  refine hK2 _ _ ?_
  refine .seq (fun K3 hK3 => ?_)
  refine .seq (fun K4 hK4 => ?_)
  refine .region ?_
  refine .m rfl rfl rfl (.move rfl) ?_
  refine .m rfl rfl rfl (.len sl_88_Pb rfl) ?_
  refine .m rfl rfl rfl (.move rfl) ?_
  refine .nil ?_
  refine hK4 _ _ ?_
  refine .block ?_
  refine .loopR (σ := Nat × Int) [(6, some _), (7, some _)] (fun (k, m) => [(8, some (.int .i64 (k : Int))), (3, some (.int .i64 m))]) (fun (k, m) H' => H = H' ∧ k ≤ xs.length ∧ NorK xs k ∧ m = (reps (kerB xs) k : Int)) (fun (k, m) => xs.length - k) ((0, 0)) ⟨rfl, rfl, trivial⟩ ⟨rfl, rfl, trivial⟩ ?_ ?_
  ·
   refine ⟨rfl, ?_⟩
   exact ⟨by omega, .zero _, rfl⟩
  ·
   rintro ⟨k, m⟩ _ ⟨rfl, hI⟩ KL1 hKL1
   refine .forget (fr' := [(8, some (.int .i64 (k : Int))), (3, some (.int .i64 m)), (6, some _), (7, some _)]) ⟨rfl, rfl, rfl, rfl, trivial⟩ ?_
   obtain ⟨hk, hN, hm⟩ := hI
   have hrl := reps_le (kerB xs) k
   refine .seq (fun K5 hK5 => ?_)
   refine .region ?_
   refine .m rfl rfl rfl (.cmp rfl rfl rfl) ?_
   refine .nil ?_
   refine hK5 _ _ ?_
   refine .seq (fun K6 hK6 => ?_)
   refine .cond rfl (fun h9 => ?_) (fun h9 => ?_)
   ·
    simp only [sps] at h9
    refine .skip ?_
    refine hK6 _ _ ?_
    refine .seq (fun K7 hK7 => ?_)
    refine .block ?_
    refine .seq (fun K8 hK8 => ?_)
    refine .region ?_
    refine .m rfl rfl rfl (.idxN sl_88_Pb (by assumption) rfl rfl (by omega)) ?_
    refine .m rfl rfl rfl (.loadI on_2_A (by assumption) rfl (by omega)) ?_
    refine .m rfl rfl rfl (.assign rfl) ?_
    refine .nil ?_
    refine hK8 _ _ ?_
    refine .seq (fun K9 hK9 => ?_)
    refine .seq (fun K10 hK10 => ?_)
    refine .region ?_
    refine .m rfl rfl rfl (.move rfl) ?_
    refine .m rfl rfl rfl (.move rfl) ?_
    refine .callQ rfl rfl rfl rfl @Try.call69 rfl (inRange_c) ?_
    refine .m rfl rfl rfl (.not rfl) ?_
    refine .nil ?_
    refine hK10 _ _ ?_
    refine .cond rfl (fun h15 => ?_) (fun h15 => ?_)
    ·
     simp only [sps] at h15
     refine .seq (fun K11 hK11 => ?_)
     refine .region ?_
     refine .m rfl rfl rfl (.assign rfl) ?_
     refine .nil ?_
     refine hK11 _ _ ?_
     refine .ret ?_
     -- leaf e1
     refine hret _ _ ?_
     refine ⟨_, rfl, ?_⟩
     exact .of (congrArg _ (decide_eq_false fun hh => by have := (NorK.iff.2 hh).bd (k := k) (by omega); omega))
    ·
     simp only [sps] at h15
     refine .skip ?_
     refine hK9 _ _ ?_
     refine .seq (fun K12 hK12 => ?_)
     refine .region ?_
     refine .m rfl rfl rfl (.move rfl) ?_
     refine .m rfl rfl rfl (.move rfl) ?_
     refine .m rfl rfl rfl (.cmp rfl rfl rfl) ?_
     refine .nil ?_
     refine hK12 _ _ ?_
     refine .cond rfl (fun h18 => ?_) (fun h18 => ?_)
     ·
      simp only [sps] at h18
      refine .region ?_
      refine .m rfl rfl rfl (.move rfl) ?_
      refine .m rfl rfl rfl (.add rfl rfl rfl (by omega) (by omega)) ?_
      refine .m rfl rfl rfl (.assign rfl) ?_
      refine .nil ?_
      refine hK7 _ _ ?_
      refine .region ?_
      refine .m rfl rfl rfl (.add rfl rfl rfl (by omega) (by omega)) ?_
      refine .m rfl rfl rfl (.move rfl) ?_
      refine .nil ?_
      refine hKL1 ((k + 1, _)) _ _ ?_ ?_ ⟨rfl, rfl, rfl, rfl, trivial⟩
      ·
       refine ⟨rfl, ?_⟩
       first
       | exact ⟨by omega, (hN.hi (by omega)).1, by rw [(hN.hi (by omega)).2]; omega⟩
       | exact ⟨by omega, (hN.lo (by omega) (by omega)).1, by rw [(hN.lo (by omega) (by omega)).2]; omega⟩
      ·
       (dsimp only; omega)
     ·
      simp only [sps] at h18
      refine .skip ?_
      refine hK7 _ _ ?_
      refine .region ?_
      refine .m rfl rfl rfl (.add rfl rfl rfl (by omega) (by omega)) ?_
      refine .m rfl rfl rfl (.move rfl) ?_
      refine .nil ?_
      refine hKL1 ((k + 1, _)) _ _ ?_ ?_ ⟨rfl, rfl, rfl, rfl, trivial⟩
      ·
       refine ⟨rfl, ?_⟩
       first
       | exact ⟨by omega, (hN.hi (by omega)).1, by rw [(hN.hi (by omega)).2]; omega⟩
       | exact ⟨by omega, (hN.lo (by omega) (by omega)).1, by rw [(hN.lo (by omega) (by omega)).2]; omega⟩
      ·
       (dsimp only; omega)
   ·
    try simp only [sps] at h9
    refine .exit ?_
    refine hK3 _ _ ?_
    refine .seq (fun K13 hK13 => ?_)
    refine .region ?_
    refine .m rfl rfl rfl (.assign rfl) ?_
    refine .nil ?_
    refine hK13 _ _ ?_
    refine .ret ?_
    -- leaf e2
    refine hret _ _ ?_
    refine ⟨_, rfl, ?_⟩
    obtain rfl : k = xs.length := by omega
    exact .of (congrArg _ (decide_eq_true (NorK.iff.1 hN)))
set_option maxHeartbeats 4000000 in
theorem isCongruence_c {g o : Nat} {c : Cat} {p : CatP} {a : Option Addr} {xs : List Int} {H : GHeap} (hc : Cat.At H g o c p := by assumption) (h : Ints H a xs := by assumption) (hs : c.Small := by assumption) (hl : xs.length ≤ 1048576 := by omega) (hI : c.Is := by assumption) :
    GCalls Try.prog 46 [.pointer (some ⟨g, o, none⟩), .slice a xs.length xs.length] H (Ret (.bool (B (c.Cong xs))) H) := by
  refine GCalls.ret rfl ?_
  have hKI := hI
  have hS := hI.1
  have b1 := hS.n40
  have b2 := hS.tl
  have b3 := hS.cl
  refine GCalls.body (N := 98) (rs := [.tmp 4]) Try.func46 rfl rfl rfl rfl (fun Qx hret hend => ?_)
  refine .forget (fr' := [(0, some _), (1, some _)]) ⟨rfl, rfl, trivial⟩ ?_
  have hle := GHeap.Le.refl H
  have base_hc := hc
  have base_h := h
  obtain ⟨c0, c1, c2, c3, c4, i1, i2, i3, i4⟩ := hc.get
  refine .seq (fun K1 hK1 => ?_)
  refine .region ?_
  refine .m rfl rfl rfl (.assign rfl) ?_
  refine .nil ?_
  refine hK1 _ _ ?_
  refine .seq (fun K2 hK2 => ?_)
  refine .seq (fun K3 hK3 => ?_)
  refine .region ?_
  refine .m rfl rfl rfl (.move rfl) ?_
  refine .m rfl rfl rfl (.len sl_22_A rfl) ?_
  refine .m rfl rfl rfl (.move rfl) ?_
  refine .callQ rfl rfl rfl rfl @Try.call88 rfl (arrows_c) ?_
  refine .m rfl rfl rfl (.cmp rfl rfl rfl) ?_
  refine .m rfl rfl rfl (.move rfl) ?_
  refine .split (fun h19 => ?_) (fun h19 => ?_)
  ·
   simp only [sps] at h19
   refine .sg rfl rfl rfl rfl rfl ?_
   refine .sg rfl rfl rfl rfl rfl ?_
   refine .sg rfl rfl rfl rfl rfl ?_
   refine .m rfl rfl rfl (.pickT rfl rfl) ?_
   refine .nil ?_
   refine hK3 _ _ ?_
   refine .condT rfl ?_
   refine .seq (fun K4 hK4 => ?_)
   refine .region ?_
   refine .m rfl rfl rfl (.assign rfl) ?_
   refine .nil ?_
   refine hK4 _ _ ?_
   refine .ret ?_
   -- leaf e1
   refine hret _ _ ?_
   refine ⟨_, rfl, ?_⟩
   first
   | exact ⟨congrArg _ (B_false fun (hh : c.Cong xs) => absurd hh.len (by omega)), hle⟩
   | exact ⟨congrArg _ (B_false fun (hh : c.Cong xs) => h23 hh.nor), hle⟩
   | exact ⟨congrArg _ (B_false fun (hh : c.Cong xs) => by
       have h7 := hh.par k (by have := hh.len; omega)
       rcases h51 with h8 | h8
       · exact h8 h7.1.symm
       · exact h8 h7.2.symm), hle⟩
   | exact ⟨congrArg _ (B_false fun (hh : c.Cong xs) => h95 (hh.cmp i (by omega) j (by omega) ei)), hle⟩
   | exact ⟨congrArg _ (B_true (show c.Cong xs from ⟨by omega, h23, fun k' hk' => hp k' (by omega), fun i' hi' j' hj' => hq i' (by omega) j' hj'⟩)), hle⟩
  ·
   simp only [sps] at h19
   refine .mg rfl rfl rfl rfl rfl (.move rfl) ?_
   refine .callQg rfl rfl rfl rfl rfl rfl @Try.call89 rfl (isNormal_c) ?_
   refine .mg rfl rfl rfl rfl rfl (.not rfl) ?_
   refine .m rfl rfl rfl (.pickF rfl rfl) ?_
   refine .nil ?_
   refine hK3 _ _ ?_
   refine .cond rfl (fun h23 => ?_) (fun h23 => ?_)
   ·
    simp only [sps] at h23
    refine .seq (fun K5 hK5 => ?_)
    refine .region ?_
    refine .m rfl rfl rfl (.assign rfl) ?_
    refine .nil ?_
    refine hK5 _ _ ?_
    refine .ret ?_
    -- leaf e2
    refine hret _ _ ?_
    refine ⟨_, rfl, ?_⟩
    first
    | exact ⟨congrArg _ (B_false fun (hh : c.Cong xs) => absurd hh.len (by omega)), hle⟩
    | exact ⟨congrArg _ (B_false fun (hh : c.Cong xs) => h23 hh.nor), hle⟩
    | exact ⟨congrArg _ (B_false fun (hh : c.Cong xs) => by
        have h7 := hh.par k (by have := hh.len; omega)
        rcases h51 with h8 | h8
        · exact h8 h7.1.symm
        · exact h8 h7.2.symm), hle⟩
    | exact ⟨congrArg _ (B_false fun (hh : c.Cong xs) => h95 (hh.cmp i (by omega) j (by omega) ei)), hle⟩
    | exact ⟨congrArg _ (B_true (show c.Cong xs from ⟨by omega, h23, fun k' hk' => hp k' (by omega), fun i' hi' j' hj' => hq i' (by omega) j' hj'⟩)), hle⟩
   ·
    simp only [sps] at h23
    refine .skip ?_
    refine hK2 _ _ ?_
    refine .seq (fun K6 hK6 => ?_)
    refine .region ?_
    refine .r rfl rfl rfl (.makeMapR rfl) ?_
    rintro _ H24 ⟨g24, rfl, le24, ge24, at24⟩
    have nx_H24 := le24.1
    replace hle := hle.trans le24
    have lt_at24 := GHeap.lt_of_get at24
    replace hc := base_hc.mono hle
    replace h := base_h.mono hle
    clear c0 c1 c2 c3 c4 i1 i2 i3 i4
    obtain ⟨c0, c1, c2, c3, c4, i1, i2, i3, i4⟩ := hc.get
    refine .m rfl rfl rfl (.assign rfl) ?_
    refine .nil ?_
    refine hK6 _ _ ?_
    refine .seq (fun K7 hK7 => ?_)
    refine .seq (fun K8 hK8 => ?_)
    refine .region ?_
    refine .m rfl rfl rfl (.move rfl) ?_
    refine .m rfl rfl rfl (.len sl_22_A rfl) ?_
    refine .m rfl rfl rfl (.move rfl) ?_
    refine .nil ?_
    refine hK8 _ _ ?_
    refine .block ?_
    refine .loopR (σ := Nat) [(0, some _), (1, some _), (5, some _), (25, some _), (26, some _)] (fun k => [(27, some (.int .i64 (k : Int)))]) (fun k H' => St [g24] H24 H' ∧ H'.get g24 = some (.map (imap ((firE xs k)))) ∧ k ≤ xs.length ∧ ∀ j, j < k → c.src.getD (rep xs j) 0 = c.src.getD j 0 ∧ c.tgt.getD (rep xs j) 0 = c.tgt.getD j 0) (fun k => xs.length - k) (0) ⟨rfl, rfl, rfl, rfl, rfl, trivial⟩ ⟨rfl, trivial⟩ ?_ ?_
    ·
     refine ⟨.refl _ _, by rw [firE_zero]; assumption, ?_⟩
     exact ⟨by omega, fun j hj => by omega⟩
    ·
     rintro k HL1 ⟨lst1, at_L5, hI⟩ KL1 hKL1
     refine .forget (fr' := [(27, some (.int .i64 (k : Int))), (0, some _), (1, some _), (5, some _), (25, some _), (26, some _)]) ⟨rfl, rfl, rfl, rfl, rfl, rfl, trivial⟩ ?_
     have nx_HL1 := lst1.nx
     replace hle := hle.st lst1 (fun k hk => ⟨by omega, trivial⟩)
     have lt_at_L5 := GHeap.lt_of_get at_L5
     replace hc := base_hc.mono hle
     replace h := base_h.mono hle
     clear c0 c1 c2 c3 c4 i1 i2 i3 i4
     obtain ⟨c0, c1, c2, c3, c4, i1, i2, i3, i4⟩ := hc.get
     obtain ⟨hk, hp⟩ := hI
     refine .seq (fun K9 hK9 => ?_)
     refine .region ?_
     refine .m rfl rfl rfl (.cmp rfl rfl rfl) ?_
     refine .nil ?_
     refine hK9 _ _ ?_
     refine .seq (fun K10 hK10 => ?_)
     refine .cond rfl (fun h28 => ?_) (fun h28 => ?_)
     ·
      simp only [sps] at h28
      have rk1 := rep_lt (xs := xs) (k := k) (n := c.src.length) (by omega)
      refine .skip ?_
      refine hK10 _ _ ?_
      refine .seq (fun K11 hK11 => ?_)
      refine .block ?_
      refine .seq (fun K12 hK12 => ?_)
      refine .region ?_
      refine .m rfl rfl rfl (.move rfl) ?_
      refine .m rfl rfl rfl (.idxN sl_22_A (by assumption) rfl rfl (by omega)) ?_
      refine .m rfl rfl rfl (.loadI on_2_A (by assumption) rfl (by omega)) ?_
      refine .m rfl rfl rfl (.assign rfl) ?_
      refine .m rfl rfl rfl (.assign rfl) ?_
      refine .nil ?_
      refine hK12 _ _ ?_
      refine .seq (fun K13 hK13 => ?_)
      refine .seq (fun K14 hK14 => ?_)
      refine .region ?_
      refine .m rfl rfl rfl (.move rfl) ?_
      refine .m rfl rfl rfl (.move rfl) ?_
      refine .d rfl rfl rfl (.lookupR rfl mp_128_Qi zv_2_Qi rfl rfl (by assumption) CIs.mk) ?_
      refine .m rfl rfl rfl (.move rfl) ?_
      refine .m rfl rfl rfl (.extract rfl rfl) ?_
      refine .m rfl rfl rfl (.extract rfl rfl) ?_
      refine .m rfl rfl rfl (.assign rfl) ?_
      refine .m rfl rfl rfl (.assign rfl) ?_
      refine .nil ?_
      refine hK14 _ _ ?_
      refine .seq (fun K15 hK15 => ?_)
      refine .region ?_
      refine .m rfl rfl rfl (.move rfl) ?_
      refine .m rfl rfl rfl (.not rfl) ?_
      refine .nil ?_
      refine hK15 _ _ ?_
      refine .cond rfl (fun h39 => ?_) (fun h39 => ?_)
      ·
       simp only [sps] at h39
       have q0 : lookE (firE xs k) (xs.getD k 0) = none := by cases hq : lookE (firE xs k) (xs.getD k 0) with | none => rfl | some v => (rw [hq] at h39; cases h39)
       obtain ⟨q1, q2⟩ := lookE_firN q0
       refine .region ?_
       refine .m rfl rfl rfl (.move rfl) ?_
       refine .m rfl rfl rfl (.move rfl) ?_
       refine .m rfl rfl rfl (.move rfl) ?_
       refine .r0 rfl rfl (.mapPutR rfl mp_128_Qi rfl rfl rfl (by assumption) (by assumption)) ?_
       rintro _ H9003 ⟨rfl, st9003, at9003⟩
       have nx_H9003 := st9003.nx
       replace hle := hle.st st9003 (fun k hk => ⟨by omega, trivial⟩)
       replace lst1 := lst1.st st9003 (fun k hk ho => by simp only [out, and_true] at ho ⊢ <;> omega)
       have lt_at9003 := GHeap.lt_of_get at9003
       replace hc := base_hc.mono hle
       replace h := base_h.mono hle
       clear c0 c1 c2 c3 c4 i1 i2 i3 i4
       obtain ⟨c0, c1, c2, c3, c4, i1, i2, i3, i4⟩ := hc.get
       refine .nil ?_
       refine hK13 _ _ ?_
       refine .seq (fun K16 hK16 => ?_)
       refine .regionD mixed_orders_B (.q 0 (.q 1 (.q 3 (.q 4 (.q 5 (.q 6 (.c 2 1 (.c 7 0 (.q 8 (.done)))))))))) (by kernel_rfl) ?_
       refine .m rfl rfl rfl rfl (.refl _) (.move rfl) ?_
       refine .m rfl rfl rfl rfl (.refl _) (.move rfl) ?_
       refine .m rfl rfl rfl rfl (.refl _) (.move rfl) ?_
       refine .m rfl rfl rfl rfl (.refl _) (.move rfl) ?_
       refine .m rfl rfl rfl rfl (.refl _) (.move rfl) ?_
       refine .m rfl rfl rfl rfl (.refl _) (.lookup1 mp_128_Qi zv_2_Qi rfl rfl (by assumption)) ?_
       refine .callQ1 rfl rfl rfl rfl rfl @Try.call90 rfl (ends_c) (.refl _) ?_
       refine .callQ0 rfl rfl rfl rfl rfl @Try.call90 rfl (ends_c) ?_
       refine .m rfl rfl rfl rfl (.refl _) (.aggNe eg_131_B rfl rfl rfl rfl (aggEq_131 _ _ _ _)) ?_
       refine .done ?_
       refine hK16 _ _ ?_
       refine .cond rfl (fun h51 => ?_) (fun h51 => ?_)
       ·
        simp only [sps] at h51
        simp only [q2, Int.toNat_natCast] at h51
        refine .seq (fun K17 hK17 => ?_)
        refine .region ?_
        refine .m rfl rfl rfl (.assign rfl) ?_
        refine .nil ?_
        refine hK17 _ _ ?_
        refine .ret ?_
        -- leaf e3
        refine hret _ _ ?_
        refine ⟨_, rfl, ?_⟩
        first
        | exact ⟨congrArg _ (B_false fun (hh : c.Cong xs) => absurd hh.len (by omega)), hle⟩
        | exact ⟨congrArg _ (B_false fun (hh : c.Cong xs) => h23 hh.nor), hle⟩
        | exact ⟨congrArg _ (B_false fun (hh : c.Cong xs) => by
            have h7 := hh.par k (by have := hh.len; omega)
            rcases h51 with h8 | h8
            · exact h8 h7.1.symm
            · exact h8 h7.2.symm), hle⟩
        | exact ⟨congrArg _ (B_false fun (hh : c.Cong xs) => h95 (hh.cmp i (by omega) j (by omega) ei)), hle⟩
        | exact ⟨congrArg _ (B_true (show c.Cong xs from ⟨by omega, h23, fun k' hk' => hp k' (by omega), fun i' hi' j' hj' => hq i' (by omega) j' hj'⟩)), hle⟩
       ·
        simp only [sps] at h51
        simp only [q2, Int.toNat_natCast] at h51
        refine .skip ?_
        refine hK11 _ _ ?_
        refine .region ?_
        refine .m rfl rfl rfl (.add rfl rfl rfl (by omega) (by omega)) ?_
        refine .m rfl rfl rfl (.move rfl) ?_
        refine .nil ?_
        refine hKL1 (k + 1) _ _ ?_ ?_ ⟨rfl, rfl, rfl, rfl, rfl, rfl, trivial⟩
        ·
         refine ⟨lst1, by first | assumption | (rw [firE_new q1]; assumption) | (rw [firE_old q1]; assumption), ?_⟩
         refine ⟨by omega, fun j hj => ?_⟩
         by_cases e : j < k
         · exact hp j e
         · obtain rfl : j = k := by omega
           exact ⟨h51.1.symm, h51.2.symm⟩
        ·
         omega
      ·
       simp only [sps] at h39
       obtain ⟨v, hv⟩ : ∃ v, lookE (firE xs k) (xs.getD k 0) = some v := by cases hq : lookE (firE xs k) (xs.getD k 0) with | none => (rw [hq] at h39; cases h39) | some v => exact ⟨v, rfl⟩
       obtain ⟨q1, q2⟩ := lookE_firS (xs := xs) (k := k) hv
       refine .skip ?_
       refine hK13 _ _ ?_
       refine .seq (fun K18 hK18 => ?_)
       refine .regionD mixed_orders_B (.q 0 (.q 1 (.q 3 (.q 4 (.q 5 (.q 6 (.c 2 1 (.c 7 0 (.q 8 (.done)))))))))) (by kernel_rfl) ?_
       refine .m rfl rfl rfl rfl (.refl _) (.move rfl) ?_
       refine .m rfl rfl rfl rfl (.refl _) (.move rfl) ?_
       refine .m rfl rfl rfl rfl (.refl _) (.move rfl) ?_
       refine .m rfl rfl rfl rfl (.refl _) (.move rfl) ?_
       refine .m rfl rfl rfl rfl (.refl _) (.move rfl) ?_
       refine .m rfl rfl rfl rfl (.refl _) (.lookup1 mp_128_Qi zv_2_Qi rfl rfl (by assumption)) ?_
       refine .callQ1 rfl rfl rfl rfl rfl @Try.call90 rfl (ends_c) (.refl _) ?_
       refine .callQ0 rfl rfl rfl rfl rfl @Try.call90 rfl (ends_c) ?_
       refine .m rfl rfl rfl rfl (.refl _) (.aggNe eg_131_B rfl rfl rfl rfl (aggEq_131 _ _ _ _)) ?_
       refine .done ?_
       refine hK18 _ _ ?_
       refine .cond rfl (fun h51 => ?_) (fun h51 => ?_)
       ·
        simp only [sps] at h51
        simp only [q2, Int.toNat_natCast] at h51
        refine .seq (fun K19 hK19 => ?_)
        refine .region ?_
        refine .m rfl rfl rfl (.assign rfl) ?_
        refine .nil ?_
        refine hK19 _ _ ?_
        refine .ret ?_
        -- leaf e4
        refine hret _ _ ?_
        refine ⟨_, rfl, ?_⟩
        first
        | exact ⟨congrArg _ (B_false fun (hh : c.Cong xs) => absurd hh.len (by omega)), hle⟩
        | exact ⟨congrArg _ (B_false fun (hh : c.Cong xs) => h23 hh.nor), hle⟩
        | exact ⟨congrArg _ (B_false fun (hh : c.Cong xs) => by
            have h7 := hh.par k (by have := hh.len; omega)
            rcases h51 with h8 | h8
            · exact h8 h7.1.symm
            · exact h8 h7.2.symm), hle⟩
        | exact ⟨congrArg _ (B_false fun (hh : c.Cong xs) => h95 (hh.cmp i (by omega) j (by omega) ei)), hle⟩
        | exact ⟨congrArg _ (B_true (show c.Cong xs from ⟨by omega, h23, fun k' hk' => hp k' (by omega), fun i' hi' j' hj' => hq i' (by omega) j' hj'⟩)), hle⟩
       ·
        simp only [sps] at h51
        simp only [q2, Int.toNat_natCast] at h51
        refine .skip ?_
        refine hK11 _ _ ?_
        refine .region ?_
        refine .m rfl rfl rfl (.add rfl rfl rfl (by omega) (by omega)) ?_
        refine .m rfl rfl rfl (.move rfl) ?_
        refine .nil ?_
        refine hKL1 (k + 1) _ _ ?_ ?_ ⟨rfl, rfl, rfl, rfl, rfl, rfl, trivial⟩
        ·
         refine ⟨lst1, by first | assumption | (rw [firE_new q1]; assumption) | (rw [firE_old q1]; assumption), ?_⟩
         refine ⟨by omega, fun j hj => ?_⟩
         by_cases e : j < k
         · exact hp j e
         · obtain rfl : j = k := by omega
           exact ⟨h51.1.symm, h51.2.symm⟩
        ·
         omega
     ·
      try simp only [sps] at h28
      refine .exit ?_
      refine hK7 _ _ ?_
      refine .seq (fun K20 hK20 => ?_)
      refine .seq (fun K21 hK21 => ?_)
      refine .region ?_
      refine .m rfl rfl rfl (.move rfl) ?_
      refine .m rfl rfl rfl (.nilCheck rfl) ?_
      refine .m rfl rfl rfl (.fieldAddr fo_27_4_B rfl) ?_
      refine .m rfl rfl rfl (.load on_23_B rfl (by assumption)) ?_
      refine .m rfl rfl rfl (.len sl_23_B rfl) ?_
      refine .m rfl rfl rfl (.move rfl) ?_
      refine .nil ?_
      refine hK21 _ _ ?_
      refine .block ?_
      refine .loopR (σ := Nat) [(0, some _), (1, some _), (5, some _), (56, some _), (57, some _)] (fun i => [(58, some (.int .i64 (i : Int)))]) (fun i H' => HL1 = H' ∧ i ≤ c.comp.length ∧ ∀ i', i' < i → ∀ j, j < c.src.length → c.tgt.getD i' 0 = c.src.getD j 0 → xs.getD (c.tn i' j) 0 = xs.getD (c.tn (rep xs i') (rep xs j)) 0) (fun i => c.comp.length - i) (0) ⟨rfl, rfl, rfl, rfl, rfl, trivial⟩ ⟨rfl, trivial⟩ ?_ ?_
      ·
       refine ⟨rfl, ?_⟩
       exact ⟨by omega, fun j hj => by omega⟩
      ·
       rintro i _ ⟨rfl, hI⟩ KL2 hKL2
       refine .forget (fr' := [(58, some (.int .i64 (i : Int))), (0, some _), (1, some _), (5, some _), (56, some _), (57, some _)]) ⟨rfl, rfl, rfl, rfl, rfl, rfl, trivial⟩ ?_
       obtain ⟨hi, hq⟩ := hI
       refine .seq (fun K22 hK22 => ?_)
       refine .region ?_
       refine .m rfl rfl rfl (.cmp rfl rfl rfl) ?_
       refine .nil ?_
       refine hK22 _ _ ?_
       refine .seq (fun K23 hK23 => ?_)
       refine .cond rfl (fun h59 => ?_) (fun h59 => ?_)
       ·
        simp only [sps] at h59
        have hrow := hS.row i (by omega)
        have u1 := i4.2 i (by omega)
        refine .skip ?_
        refine hK23 _ _ ?_
        refine .seq (fun K24 hK24 => ?_)
        refine .block ?_
        refine .seq (fun K25 hK25 => ?_)
        refine .region ?_
        refine .m rfl rfl rfl (.move rfl) ?_
        refine .m rfl rfl rfl (.idxN sl_23_B (Intss.sl (by assumption)) rfl rfl (by omega)) ?_
        refine .m rfl rfl rfl (.loadR on_22_B (by assumption) rfl (by omega)) ?_
        refine .m rfl rfl rfl (.assign rfl) ?_
        refine .m rfl rfl rfl (.assign rfl) ?_
        refine .nil ?_
        refine hK25 _ _ ?_
        refine .seq (fun K26 hK26 => ?_)
        refine .region ?_
        refine .m rfl rfl rfl (.move rfl) ?_
        refine .m rfl rfl rfl (.len sl_22_A rfl) ?_
        refine .m rfl rfl rfl (.move rfl) ?_
        refine .nil ?_
        refine hK26 _ _ ?_
        refine .block ?_
        refine .loopR (σ := Nat) [(0, some _), (1, some _), (5, some _), (10, some _), (56, some _), (57, some _), (58, some _), (63, some _), (64, some _)] (fun j => [(65, some (.int .i64 (j : Int)))]) (fun j H' => HL1 = H' ∧ j ≤ (c.comp.getD i []).length ∧ ∀ j', j' < j → c.tgt.getD i 0 = c.src.getD j' 0 → xs.getD (c.tn i j') 0 = xs.getD (c.tn (rep xs i) (rep xs j')) 0) (fun j => (c.comp.getD i []).length - j) (0) ⟨rfl, rfl, rfl, rfl, rfl, rfl, rfl, rfl, rfl, trivial⟩ ⟨rfl, trivial⟩ ?_ ?_
        ·
         refine ⟨rfl, ?_⟩
         exact ⟨by omega, fun j hj => by omega⟩
        ·
         rintro j _ ⟨rfl, hI⟩ KL3 hKL3
         refine .forget (fr' := [(65, some (.int .i64 (j : Int))), (0, some _), (1, some _), (5, some _), (10, some _), (56, some _), (57, some _), (58, some _), (63, some _), (64, some _)]) ⟨rfl, rfl, rfl, rfl, rfl, rfl, rfl, rfl, rfl, rfl, trivial⟩ ?_
         obtain ⟨hj, hr⟩ := hI
         refine .seq (fun K27 hK27 => ?_)
         refine .region ?_
         refine .m rfl rfl rfl (.cmp rfl rfl rfl) ?_
         refine .nil ?_
         refine hK27 _ _ ?_
         refine .seq (fun K28 hK28 => ?_)
         refine .cond rfl (fun h66 => ?_) (fun h66 => ?_)
         ·
          simp only [sps] at h66
          refine .skip ?_
          refine hK28 _ _ ?_
          refine .seq (fun K29 hK29 => ?_)
          refine .block ?_
          refine .seq (fun K30 hK30 => ?_)
          refine .region ?_
          refine .m rfl rfl rfl (.move rfl) ?_
          refine .m rfl rfl rfl (.idxN sl_22_A (by assumption) rfl rfl (by omega)) ?_
          refine .m rfl rfl rfl (.loadI on_2_A (by assumption) rfl (by omega)) ?_
          refine .m rfl rfl rfl (.assign rfl) ?_
          refine .m rfl rfl rfl (.assign rfl) ?_
          refine .nil ?_
          refine hK30 _ _ ?_
          refine .seq (fun K31 hK31 => ?_)
          refine .regionD mixed_orders_B (.q 0 (.q 1 (.q 2 (.q 3 (.q 4 (.q 5 (.q 6 (.q 7 (.q 8 (.q 9 (.q 10 (.q 11 (.q 12 (.q 13 (.q 14 (.q 15 (.q 16 (.q 17 (.q 18 (.q 19 (.q 20 (.c 21 1 (.q 22 (.q 23 (.q 24 (.q 25 (.done))))))))))))))))))))))))))) (by kernel_rfl) ?_
          refine .m rfl rfl rfl rfl (.refl _) (.move rfl) ?_
          refine .m rfl rfl rfl rfl (.refl _) (.cmp rfl rfl rfl) ?_
          refine .m rfl rfl rfl rfl (.refl _) (.move rfl) ?_
          refine .split (fun h72 => ?_) (fun h72 => ?_)
          ·
           simp only [sps] at h72
           have ei : c.tgt.getD i 0 = c.src.getD j 0 := (hS.th_ge (f := i) (g := j) (by omega) (by omega)).1 h72
           obtain ⟨t1, _, _, t4⟩ := hS.tn (a := i) (b := j) (by omega) (by omega) ei
           have g1 := lookE_firA (xs := xs) (i := i) (n := k) (by omega)
           have g2 := lookE_firA (xs := xs) (i := j) (n := k) (by omega)
           have ri := rep_lt (xs := xs) (k := i) (n := c.src.length) (by omega)
           have rj := rep_lt (xs := xs) (k := j) (n := c.src.length) (by omega)
           obtain ⟨p1, p2⟩ := hp i (by omega)
           obtain ⟨p3, p4⟩ := hp j (by omega)
           obtain ⟨t5, _, _, t8⟩ := hS.tn ri rj (by rw [p2, p3]; exact ei)
           have g4 : (c.comp.getD ((lookE (firE xs k) (xs.getD i 0)).getD 0).toNat []).length = c.src.length := by rw [g1, Int.toNat_natCast]; exact hS.row _ (by omega)
           have g3 : c.th ((lookE (firE xs k) (xs.getD i 0)).getD 0) ((lookE (firE xs k) (xs.getD j 0)).getD 0) = (c.tn (rep xs i) (rep xs j) : Int) := by unfold Cat.th; rw [g1, g2, Int.toNat_natCast, Int.toNat_natCast]; exact t8
           refine .mg rfl rfl rfl rfl rfl rfl (.refl _) (.move rfl) ?_
           refine .mg rfl rfl rfl rfl rfl rfl (.refl _) (.move rfl) ?_
           refine .mg rfl rfl rfl rfl rfl rfl (.refl _) (.idx1 sl_22_A (by assumption) rfl rfl (by omega) (by omega)) ?_
           refine .mg rfl rfl rfl rfl rfl rfl (.refl _) (.loadI on_2_A (by assumption) rfl (by omega)) ?_
           refine .mg rfl rfl rfl rfl rfl rfl (.refl _) (.move rfl) ?_
           refine .mg rfl rfl rfl rfl rfl rfl (.refl _) (.move rfl) ?_
           refine .mg rfl rfl rfl rfl rfl rfl (.refl _) (.move rfl) ?_
           refine .mg rfl rfl rfl rfl rfl rfl (.refl _) (.move rfl) ?_
           refine .mg rfl rfl rfl rfl rfl rfl (.refl _) (.move rfl) ?_
           refine .mg rfl rfl rfl rfl rfl rfl (.refl _) (.idxN sl_22_A (by assumption) rfl rfl (by omega)) ?_
           refine .mg rfl rfl rfl rfl rfl rfl (.refl _) (.loadI on_2_A (by assumption) rfl (by omega)) ?_
           refine .mg rfl rfl rfl rfl rfl rfl (.refl _) (.lookup1 mp_128_Qi zv_2_Qi rfl rfl (by assumption)) ?_
           refine .mg rfl rfl rfl rfl rfl rfl (.refl _) (.move rfl) ?_
           refine .mg rfl rfl rfl rfl rfl rfl (.refl _) (.move rfl) ?_
           refine .mg rfl rfl rfl rfl rfl rfl (.refl _) (.move rfl) ?_
           refine .mg rfl rfl rfl rfl rfl rfl (.refl _) (.idxN sl_22_A (by assumption) rfl rfl (by omega)) ?_
           refine .mg rfl rfl rfl rfl rfl rfl (.refl _) (.loadI on_2_A (by assumption) rfl (by omega)) ?_
           refine .mg rfl rfl rfl rfl rfl rfl (.refl _) (.lookup1 mp_128_Qi zv_2_Qi rfl rfl (by assumption)) ?_
           refine .callQ1g rfl rfl rfl rfl rfl rfl rfl @Try.call76 rfl (then_s) (.refl _) ?_
           refine .mg rfl rfl rfl rfl rfl rfl (.refl _) (.idx1 sl_22_A (by assumption) rfl rfl (by omega) (by omega)) ?_
           refine .mg rfl rfl rfl rfl rfl rfl (.refl _) (.loadI on_2_A (by assumption) rfl (by omega)) ?_
           refine .mg rfl rfl rfl rfl rfl rfl (.refl _) (.cmp rfl rfl rfl) ?_
           refine .m rfl rfl rfl rfl (.refl _) (.pickT rfl rfl) ?_
           refine .done ?_
           refine hK31 _ _ ?_
           refine .cond rfl (fun h95 => ?_) (fun h95 => ?_)
           ·
            simp only [sps] at h95
            simp only [g3, Int.toNat_natCast] at h95
            try have hcell : c.tgt.getD i 0 = c.src.getD j 0 → xs.getD (c.tn i j) 0 = xs.getD (c.tn (rep xs i) (rep xs j)) 0 := fun _ => h95
            refine .seq (fun K32 hK32 => ?_)
            refine .region ?_
            refine .m rfl rfl rfl (.assign rfl) ?_
            refine .nil ?_
            refine hK32 _ _ ?_
            refine .ret ?_
            -- leaf e5
            refine hret _ _ ?_
            refine ⟨_, rfl, ?_⟩
            first
            | exact ⟨congrArg _ (B_false fun (hh : c.Cong xs) => absurd hh.len (by omega)), hle⟩
            | exact ⟨congrArg _ (B_false fun (hh : c.Cong xs) => h23 hh.nor), hle⟩
            | exact ⟨congrArg _ (B_false fun (hh : c.Cong xs) => by
                have h7 := hh.par k (by have := hh.len; omega)
                rcases h51 with h8 | h8
                · exact h8 h7.1.symm
                · exact h8 h7.2.symm), hle⟩
            | exact ⟨congrArg _ (B_false fun (hh : c.Cong xs) => h95 (hh.cmp i (by omega) j (by omega) ei)), hle⟩
            | exact ⟨congrArg _ (B_true (show c.Cong xs from ⟨by omega, h23, fun k' hk' => hp k' (by omega), fun i' hi' j' hj' => hq i' (by omega) j' hj'⟩)), hle⟩
           ·
            simp only [sps] at h95
            simp only [g3, Int.toNat_natCast] at h95
            try have hcell : c.tgt.getD i 0 = c.src.getD j 0 → xs.getD (c.tn i j) 0 = xs.getD (c.tn (rep xs i) (rep xs j)) 0 := fun _ => h95
            refine .skip ?_
            refine hK29 _ _ ?_
            refine .region ?_
            refine .m rfl rfl rfl (.add rfl rfl rfl (by omega) (by omega)) ?_
            refine .m rfl rfl rfl (.move rfl) ?_
            refine .nil ?_
            refine hKL3 (j + 1) _ _ ?_ ?_ ⟨rfl, rfl, rfl, rfl, rfl, rfl, rfl, rfl, rfl, rfl, trivial⟩
            ·
             refine ⟨rfl, ?_⟩
             refine ⟨by omega, fun j' hj' => ?_⟩
             by_cases e : j' < j
             · exact hr j' e
             · obtain rfl : j' = j := by omega
               exact hcell
            ·
             omega
          ·
           simp only [sps] at h72
           have hcell : c.tgt.getD i 0 = c.src.getD j 0 → xs.getD (c.tn i j) 0 = xs.getD (c.tn (rep xs i) (rep xs j)) 0 := fun e => by have h9 := (hS.th_ge (f := i) (g := j) (by omega) (by omega)).2 e; rw [Cat.th_nat] at h9; omega
           refine .sg rfl rfl rfl rfl rfl rfl ?_
           refine .sg rfl rfl rfl rfl rfl rfl ?_
           refine .sg rfl rfl rfl rfl rfl rfl ?_
           refine .sg rfl rfl rfl rfl rfl rfl ?_
           refine .sg rfl rfl rfl rfl rfl rfl ?_
           refine .sg rfl rfl rfl rfl rfl rfl ?_
           refine .sg rfl rfl rfl rfl rfl rfl ?_
           refine .sg rfl rfl rfl rfl rfl rfl ?_
           refine .sg rfl rfl rfl rfl rfl rfl ?_
           refine .sg rfl rfl rfl rfl rfl rfl ?_
           refine .sg rfl rfl rfl rfl rfl rfl ?_
           refine .sg rfl rfl rfl rfl rfl rfl ?_
           refine .sg rfl rfl rfl rfl rfl rfl ?_
           refine .sg rfl rfl rfl rfl rfl rfl ?_
           refine .sg rfl rfl rfl rfl rfl rfl ?_
           refine .sg rfl rfl rfl rfl rfl rfl ?_
           refine .sg rfl rfl rfl rfl rfl rfl ?_
           refine .sg rfl rfl rfl rfl rfl rfl ?_
           refine .sgc rfl rfl rfl rfl rfl rfl ?_
           refine .sg rfl rfl rfl rfl rfl rfl ?_
           refine .sg rfl rfl rfl rfl rfl rfl ?_
           refine .sg rfl rfl rfl rfl rfl rfl ?_
           refine .m rfl rfl rfl rfl (.refl _) (.pickF rfl rfl) ?_
           refine .done ?_
           refine hK31 _ _ ?_
           refine .condF rfl ?_
           refine .skip ?_
           refine hK29 _ _ ?_
           refine .region ?_
           refine .m rfl rfl rfl (.add rfl rfl rfl (by omega) (by omega)) ?_
           refine .m rfl rfl rfl (.move rfl) ?_
           refine .nil ?_
           refine hKL3 (j + 1) _ _ ?_ ?_ ⟨rfl, rfl, rfl, rfl, rfl, rfl, rfl, rfl, rfl, rfl, trivial⟩
           ·
            refine ⟨rfl, ?_⟩
            refine ⟨by omega, fun j' hj' => ?_⟩
            by_cases e : j' < j
            · exact hr j' e
            · obtain rfl : j' = j := by omega
              exact hcell
           ·
            omega
         ·
          try simp only [sps] at h66
          refine .exit ?_
          refine hK24 _ _ ?_
          refine .region ?_
          refine .m rfl rfl rfl (.add rfl rfl rfl (by omega) (by omega)) ?_
          refine .m rfl rfl rfl (.move rfl) ?_
          refine .nil ?_
          refine hKL2 (i + 1) _ _ ?_ ?_ ⟨rfl, rfl, rfl, rfl, rfl, rfl, trivial⟩
          ·
           refine ⟨rfl, ?_⟩
           refine ⟨by omega, fun i' hi' => ?_⟩
           by_cases e : i' < i
           · exact hq i' e
           · obtain rfl : i' = i := by omega
             exact fun j' hj' => hr j' (by omega)
          ·
           omega
       ·
        try simp only [sps] at h59
        refine .exit ?_
        refine hK20 _ _ ?_
        refine .seq (fun K33 hK33 => ?_)
        refine .region ?_
        refine .m rfl rfl rfl (.assign rfl) ?_
        refine .nil ?_
        refine hK33 _ _ ?_
        refine .ret ?_
        -- leaf e6
        refine hret _ _ ?_
        refine ⟨_, rfl, ?_⟩
        first
        | exact ⟨congrArg _ (B_false fun (hh : c.Cong xs) => absurd hh.len (by omega)), hle⟩
        | exact ⟨congrArg _ (B_false fun (hh : c.Cong xs) => h23 hh.nor), hle⟩
        | exact ⟨congrArg _ (B_false fun (hh : c.Cong xs) => by
            have h7 := hh.par k (by have := hh.len; omega)
            rcases h51 with h8 | h8
            · exact h8 h7.1.symm
            · exact h8 h7.2.symm), hle⟩
        | exact ⟨congrArg _ (B_false fun (hh : c.Cong xs) => h95 (hh.cmp i (by omega) j (by omega) ei)), hle⟩
        | exact ⟨congrArg _ (B_true (show c.Cong xs from ⟨by omega, h23, fun k' hk' => hp k' (by omega), fun i' hi' j' hj' => hq i' (by omega) j' hj'⟩)), hle⟩
theorem quotient1_c {c : Cat} {p : CatP} {g o gp gc gf a b i j : Nat} {xs fs : List Int} {ap af : Option Addr} {e1 e2 e3 : TypeId} {H : GHeap} (hc : Cat.At H g o c p) (hP : H.get gp = some (.row [.slice ap xs.length xs.length] e1 true)) (hx : Ints H ap xs)
    (hC : H.get gc = some (.row [.pointer (some ⟨g, o, none⟩)] e2 true)) (hF : H.get gf = some (.row [.slice af fs.length fs.length] e3 true)) (hf : Ints H af fs) (hS : c.Shape) (hl : xs.length = c.src.length) (ha : a < fs.length) (hb : b < fs.length)
    (h1 : fs.getD a 0 = (i : Int)) (h2 : fs.getD b 0 = (j : Int)) (hi : i < c.src.length) (hj : j < c.src.length) (e : c.tgt.getD i 0 = c.src.getD j 0) :
    GCalls Try.prog 94 [.int .i64 (a : Int), .int .i64 (b : Int), .pointer (some ⟨gp, 0, none⟩), .pointer (some ⟨gc, 0, none⟩), .pointer (some ⟨gf, 0, none⟩)] H (Ret (.int .i64 (xs.getD (c.tn i j) 0)) H) := by
  have k1 : H.cell gp 0 = some (.slice ap xs.length xs.length) := by rw [GHeap.cell_of hP]; rfl
  have k2 : H.cell gc 0 = some (.pointer (some ⟨g, o, none⟩)) := by rw [GHeap.cell_of hC]; rfl
  have k3 : H.cell gf 0 = some (.slice af fs.length fs.length) := by rw [GHeap.cell_of hF]; rfl
  obtain ⟨q1, _, _, q2⟩ := hS.tn hi hj e
  have q3 : c.th (fs.getD a 0) (fs.getD b 0) = (c.tn i j : Int) := by unfold Cat.th; rw [h1, h2, Int.toNat_natCast, Int.toNat_natCast]; exact q2
  have b3 := hS.cl
  refine GCalls.body (N := 21) (rs := [.tmp 7]) Try.func94 rfl rfl rfl rfl (fun Qx hret hend => ?_)
  refine .forget (fr' := [(0, some _), (1, some _), (2, some _), (3, some _), (4, some _)]) ⟨rfl, rfl, rfl, rfl, rfl, trivial⟩ ?_
  refine .seq (fun K1 hK1 => ?_)
  refine .region ?_
  refine .m rfl rfl rfl (.assign rfl) ?_
  refine .nil ?_
  refine hK1 _ _ ?_
  refine .seq (fun K2 hK2 => ?_)
  refine .regionD mixed_orders_B (.q 0 (.q 1 (.q 2 (.q 3 (.q 4 (.q 5 (.q 6 (.q 7 (.q 8 (.q 9 (.c 10 1 (.q 11 (.q 12 (.q 13 (.done))))))))))))))) (by kernel_rfl) ?_
  refine .m rfl rfl rfl rfl (.refl _) (.load on_88_Qi rfl (by assumption)) ?_
  refine .m rfl rfl rfl rfl (.refl _) (.load on_109_Qi rfl (by assumption)) ?_
  refine .m rfl rfl rfl rfl (.refl _) (.load on_22_B rfl (by assumption)) ?_
  refine .m rfl rfl rfl rfl (.refl _) (.move rfl) ?_
  refine .m rfl rfl rfl rfl (.refl _) (.idxN sl_22_A (by assumption) rfl rfl (by omega)) ?_
  refine .m rfl rfl rfl rfl (.refl _) (.loadI on_2_A (by assumption) rfl (by omega)) ?_
  refine .m rfl rfl rfl rfl (.refl _) (.load on_22_B rfl (by assumption)) ?_
  refine .m rfl rfl rfl rfl (.refl _) (.move rfl) ?_
  refine .m rfl rfl rfl rfl (.refl _) (.idxN sl_22_A (by assumption) rfl rfl (by omega)) ?_
  refine .m rfl rfl rfl rfl (.refl _) (.loadI on_2_A (by assumption) rfl (by omega)) ?_
  refine .callQ1 rfl rfl rfl rfl rfl @Try.call76 rfl (then_s) (.refl _) ?_
  refine .m rfl rfl rfl rfl (.refl _) (.idx1 sl_88_Pb (by assumption) rfl rfl (by omega) (by omega)) ?_
  refine .m rfl rfl rfl rfl (.refl _) (.loadI on_2_A (by assumption) rfl (by omega)) ?_
  refine .m rfl rfl rfl rfl (.refl _) (.assign rfl) ?_
  refine .done ?_
  refine hK2 _ _ ?_
  refine .ret ?_
  -- leaf e1
  refine hret _ _ ?_
  refine ⟨_, rfl, ?_⟩
  exact .of (by rw [q3, Int.toNat_natCast])
end Go.Proofs.Ytfejmmaeigbfkaa
/- Rows of their own beside other blocks; tables that are filled row by row. No condition. -/
namespace Go.GL
/-- None of the first n rows lies in one of these blocks. -/
def Off (r : Nat → Option Addr) (n : Nat) (gs : List Nat) : Prop := ∀ i, i < n → ∀ g, r i = some ⟨g, 0, none⟩ → out gs g
theorem Off.nil (r : Nat → Option Addr) (n : Nat) : Off r n [] := fun _ _ _ _ => trivial
theorem Off.cons {r : Nat → Option Addr} {n g : Nat} {gs : List Nat} (h : ∀ i, i < n → r i ≠ some ⟨g, 0, none⟩) (h' : Off r n gs) : Off r n (g :: gs) := fun i hi k hk => ⟨fun e => h i hi (by rw [hk, e]), h' i hi k hk⟩
theorem Off.head {r : Nat → Option Addr} {n g : Nat} {gs : List Nat} (h : Off r n (g :: gs)) : ∀ i, i < n → r i ≠ some ⟨g, 0, none⟩ := fun i hi e => (h i hi g e).1 rfl
theorem Off.tail {r : Nat → Option Addr} {n g : Nat} {gs : List Nat} (h : Off r n (g :: gs)) : Off r n gs := fun i hi k hk => (h i hi k hk).2
theorem Off.zero (r : Nat → Option Addr) (gs : List Nat) : Off r 0 gs := fun _ hi => by omega
theorem OwnRows.st {b k : Nat} {bs : List Nat} {H H' : GHeap} {e : TypeId} {r : Nat → Option Addr} {X : Nat → List Int} (h : OwnRows b H e r X k) (s : St bs H H') (ho : Off r k bs) : OwnRows b H' e r X k := ⟨fun i hi => by
  obtain ⟨x, h1, h2, h3⟩ := h.row i hi
  exact ⟨x, h1, h2, s.same x _ (ho i hi x h1) h3⟩, h.inj⟩
theorem OwnL.st {b : Nat} {bs : List Nat} {H H' : GHeap} {e : TypeId} {r : Nat → Option Addr} {xss : List (List Int)} (h : OwnL b H e r xss) (s : St bs H H') (ho : Off r xss.length bs) : OwnL b H' e r xss := OwnRows.st h s ho
theorem OwnL.ne {b g : Nat} {H : GHeap} {e : TypeId} {r : Nat → Option Addr} {xss : List (List Int)} (h : OwnL b H e r xss) (hg : H.next ≤ g) : ∀ i, i < xss.length → r i ≠ some ⟨g, 0, none⟩ := fun i hi e => by
  obtain ⟨x, h1, _, h3⟩ := h.row i hi
  rw [h1] at e
  cases e
  have := GHeap.lt_of_get h3
  omega
/-- A block of another kind. -/
theorem OwnL.neT {b g : Nat} {H : GHeap} {e e' : TypeId} {cs : List Value} {r : Nat → Option Addr} {xss : List (List Int)} (h : OwnL b H e r xss) (hg : H.get g = some (.row cs e' true)) (hne : (e != e') = true) : ∀ i, i < xss.length → r i ≠ some ⟨g, 0, none⟩ := fun i hi ei => by
  obtain ⟨x, h1, _, h3⟩ := h.row i hi
  rw [h1] at ei
  cases ei
  rw [hg] at h3
  cases h3
  simp at hne
theorem OwnL.lowNe {b g : Nat} {H : GHeap} {e : TypeId} {r : Nat → Option Addr} {xss : List (List Int)} (h : OwnL b H e r xss) (hg : g < b) : ∀ i, i < xss.length → r i ≠ some ⟨g, 0, none⟩ := fun i hi ei => by
  obtain ⟨x, h1, h2, _⟩ := h.row i hi
  rw [h1] at ei
  cases ei
  omega
theorem ne_snoc {g k : Nat} {r : Nat → Option Addr} {xss : List (List Int)} {x : List Int} (h : ∀ i, i < xss.length → r i ≠ some ⟨g, 0, none⟩) (hk : k ≠ g) : ∀ i, i < (xss ++ [x]).length → upd r xss.length (some ⟨k, 0, none⟩) i ≠ some ⟨g, 0, none⟩ := fun i hi => by
  rw [List.length_append, List.length_singleton] at hi
  by_cases e : i = xss.length
  · subst e
    rw [upd_eq]
    intro e
    cases e
    exact hk rfl
  · rw [upd_ne e]
    exact h i (by omega)
/-- One row more, in a block that none of the rows lies in. -/
theorem OwnL.snoc2 {b g : Nat} {H : GHeap} {e : TypeId} {r : Nat → Option Addr} {xss : List (List Int)} {x : List Int} (h : OwnL b H e r xss) (hg : H.get g = some (.row (ints x) e true)) (hne : ∀ i, i < xss.length → r i ≠ some ⟨g, 0, none⟩) (hb : b ≤ g) :
    OwnL b H e (upd r xss.length (some ⟨g, 0, none⟩)) (xss ++ [x]) := by
  have key : ∀ i, i < xss.length + 1 → (i = xss.length ∧ upd r xss.length (some ⟨g, 0, none⟩) i = some ⟨g, 0, none⟩ ∧ (xss ++ [x]).getD i [] = x) ∨ (i < xss.length ∧ upd r xss.length (some ⟨g, 0, none⟩) i = r i ∧ (xss ++ [x]).getD i [] = xss.getD i []) := by
    intro i hi
    by_cases e : i = xss.length
    · subst e
      exact .inl ⟨rfl, upd_eq _ _ _, by rw [getD_snoc, if_neg (by omega), if_pos rfl]⟩
    · exact .inr ⟨by omega, upd_ne e, by rw [getD_snoc, if_pos (by omega)]⟩
  unfold OwnL
  rw [List.length_append, List.length_singleton]
  refine ⟨fun i hi => ?_, fun i j hi hj hij => ?_⟩
  · rcases key i hi with ⟨_, h2, h3⟩ | ⟨h1, h2, h3⟩
    · exact ⟨g, h2, hb, by rw [h3]; exact hg⟩
    · obtain ⟨y, y1, y2, y3⟩ := h.row i h1
      exact ⟨y, by rw [h2]; exact y1, y2, by rw [h3]; exact y3⟩
  · rcases key i hi with ⟨h1, h2, _⟩ | ⟨h1, h2, _⟩
    · rcases key j hj with ⟨k1, k2, _⟩ | ⟨k1, k2, _⟩
      · omega
      · rw [h2, k2] at hij
        exact absurd hij.symm (hne j k1)
    · rcases key j hj with ⟨k1, k2, _⟩ | ⟨k1, k2, _⟩
      · rw [h2, k2] at hij
        exact absurd hij (hne i h1)
      · rw [h2, k2] at hij
        exact h.inj i j h1 k1 hij
theorem take_map_snoc {α β : Type} {f : α → β} {l : List α} {i : Nat} {d : α} (h : i < l.length) : (l.take (i + 1)).map f = (l.take i).map f ++ [f (l.getD i d)] := by
  rw [List.take_add_one, List.getElem?_eq_getElem h, List.map_append, List.getD_eq_getElem?_getD, List.getElem?_eq_getElem h]; rfl

theorem Ints.slN {H : GHeap} {a : Option Addr} {xs : List Int} {n : Nat} (h : Ints H a xs) (hn : xs.length = n) : SlA H a n (fun i => .int .i64 (xs.getD i 0)) := by subst hn; exact h
/-! ### Tables -/
/-- The first k of n lists are there. -/
def fillS (r : Nat → Option Addr) (n k : Nat) : List Value := (List.range n).map fun i => if i < k then .slice (r i) n n else .slice none 0 0
@[simp] theorem length_fillS (r : Nat → Option Addr) (n k : Nat) : (fillS r n k).length = n := by simp [fillS]
theorem fillS_zero (r : Nat → Option Addr) (n : Nat) : fillS r n 0 = List.replicate n (.slice none 0 0) := by
  apply List.ext_getElem (by simp)
  intro i h1 h2
  simp [fillS]
theorem fillS_set {r : Nat → Option Addr} {n k : Nat} {a : Option Addr} (h : k < n) : (fillS r n k).set k (.slice a n n) = fillS (upd r k a) n (k + 1) := by
  apply List.ext_getElem (by simp)
  intro i h1 h2
  simp only [length_fillS, List.length_set] at h1
  simp only [fillS, List.getElem_set, List.getElem_map, List.getElem_range]
  by_cases e : i = k
  · subst e
    rw [if_pos rfl, if_pos (by omega), upd_eq]
  · rw [if_neg (Ne.symm e), upd_ne e]
    by_cases e2 : i < k
    · rw [if_pos e2, if_pos (by omega)]
    · rw [if_neg e2, if_neg (by omega)]
theorem fillS_cell {r : Nat → Option Addr} {H : GHeap} {g n k i : Nat} {e : TypeId} {own : Bool} (h : H.get g = some (.row (fillS r n k) e own)) (hi : i < k) (hn : i < n) : H.cell g (0 + i) = some (.slice (r i) n n) := by
  rw [GHeap.cell_of h, Nat.zero_add]
  simp [fillS, hi, hn]
theorem fillS_all {r : Nat → Option Addr} {X : Nat → List Int} {n : Nat} (h : ∀ i, i < n → (X i).length = n) : fillS r n n = slsOf r X n := by
  unfold fillS slsOf
  refine List.map_congr_left fun i hi => ?_
  have := List.mem_range.1 hi
  rw [if_pos this, h i this]
/-- A list filled from the front. -/
def fillI (c : Nat → Int) (n k : Nat) : List Int := (List.range n).map fun i => if i < k then c i else 0
@[simp] theorem length_fillI (c : Nat → Int) (n k : Nat) : (fillI c n k).length = n := by simp [fillI]
theorem fillI_zero (c : Nat → Int) (n : Nat) : fillI c n 0 = List.replicate n 0 := by
  apply List.ext_getElem (by simp)
  intro i h1 h2
  simp [fillI]
theorem fillI_set {c : Nat → Int} {n k : Nat} {v : Int} (h : k < n) (hv : v = c k) : (fillI c n k).set k v = fillI c n (k + 1) := by
  apply List.ext_getElem (by simp)
  intro i h1 h2
  simp only [length_fillI, List.length_set] at h1
  simp only [fillI, List.getElem_set, List.getElem_map, List.getElem_range]
  by_cases e : i = k
  · subst e
    rw [if_pos rfl, if_pos (by omega), hv]
  · rw [if_neg (Ne.symm e)]
    by_cases e2 : i < k
    · rw [if_pos e2, if_pos (by omega)]
    · rw [if_neg e2, if_neg (by omega)]
theorem fillI_all {c : Nat → Int} {n : Nat} : fillI c n n = (List.range n).map c := List.map_congr_left fun i hi => by rw [if_pos (List.mem_range.1 hi)]
/-- A table of composites: -1 where the ends do not meet. -/
def tabC (src tgt : List Int) (X : Nat → Nat → Int) (i j : Nat) : Int := if tgt.getD i 0 = src.getD j 0 then X i j else -1
def tabR (src tgt : List Int) (X : Nat → Nat → Int) (n i : Nat) : List Int := (List.range n).map (tabC src tgt X i)
@[simp] theorem length_tabR (src tgt : List Int) (X : Nat → Nat → Int) (n i : Nat) : (tabR src tgt X n i).length = n := by simp [tabR]
theorem tabC_T {src tgt : List Int} {X : Nat → Nat → Int} {i j : Nat} (h : tgt.getD i 0 = src.getD j 0) : tabC src tgt X i j = X i j := if_pos h
theorem tabC_F {src tgt : List Int} {X : Nat → Nat → Int} {i j : Nat} (h : ¬ tgt.getD i 0 = src.getD j 0) : tabC src tgt X i j = -1 := if_neg h
/-- All of the table. -/
def tabL (src tgt : List Int) (X : Nat → Nat → Int) (n : Nat) : List (List Int) := rowsOf (tabR src tgt X n) n
theorem eq_of_getD2 {xss yss : List (List Int)} (hl : xss.length = yss.length) (h : ∀ i, i < xss.length → xss.getD i [] = yss.getD i []) : xss = yss := by
  apply List.ext_getElem hl
  intro i h1 h2
  have := h i h1
  simpa [List.getD_eq_getElem?_getD, List.getElem?_eq_getElem h1, List.getElem?_eq_getElem h2] using this
end Go.GL
/- The table of composites that a function answers for. No condition but those of each statement. -/
namespace Go.Proofs.Ytfejmmaeigbfkaa
open Go Go.GL Go.RowKit Go.Proofs
theorem ze_22_Tb : zeroT Try.prog 22 = some ([.slice none 0 0], 1) := by kernel_rfl
theorem by_22_Tb : (Try.prog.info? 22).map (·.bytes) = some 24 := by kernel_rfl
theorem sz_23_Tb : (Try.prog.info? 23).map (·.size) = some 1 := by kernel_rfl
theorem ze_2_Tb : zeroT Try.prog 2 = some ([.int .i64 0], 1) := by kernel_rfl
theorem by_2_Tb : (Try.prog.info? 2).map (·.bytes) = some 8 := by kernel_rfl
theorem sz_22_Tb : (Try.prog.info? 22).map (·.size) = some 1 := by kernel_rfl
theorem sz_2_Tb : (Try.prog.info? 2).map (·.size) = some 1 := by kernel_rfl
theorem arrowsN_c {g : Nat} {ob : Int} {a1 a2 : Option Addr} {n : Nat} {v3 v4 : Value} {T : TypeId} {H : GHeap} (hg : H.get g = some (.row [.int .i64 ob, .slice a1 n n, .slice a2 n n, v3, v4] T true)) :
    GCalls Try.prog 88 [.pointer (some ⟨g, 0, none⟩)] H (Ret (.int .i64 (n : Int)) H) := by
  refine GCalls.body (N := 8) (rs := [.tmp 2]) Try.func88 rfl rfl rfl rfl (fun Qx hret hend => ?_)
  refine .forget (fr' := [(0, some _)]) ⟨rfl, trivial⟩ ?_
  have hle := GHeap.Le.refl H
  have lt_hg := GHeap.lt_of_get hg
  refine .seq (fun K1 hK1 => ?_)
  refine .region ?_
  refine .m rfl rfl rfl (.assign rfl) ?_
  refine .nil ?_
  refine hK1 _ _ ?_
  refine .seq (fun K2 hK2 => ?_)
  refine .region ?_
  refine .m rfl rfl rfl (.move rfl) ?_
  refine .m rfl rfl rfl (.nilCheck rfl) ?_
  refine .m rfl rfl rfl (.fieldAddr fo_27_1_B rfl) ?_
  refine .m rfl rfl rfl (.load on_22_B rfl (by first | assumption | exact Mem.of_get hg 1 _ rfl)) ?_
  refine .m rfl rfl rfl (.len sl_22_A rfl) ?_
  refine .m rfl rfl rfl (.assign rfl) ?_
  refine .nil ?_
  refine hK2 _ _ ?_
  refine .ret ?_
  -- leaf e1
  refine hret _ _ ?_
  refine ⟨_, rfl, ?_⟩
  exact .mk
set_option maxHeartbeats 4000000 in
theorem table_c {g n fn : Nat} {ob : Int} {a1 a2 : Option Addr} {v3 v4 : Value} {src tgt : List Int} {cap : Array Value} {X : Nat → Nat → Int} {H : GHeap} (hg : H.get g = some (.row [.int .i64 ob, .slice a1 n n, .slice a2 n n, v3, v4] 27 true)) (h1 : src.length = n) (h2 : tgt.length = n) (hn : n ≤ 1048576)
    (k1 : ∀ H', St [g] H H' → Ints H' a1 src) (k2 : ∀ H', St [g] H H' → Ints H' a2 tgt)
    (hcall : ∀ (xs : Array Value) (w : World), (callFunc fn xs).run Try.prog w = .ok (.enter fn xs) w)
    (hq : ∀ H', St [g] H H' → ∀ i j : Nat, i < n → j < n → tgt.getD i 0 = src.getD j 0 → GCalls Try.prog fn ([.int .i64 (i : Int), .int .i64 (j : Int)] ++ cap.toList) H' (fun v H'' => H'.Le H'' ∧ v = .int .i64 (X i j))) :
    GCalls Try.prog 93 [.pointer (some ⟨g, 0, none⟩), .func (.func fn) #[] cap] H (fun _ H' => St [g] H H' ∧ ∃ gC r, H'.get g = some (.row [.int .i64 ob, .slice a1 n n, .slice a2 n n, v3, .slice (some ⟨gC, 0, none⟩) n n] 27 true) ∧ H.next ≤ gC ∧
      IntssR H.next H' (some ⟨gC, 0, none⟩) (tabL src tgt X n) r ∧ ∀ i, i < n → ∀ x, r i = some ⟨x, 0, none⟩ → H.next ≤ x) := by
  refine GCalls.body (N := 80) (rs := []) Try.func93 rfl rfl rfl rfl (fun Qx hret hend => ?_)
  refine .forget (fr' := [(0, some _), (1, some _)]) ⟨rfl, rfl, trivial⟩ ?_
  have lt_hg := GHeap.lt_of_get hg
  have hst := St.refl [g] H
  have i1 := k1 _ hst
  have i2 := k2 _ hst
  have j1 := i1.slN h1
  have j2 := i2.slN h2
  refine .seq (fun K1 hK1 => ?_)
  refine .region ?_
  refine .m rfl rfl rfl (.move rfl) ?_
  refine .callQ rfl rfl rfl rfl @Try.call88 rfl (arrowsN_c (by assumption)) ?_
  refine .m rfl rfl rfl (.assign rfl) ?_
  refine .nil ?_
  refine hK1 _ _ ?_
  refine .seq (fun K2 hK2 => ?_)
  refine .region ?_
  refine .m rfl rfl rfl (.move rfl) ?_
  refine .m rfl rfl rfl (.move rfl) ?_
  refine .r rfl rfl rfl (.makeV rfl sl_23_B ze_22_Tb by_22_Tb rfl rfl rfl (by omega) (by omega) (by omega) (by omega)) ?_
  rintro _ H11 ⟨g11, rfl, le11, ge11, at11⟩
  have nx_H11 := le11.1
  replace hst := hst.le le11
  replace hg := le11.2 _ _ hg
  have lt_at11 := GHeap.lt_of_get at11
  clear i1 i2 j1 j2
  have i1 := k1 _ hst
  have i2 := k2 _ hst
  have j1 := i1.slN h1
  have j2 := i2.slN h2
  refine .m rfl rfl rfl (.nilCheck rfl) ?_
  refine .m rfl rfl rfl (.fieldAddr fo_27_4_B rfl) ?_
  simp only [Int.toNat_natCast] at at11
  refine .r0 rfl rfl (.storeR rfl sz_23_Tb rfl rfl rfl (by assumption) (by first | exact Nat.le_of_ble_eq_true rfl | (simp; done) | (simp <;> omega))) ?_
  rintro _ H1005 ⟨rfl, st1005, at1005⟩
  have nx_H1005 := st1005.nx
  replace hst := hst.st st1005 (fun k hk ho => by simp only [out, and_true] at ho ⊢ <;> omega)
  replace at11 := st1005.same _ _ ⟨by omega, trivial⟩ at11
  have lt_at1005 := GHeap.lt_of_get at1005
  clear i1 i2 j1 j2
  have i1 := k1 _ hst
  have i2 := k2 _ hst
  have j1 := i1.slN h1
  have j2 := i2.slN h2
  try simp only [Nat.zero_add, List.set_cons_succ, List.set_cons_zero] at at1005
  simp only [Int.toNat_natCast] at at1005
  refine .nil ?_
  refine hK2 _ _ ?_
  refine .seq (fun K3 hK3 => ?_)
  refine .region ?_
  refine .m rfl rfl rfl (.move rfl) ?_
  refine .m rfl rfl rfl (.nilCheck rfl) ?_
  refine .m rfl rfl rfl (.fieldAddr fo_27_4_B rfl) ?_
  refine .m rfl rfl rfl (.load on_23_B rfl (by first | assumption | exact Mem.of_get at1005 4 _ rfl)) ?_
  refine .m rfl rfl rfl (.len sl_23_B rfl) ?_
  refine .m rfl rfl rfl (.move rfl) ?_
  refine .nil ?_
  refine hK3 _ _ ?_
  refine .block ?_
  refine .loopR (σ := Nat × (Nat → Option Addr)) [(0, some _), (1, some _), (4, some _), (18, some _)] (fun (k, rr) => [(19, some (.int .i64 (k : Int)))]) (fun (k, rr) H' => St [g11] H1005 H' ∧ H'.get g11 = some (.row ((fillS rr n k)) 22 true) ∧ k ≤ n ∧ OwnRows H.next H' 2 rr (tabR src tgt X n) k) (fun (k, rr) => n - k) ((0, fun _ => none)) ⟨rfl, rfl, rfl, rfl, trivial⟩ ⟨rfl, trivial⟩ ?_ ?_
  ·
   refine ⟨.refl _ _, by first | assumption | (rw [fillS_zero]; simpa using at11), ?_⟩
   exact ⟨by omega, .zero _ _ _ _ _⟩
  ·
   rintro ⟨k, rr⟩ HL1 ⟨lst1, at_Lg11, hI⟩ KL1 hKL1
   refine .forget (fr' := [(19, some (.int .i64 (k : Int))), (0, some _), (1, some _), (4, some _), (18, some _)]) ⟨rfl, rfl, rfl, rfl, rfl, trivial⟩ ?_
   have nx_HL1 := lst1.nx
   replace hst := hst.st lst1 (fun k hk ho => by simp only [out, and_true] at ho ⊢ <;> omega)
   replace at1005 := lst1.same _ _ ⟨by omega, trivial⟩ at1005
   have lt_at_Lg11 := GHeap.lt_of_get at_Lg11
   clear i1 i2 j1 j2
   have i1 := k1 _ hst
   have i2 := k2 _ hst
   have j1 := i1.slN h1
   have j2 := i2.slN h2
   have rk := St.refl [g11] HL1
   obtain ⟨hk, hR⟩ := hI
   have hatC := at_Lg11
   refine .seq (fun K4 hK4 => ?_)
   refine .region ?_
   refine .m rfl rfl rfl (.cmp rfl rfl rfl) ?_
   refine .nil ?_
   refine hK4 _ _ ?_
   refine .seq (fun K5 hK5 => ?_)
   refine .cond rfl (fun h20 => ?_) (fun h20 => ?_)
   ·
    simp only [sps] at h20
    refine .skip ?_
    refine hK5 _ _ ?_
    refine .seq (fun K6 hK6 => ?_)
    refine .block ?_
    refine .seq (fun K7 hK7 => ?_)
    refine .region ?_
    refine .m rfl rfl rfl (.move rfl) ?_
    refine .m rfl rfl rfl (.assign rfl) ?_
    refine .nil ?_
    refine hK7 _ _ ?_
    refine .seq (fun K8 hK8 => ?_)
    refine .regionD mixed_orders_B (.q 0 (.q 1 (.q 2 (.q 3 (.q 4 (.q 5 (.c 6 1 (.q 7 (.c 8 0 (.done)))))))))) (by kernel_rfl) ?_
    refine .m rfl rfl rfl rfl (.refl _) (.move rfl) ?_
    refine .m rfl rfl rfl rfl (.refl _) (.nilCheck rfl) ?_
    refine .m rfl rfl rfl rfl (.refl _) (.fieldAddr fo_27_4_B rfl) ?_
    refine .m rfl rfl rfl rfl (.refl _) (.load on_23_B rfl (by first | assumption | exact Mem.of_get at1005 4 _ rfl)) ?_
    refine .m rfl rfl rfl rfl (.refl _) (.move rfl) ?_
    refine .m rfl rfl rfl rfl (.refl _) (.move rfl) ?_
    refine .c1 rfl rfl rfl rfl (.makeI rfl sl_22_A ze_2_Tb by_2_Tb rfl rfl (by omega) (by omega) (by omega) (by omega)) ?_
    rintro _ H28 ⟨g28, rfl, le28, ge28, at28⟩
    have hbl := le28
    refine ⟨hbl, ?_⟩
    have nx_H28 := le28.1
    replace hst := hst.le le28
    replace lst1 := lst1.le le28
    replace rk := rk.le le28
    replace at1005 := le28.2 _ _ at1005
    replace at_Lg11 := le28.2 _ _ at_Lg11
    have lt_at28 := GHeap.lt_of_get at28
    clear i1 i2 j1 j2
    have i1 := k1 _ hst
    have i2 := k2 _ hst
    have j1 := i1.slN h1
    have j2 := i2.slN h2
    refine .m rfl rfl rfl rfl hbl (.idxN sl_23_B (by first | exact (Intss.sl (by assumption)) | exact SlA.of_row at_Lg11 (by first | rfl | (simp; done) | (simp <;> omega))) rfl rfl (by omega)) ?_
    refine .r0 rfl rfl rfl (.storeR rfl sz_22_Tb rfl rfl rfl (by assumption) (by first | exact Nat.le_of_ble_eq_true rfl | (simp; done) | (simp <;> omega))) ?_
    rintro _ H5008 ⟨rfl, st5008, at5008⟩
    have nx_H5008 := st5008.nx
    replace hst := hst.st st5008 (fun k hk ho => by simp only [out, and_true] at ho ⊢ <;> omega)
    replace lst1 := lst1.st st5008 (fun k hk ho => by simp only [out, and_true] at ho ⊢ <;> omega)
    replace rk := rk.st st5008 (fun k hk ho => by simp only [out, and_true] at ho ⊢ <;> omega)
    replace at1005 := st5008.same _ _ ⟨by omega, trivial⟩ at1005
    replace at28 := st5008.same _ _ ⟨by omega, trivial⟩ at28
    have lt_at5008 := GHeap.lt_of_get at5008
    clear i1 i2 j1 j2
    have i1 := k1 _ hst
    have i2 := k2 _ hst
    have j1 := i1.slN h1
    have j2 := i2.slN h2
    simp only [Int.toNat_natCast, Nat.zero_add] at at5008 at28
    rw [fillS_set (by omega)] at at5008
    have cC := fillS_cell (i := k) at5008 (by omega) (by omega)
    refine .done ?_
    refine hK8 _ _ ?_
    refine .seq (fun K9 hK9 => ?_)
    refine .region ?_
    refine .m rfl rfl rfl (.move rfl) ?_
    refine .m rfl rfl rfl (.nilCheck rfl) ?_
    refine .m rfl rfl rfl (.fieldAddr fo_27_4_B rfl) ?_
    refine .m rfl rfl rfl (.load on_23_B rfl (by first | assumption | exact Mem.of_get at1005 4 _ rfl)) ?_
    refine .m rfl rfl rfl (.move rfl) ?_
    refine .m rfl rfl rfl (.idxN sl_23_B (by first | exact (Intss.sl (by assumption)) | exact SlA.of_row at5008 (by first | rfl | (simp; done) | (simp <;> omega))) rfl rfl (by omega)) ?_
    refine .m rfl rfl rfl (.load on_22_B rfl (by rw [upd_eq] at cC; exact cC)) ?_
    refine .m rfl rfl rfl (.len sl_22_A rfl) ?_
    refine .m rfl rfl rfl (.move rfl) ?_
    refine .nil ?_
    refine hK9 _ _ ?_
    refine .block ?_
    refine .loopR (σ := Nat) [(0, some _), (1, some _), (4, some _), (5, some _), (18, some _), (19, some _), (37, some _)] (fun j => [(38, some (.int .i64 (j : Int)))]) (fun j H' => St [g28] H5008 H' ∧ H'.get g28 = some (.row (ints (fillI (tabC src tgt X k) n j)) 2 true) ∧ j ≤ n) (fun j => n - j) (0) ⟨rfl, rfl, rfl, rfl, rfl, rfl, rfl, trivial⟩ ⟨rfl, trivial⟩ ?_ ?_
    ·
     refine ⟨.refl _ _, by (rw [fillI_zero]; simpa using at28), ?_⟩
     omega
    ·
     rintro j HL2 ⟨lst2, at_Lg28, hI⟩ KL2 hKL2
     refine .forget (fr' := [(38, some (.int .i64 (j : Int))), (0, some _), (1, some _), (4, some _), (5, some _), (18, some _), (19, some _), (37, some _)]) ⟨rfl, rfl, rfl, rfl, rfl, rfl, rfl, rfl, trivial⟩ ?_
     have nx_HL2 := lst2.nx
     replace hst := hst.st lst2 (fun k hk ho => by simp only [out, and_true] at ho ⊢ <;> omega)
     replace lst1 := lst1.st lst2 (fun k hk ho => by simp only [out, and_true] at ho ⊢ <;> omega)
     replace rk := rk.st lst2 (fun k hk ho => by simp only [out, and_true] at ho ⊢ <;> omega)
     replace at1005 := lst2.same _ _ ⟨by omega, trivial⟩ at1005
     replace at5008 := lst2.same _ _ ⟨by omega, trivial⟩ at5008
     have lt_at_Lg28 := GHeap.lt_of_get at_Lg28
     clear i1 i2 j1 j2
     have i1 := k1 _ hst
     have i2 := k2 _ hst
     have j1 := i1.slN h1
     have j2 := i2.slN h2
     clear cC
     have cC := fillS_cell (i := k) at5008 (by omega) (by omega)
     refine .seq (fun K10 hK10 => ?_)
     refine .region ?_
     refine .m rfl rfl rfl (.cmp rfl rfl rfl) ?_
     refine .nil ?_
     refine hK10 _ _ ?_
     refine .seq (fun K11 hK11 => ?_)
     refine .cond rfl (fun h39 => ?_) (fun h39 => ?_)
     ·
      simp only [sps] at h39
      refine .skip ?_
      refine hK11 _ _ ?_
      refine .seq (fun K12 hK12 => ?_)
      refine .block ?_
      refine .seq (fun K13 hK13 => ?_)
      refine .region ?_
      refine .m rfl rfl rfl (.move rfl) ?_
      refine .m rfl rfl rfl (.assign rfl) ?_
      refine .nil ?_
      refine hK13 _ _ ?_
      refine .seq (fun K14 hK14 => ?_)
      refine .region ?_
      refine .m rfl rfl rfl (.move rfl) ?_
      refine .m rfl rfl rfl (.nilCheck rfl) ?_
      refine .m rfl rfl rfl (.fieldAddr fo_27_4_B rfl) ?_
      refine .m rfl rfl rfl (.load on_23_B rfl (by first | assumption | exact Mem.of_get at1005 4 _ rfl)) ?_
      refine .m rfl rfl rfl (.move rfl) ?_
      refine .m rfl rfl rfl (.idxN sl_23_B (by first | exact (Intss.sl (by assumption)) | exact SlA.of_row at5008 (by first | rfl | (simp; done) | (simp <;> omega))) rfl rfl (by omega)) ?_
      refine .m rfl rfl rfl (.load on_22_B rfl (by rw [upd_eq] at cC; exact cC)) ?_
      refine .m rfl rfl rfl (.move rfl) ?_
      refine .m rfl rfl rfl (.idxN sl_22_A (by first | assumption | exact SlA.of_row at_Lg28 (by first | rfl | (simp; done) | (simp <;> omega))) rfl rfl (by omega)) ?_
      refine .r0 rfl rfl (.storeI rfl sz_2_Tb rfl rfl (by assumption) (by first | omega | (simp <;> omega))) ?_
      rintro _ H9009 ⟨rfl, st9009, at9009⟩
      have nx_H9009 := st9009.nx
      replace hst := hst.st st9009 (fun k hk ho => by simp only [out, and_true] at ho ⊢ <;> omega)
      replace lst1 := lst1.st st9009 (fun k hk ho => by simp only [out, and_true] at ho ⊢ <;> omega)
      replace rk := rk.st st9009 (fun k hk ho => by simp only [out, and_true] at ho ⊢ <;> omega)
      replace lst2 := lst2.st st9009 (fun k hk ho => by simp only [out, and_true] at ho ⊢ <;> omega)
      replace at1005 := st9009.same _ _ ⟨by omega, trivial⟩ at1005
      replace at5008 := st9009.same _ _ ⟨by omega, trivial⟩ at5008
      have lt_at9009 := GHeap.lt_of_get at9009
      clear i1 i2 j1 j2
      have i1 := k1 _ hst
      have i2 := k2 _ hst
      have j1 := i1.slN h1
      have j2 := i2.slN h2
      clear cC
      have cC := fillS_cell (i := k) at5008 (by omega) (by omega)
      refine .nil ?_
      refine hK14 _ _ ?_
      refine .seq (fun K15 hK15 => ?_)
      refine .regionD mixed_orders_B (.q 0 (.q 1 (.q 2 (.q 3 (.q 4 (.q 5 (.q 6 (.q 7 (.q 8 (.q 9 (.q 10 (.q 11 (.q 12 (.q 13 (.q 14 (.done)))))))))))))))) (by kernel_rfl) ?_
      refine .m rfl rfl rfl rfl (.refl _) (.move rfl) ?_
      refine .m rfl rfl rfl rfl (.refl _) (.nilCheck rfl) ?_
      refine .m rfl rfl rfl rfl (.refl _) (.fieldAddr fo_27_2_B rfl) ?_
      refine .m rfl rfl rfl rfl (.refl _) (.load on_22_B rfl (by first | assumption | exact Mem.of_get at1005 2 _ rfl)) ?_
      refine .m rfl rfl rfl rfl (.refl _) (.move rfl) ?_
      refine .m rfl rfl rfl rfl (.refl _) (.idxN sl_22_A (by assumption) rfl rfl (by omega)) ?_
      refine .m rfl rfl rfl rfl (.refl _) (.loadI on_2_A (by assumption) rfl (by omega)) ?_
      refine .m rfl rfl rfl rfl (.refl _) (.move rfl) ?_
      refine .m rfl rfl rfl rfl (.refl _) (.nilCheck rfl) ?_
      refine .m rfl rfl rfl rfl (.refl _) (.fieldAddr fo_27_1_B rfl) ?_
      refine .m rfl rfl rfl rfl (.refl _) (.load on_22_B rfl (by first | assumption | exact Mem.of_get at1005 1 _ rfl)) ?_
      refine .m rfl rfl rfl rfl (.refl _) (.move rfl) ?_
      refine .m rfl rfl rfl rfl (.refl _) (.idxN sl_22_A (by assumption) rfl rfl (by omega)) ?_
      refine .m rfl rfl rfl rfl (.refl _) (.loadI on_2_A (by assumption) rfl (by omega)) ?_
      refine .m rfl rfl rfl rfl (.refl _) (.cmp rfl rfl rfl) ?_
      refine .done ?_
      refine hK15 _ _ ?_
      refine .cond rfl (fun h64 => ?_) (fun h64 => ?_)
      ·
       simp only [sps] at h64
       refine .regionD mixed_orders_B (.q 0 (.q 1 (.q 2 (.q 3 (.q 4 (.q 5 (.q 6 (.q 7 (.q 8 (.q 9 (.q 10 (.c 11 1 (.q 12 (.c 13 0 (.done))))))))))))))) (by kernel_rfl) ?_
       refine .m rfl rfl rfl rfl (.refl _) (.move rfl) ?_
       refine .m rfl rfl rfl rfl (.refl _) (.nilCheck rfl) ?_
       refine .m rfl rfl rfl rfl (.refl _) (.fieldAddr fo_27_4_B rfl) ?_
       refine .m rfl rfl rfl rfl (.refl _) (.load on_23_B rfl (by first | assumption | exact Mem.of_get at1005 4 _ rfl)) ?_
       refine .m rfl rfl rfl rfl (.refl _) (.move rfl) ?_
       refine .m rfl rfl rfl rfl (.refl _) (.idxN sl_23_B (by first | exact (Intss.sl (by assumption)) | exact SlA.of_row at5008 (by first | rfl | (simp; done) | (simp <;> omega))) rfl rfl (by omega)) ?_
       refine .m rfl rfl rfl rfl (.refl _) (.load on_22_B rfl (by rw [upd_eq] at cC; exact cC)) ?_
       refine .m rfl rfl rfl rfl (.refl _) (.move rfl) ?_
       refine .m rfl rfl rfl rfl (.refl _) (.move rfl) ?_
       refine .m rfl rfl rfl rfl (.refl _) (.move rfl) ?_
       refine .m rfl rfl rfl rfl (.refl _) (.move rfl) ?_
       refine .callV1 rfl rfl rfl rfl rfl rfl hcall rfl ((hq _ hst k j (by omega) (by omega) h64)) ?_
       rintro _ H76 ⟨le76, rfl⟩
       have hbl := le76
       refine ⟨hbl, ?_⟩
       have nx_H76 := le76.1
       replace hst := hst.le le76
       replace lst1 := lst1.le le76
       replace rk := rk.le le76
       replace lst2 := lst2.le le76
       replace at1005 := le76.2 _ _ at1005
       replace at5008 := le76.2 _ _ at5008
       replace at9009 := le76.2 _ _ at9009
       clear i1 i2 j1 j2
       have i1 := k1 _ hst
       have i2 := k2 _ hst
       have j1 := i1.slN h1
       have j2 := i2.slN h2
       clear cC
       have cC := fillS_cell (i := k) at5008 (by omega) (by omega)
       refine .m rfl rfl rfl rfl hbl (.idxN sl_22_A (by first | assumption | exact SlA.of_row at9009 (by first | rfl | (simp; done) | (simp <;> omega))) rfl rfl (by omega)) ?_
       refine .r0 rfl rfl rfl (.storeI rfl sz_2_Tb rfl rfl (by assumption) (by first | omega | (simp <;> omega))) ?_
       rintro _ H11013 ⟨rfl, st11013, at11013⟩
       have nx_H11013 := st11013.nx
       replace hst := hst.st st11013 (fun k hk ho => by simp only [out, and_true] at ho ⊢ <;> omega)
       replace lst1 := lst1.st st11013 (fun k hk ho => by simp only [out, and_true] at ho ⊢ <;> omega)
       replace rk := rk.st st11013 (fun k hk ho => by simp only [out, and_true] at ho ⊢ <;> omega)
       replace lst2 := lst2.st st11013 (fun k hk ho => by simp only [out, and_true] at ho ⊢ <;> omega)
       replace at1005 := st11013.same _ _ ⟨by omega, trivial⟩ at1005
       replace at5008 := st11013.same _ _ ⟨by omega, trivial⟩ at5008
       have lt_at11013 := GHeap.lt_of_get at11013
       clear i1 i2 j1 j2
       have i1 := k1 _ hst
       have i2 := k2 _ hst
       have j1 := i1.slN h1
       have j2 := i2.slN h2
       clear cC
       have cC := fillS_cell (i := k) at5008 (by omega) (by omega)
       refine .done ?_
       refine hK12 _ _ ?_
       refine .region ?_
       refine .m rfl rfl rfl (.add rfl rfl rfl (by omega) (by omega)) ?_
       refine .m rfl rfl rfl (.move rfl) ?_
       refine .nil ?_
       refine hKL2 (j + 1) _ _ ?_ ?_ ⟨rfl, rfl, rfl, rfl, rfl, rfl, rfl, rfl, trivial⟩
       ·
        refine ⟨lst2, by first | assumption | (rw [← fillI_set (by omega) (tabC_F h64).symm]; simpa using at9009) | (rw [← fillI_set (by omega) (tabC_T h64).symm, ← List.set_set (-1)]; simpa using at11013), ?_⟩
        omega
       ·
        omega
      ·
       simp only [sps] at h64
       refine .skip ?_
       refine hK12 _ _ ?_
       refine .region ?_
       refine .m rfl rfl rfl (.add rfl rfl rfl (by omega) (by omega)) ?_
       refine .m rfl rfl rfl (.move rfl) ?_
       refine .nil ?_
       refine hKL2 (j + 1) _ _ ?_ ?_ ⟨rfl, rfl, rfl, rfl, rfl, rfl, rfl, rfl, trivial⟩
       ·
        refine ⟨lst2, by first | assumption | (rw [← fillI_set (by omega) (tabC_F h64).symm]; simpa using at9009) | (rw [← fillI_set (by omega) (tabC_T h64).symm, ← List.set_set (-1)]; simpa using at11013), ?_⟩
        omega
       ·
        omega
     ·
      try simp only [sps] at h39
      refine .exit ?_
      refine hK6 _ _ ?_
      refine .region ?_
      refine .m rfl rfl rfl (.add rfl rfl rfl (by omega) (by omega)) ?_
      refine .m rfl rfl rfl (.move rfl) ?_
      refine .nil ?_
      obtain rfl : j = n := by omega
      refine hKL1 ((k + 1, upd rr k (some ⟨g28, 0, none⟩))) _ _ ?_ ?_ ⟨rfl, rfl, rfl, rfl, rfl, trivial⟩
      ·
       refine ⟨lst1, by assumption, ?_⟩
       exact ⟨by omega, hR.succ rk hatC rfl (by rw [tabR, ← fillI_all]; assumption) (by omega) (by omega)⟩
      ·
       (dsimp only; omega)
   ·
    try simp only [sps] at h20
    refine .exit ?_
    -- leaf e1
    refine hend _ _ ?_
    obtain rfl : k = n := by omega
    exact ⟨hst, g11, rr, at1005, by omega, (OwnRows.done hR (by rw [← fillS_all (fun i _ => length_tabR _ _ _ _ _)]; exact at_Lg11) (by omega)), fun i hi x hx => by obtain ⟨y, y1, y2, _⟩ := hR.row i hi; rw [y1] at hx; cases hx; exact y2⟩
end Go.Proofs.Ytfejmmaeigbfkaa
/- Quotients of categories: the quotient itself. No condition. -/
namespace Go.GL
/-- The first arrows of the classes among the first n. -/
def repL (xs : List Int) (n : Nat) : List Nat := (List.range n).filter fun i => rep xs i == i
theorem length_repL (xs : List Int) (n : Nat) : (repL xs n).length = reps (kerB xs) n := rfl
theorem repL_new {xs : List Int} {n : Nat} (h : rep xs n = n) : repL xs (n + 1) = repL xs n ++ [n] := by simp [repL, List.range_succ, List.filter_append, h]
theorem repL_old {xs : List Int} {n : Nat} (h : ¬ rep xs n = n) : repL xs (n + 1) = repL xs n := by simp [repL, List.range_succ, List.filter_append, h]
theorem mem_repL {xs : List Int} {n i : Nat} : i ∈ repL xs n ↔ i < n ∧ rep xs i = i := by simp [repL]
/-- The arrow that stands for class v. -/
theorem repL_get {xs : List Int} {j : Nat} : ∀ {n : Nat}, j < n → rep xs j = j → (repL xs n).getD (reps (kerB xs) j) 0 = j
  | 0, h, _ => by omega
  | n + 1, h, hj => by
    by_cases e : j = n
    · subst e
      rw [repL_new hj, List.getD_eq_getElem?_getD, List.getElem?_append_right (by rw [length_repL]; exact Nat.le_refl _), length_repL]
      simp
    · have ih := repL_get (n := n) (by omega) hj
      by_cases hn : rep xs n = n
      · have hlt := reps_lt_of (xs := xs) hj (show j < n by omega)
        rw [repL_new hn, List.getD_eq_getElem?_getD, List.getElem?_append_left (by rw [length_repL]; exact hlt), ← List.getD_eq_getElem?_getD]
        exact ih
      · rw [repL_old hn]; exact ih
/-- The quotient. -/
def Cat.quoX (c : Cat) (xs : List Int) (i j : Nat) : Int := if 0 ≤ (c.comp.getD i []).getD j 0 then xs.getD ((c.comp.getD i []).getD j 0).toNat 0 else (c.comp.getD i []).getD j 0
def Cat.quo (c : Cat) (xs : List Int) : Cat where
  obj := c.obj
  src := (repL xs xs.length).map fun i => c.src.getD i 0
  tgt := (repL xs xs.length).map fun i => c.tgt.getD i 0
  idn := c.idn.map fun a => xs.getD a.toNat 0
  comp := (repL xs xs.length).map fun i => (repL xs xs.length).map fun j => c.quoX xs i j

/-! ### Arrays that are filled from behind: the first one of each label stays. -/
def fromL (xs : List Int) (n e : Nat) (v : Int) : Option Nat := (List.range n).find? fun i => decide (e ≤ i) && xs.getD i 0 == v
def backL (xs : List Int) (f : Nat → Int) (m n e : Nat) : List Int := (List.range m).map fun (v : Nat) => match fromL xs n e v with | some i => f i | none => 0
@[simp] theorem length_backL (xs : List Int) (f : Nat → Int) (m n e : Nat) : (backL xs f m n e).length = m := by simp [backL]
theorem backL_get {xs : List Int} {f : Nat → Int} {m n e v : Nat} (h : v < m) : (backL xs f m n e).getD v 0 = match fromL xs n e v with | some i => f i | none => 0 := by simp [backL, List.getD_eq_getElem?_getD, h]
theorem backL_start (xs : List Int) (f : Nat → Int) (m n : Nat) : backL xs f m n n = List.replicate m 0 := by
  refine eq_of_getD (by simp) fun v hv => ?_
  have hv' : v < m := by simpa using hv
  have hn : fromL xs n n v = none := by
    unfold fromL
    rw [List.find?_range_eq_none]
    intro i hi
    have : decide (n ≤ i) = false := by simp; omega
    simp [this]
  rw [backL_get hv', hn, List.getD_eq_getElem?_getD, List.getElem?_replicate, if_pos hv']
  rfl
theorem fromL_at {xs : List Int} {n e : Nat} (he : e < n) : fromL xs n e (xs.getD e 0) = some e := by
  unfold fromL
  rw [List.find?_range_eq_some]
  refine ⟨by simp, List.mem_range.2 he, fun k hk => ?_⟩
  have : decide (e ≤ k) = false := by simp; omega
  simp [this]
theorem fromL_ne {xs : List Int} {n e : Nat} {v : Int} (h : ¬ xs.getD e 0 = v) : fromL xs n e v = fromL xs n (e + 1) v := by
  unfold fromL
  congr 1
  funext i
  by_cases hi : i = e
  · subst hi
    have : (xs.getD i 0 == v) = false := by simpa using h
    rw [this]; simp
  · have : decide (e ≤ i) = decide (e + 1 ≤ i) := by rw [decide_eq_decide]; omega
    rw [this]
theorem backL_step {xs : List Int} {f : Nat → Int} {m n e : Nat} (he : e < n) (h0 : 0 ≤ xs.getD e 0) (h1 : xs.getD e 0 < (m : Int)) : backL xs f m n e = (backL xs f m n (e + 1)).set (xs.getD e 0).toNat (f e) := by
  refine eq_of_getD (by simp) fun v hv => ?_
  have hv' : v < m := by simpa using hv
  rw [getD_set (by rw [length_backL]; omega), backL_get hv', backL_get hv']
  by_cases hx : v = (xs.getD e 0).toNat
  · rw [if_pos hx]
    have : (v : Int) = xs.getD e 0 := by omega
    rw [this, fromL_at he]
  · rw [if_neg hx, fromL_ne (by omega)]
/-- All of it: the value at the arrow that stands for the class. -/
theorem backL_all {xs : List Int} {f : Nat → Int} {n : Nat} (hn : xs.length = n) (hN : NorK xs n) : backL xs f (reps (kerB xs) n) n 0 = (repL xs n).map f := by
  refine eq_of_getD (by rw [length_backL, List.length_map, length_repL]) fun v hv => ?_
  have hv' : v < reps (kerB xs) n := by rw [List.length_map, length_repL] at hv; exact hv
  obtain ⟨j, h1, h2, h3, _⟩ := seenL_at (xs := xs) (i := n) (m := v) (by rw [length_seenL]; exact hv')
  have hx : xs.getD j 0 = (v : Int) := by rw [hN j h1]; unfold clsAt; rw [h2, h3]
  have hf : fromL xs n 0 v = some j := by
    unfold fromL
    rw [List.find?_range_eq_some]
    refine ⟨by simp only [hx, beq_self_eq_true, Nat.zero_le, decide_true, Bool.and_self], List.mem_range.2 h1, fun k hk => ?_⟩
    have hne : ¬ xs.getD k 0 = (v : Int) := fun e => by
      have e1 : rep xs k = rep xs j := rep_eq.2 (by rw [e, hx])
      have e2 := least_le (kerB xs) k
      unfold rep at e1
      omega
    have : (xs.getD k 0 == (v : Int)) = false := by simpa using hne
    rw [this]; simp
  rw [backL_get hv', hf]
  have h5 := repL_get (n := n) h1 h2
  rw [h3] at h5
  have h6 : v < (repL xs n).length := by rw [length_repL]; exact hv'
  rw [List.getD_eq_getElem?_getD, List.getElem?_eq_getElem h6] at h5
  simp only [Option.getD_some] at h5
  rw [List.getD_eq_getElem?_getD, List.getElem?_map, List.getElem?_eq_getElem h6]
  simp [h5]
end Go.GL
/- Quotients of categories: the first arrows as numbers, and the result. No condition. -/
namespace Go.GL
def repI (xs : List Int) (n : Nat) : List Int := (repL xs n).map fun (i : Nat) => (i : Int)
theorem repI_zero (xs : List Int) : repI xs 0 = [] := rfl
@[simp] theorem length_repI (xs : List Int) (n : Nat) : (repI xs n).length = (repL xs n).length := by simp [repI]
theorem repI_new {xs : List Int} {n : Nat} (h : rep xs n = n) : repI xs (n + 1) = repI xs n ++ [(n : Int)] := by unfold repI; rw [repL_new h]; simp
theorem repI_old {xs : List Int} {n : Nat} (h : ¬ rep xs n = n) : repI xs (n + 1) = repI xs n := by unfold repI; rw [repL_old h]
theorem repL_le (xs : List Int) (n : Nat) : (repL xs n).length ≤ n := by have := List.length_filter_le (fun i => rep xs i == i) (List.range n); simpa [repL] using this
theorem repL_lt {xs : List Int} {n i : Nat} (h : i < (repL xs n).length) : (repL xs n).getD i 0 < n := (mem_repL.1 (getD_mem_list (d := 0) h)).1
theorem repI_get {xs : List Int} {n i : Nat} (h : i < (repL xs n).length) : (repI xs n).getD i 0 = ((repL xs n).getD i 0 : Int) := by
  simp [repI, List.getD_eq_getElem?_getD, List.getElem?_eq_getElem h]
/-- Some rows of the quotient's table. -/
def Cat.quoRow (c : Cat) (xs : List Int) (i : Nat) : List Int := (repL xs xs.length).map fun j => c.quoX xs i j
def Cat.quoL (c : Cat) (xs : List Int) (i : Nat) : List (List Int) := ((repL xs xs.length).take i).map (c.quoRow xs)
theorem Cat.quoL_zero (c : Cat) (xs : List Int) : c.quoL xs 0 = [] := by simp [quoL]
theorem Cat.quoL_len {c : Cat} {xs : List Int} {i : Nat} (h : i ≤ (repL xs xs.length).length) : (c.quoL xs i).length = i := by simp [quoL]; omega
theorem Cat.quoL_succ {c : Cat} {xs : List Int} {i : Nat} (h : i < (repL xs xs.length).length) : c.quoL xs (i + 1) = c.quoL xs i ++ [c.quoRow xs ((repL xs xs.length).getD i 0)] := take_map_snoc h
theorem Cat.quoL_all (c : Cat) (xs : List Int) : c.quoL xs (repL xs xs.length).length = (c.quo xs).comp := by
  unfold quoL
  rw [List.take_length]
  rfl
theorem NorK.lt {xs : List Int} {n k : Nat} (h : NorK xs n) (hk : k < n) : xs.getD k 0 < (reps (kerB xs) n : Int) := by
  rw [h k hk]
  unfold clsAt
  have := reps_lt_of (least_idem (kerB_eqv xs n) hk) (Nat.lt_of_le_of_lt (least_le (kerB xs) k) hk)
  omega
theorem topN_nor {xs : List Int} {n : Nat} (h : NorK xs n) (hn : n ≤ xs.length) : ∀ {k}, k ≤ n → topN xs k = (reps (kerB xs) k : Int)
  | 0, _ => rfl
  | k + 1, hk => by
    have ih := topN_nor h hn (k := k) (by omega)
    have hb := h.bd (k := k) (by omega)
    have hN : NorK xs k := fun i hi => h i (by omega)
    rw [topN_succ (by omega), ih]
    by_cases e : xs.getD k 0 = (reps (kerB xs) k : Int)
    · have := (hN.hi e).2; omega
    · have := (hN.lo hb.1 (by omega)).2; omega
theorem topL_nor {xs : List Int} (h : NorK xs xs.length) : topL xs = ((repL xs xs.length).length : Int) := by
  have := topN_nor h (Nat.le_refl _) (Nat.le_refl _)
  unfold topN at this
  rw [List.take_length] at this
  rw [this, length_repL]
theorem Cat.quo_src (c : Cat) (xs : List Int) : (c.quo xs).src = (repL xs xs.length).map fun i => c.src.getD i 0 := rfl
theorem map_getD_list {α : Type} {l : List α} {f : α → Int} {i : Nat} {d : α} (h : i < l.length) : (l.map f).getD i 0 = f (l.getD i d) := by
  simp [List.getD_eq_getElem?_getD, List.getElem?_eq_getElem h]
theorem Cat.quo_get {c : Cat} {xs : List Int} {i : Nat} (h : i < (repL xs xs.length).length) : (c.quo xs).src.getD i 0 = c.src.getD ((repL xs xs.length).getD i 0) 0 ∧ (c.quo xs).tgt.getD i 0 = c.tgt.getD ((repL xs xs.length).getD i 0) 0 :=
  ⟨map_getD_list h, map_getD_list h⟩
/-- What the closure answers. -/
def Cat.quoA (c : Cat) (xs : List Int) (i j : Nat) : Int := xs.getD (c.tn ((repL xs xs.length).getD i 0) ((repL xs xs.length).getD j 0)) 0
theorem Cat.quo_tab {c : Cat} {xs : List Int} (hS : c.Shape) (hl : xs.length = c.src.length) : tabL (c.quo xs).src (c.quo xs).tgt (c.quoA xs) (repL xs xs.length).length = (c.quo xs).comp := by
  rw [← Cat.quoL_all]
  unfold tabL rowsOf quoL
  rw [List.take_length]
  apply List.ext_getElem (by simp)
  intro i h1 h2
  simp only [List.length_map, List.length_range] at h1
  simp only [List.getElem_map, List.getElem_range]
  have ei : (repL xs xs.length)[i] = (repL xs xs.length).getD i 0 := by rw [List.getD_eq_getElem?_getD, List.getElem?_eq_getElem h1]; rfl
  rw [ei]
  unfold tabR quoRow
  apply List.ext_getElem (by simp)
  intro j k1 k2
  simp only [List.length_map, List.length_range] at k1
  simp only [List.getElem_map, List.getElem_range]
  obtain ⟨a1, a2⟩ := Cat.quo_get (c := c) h1
  obtain ⟨b1, b2⟩ := Cat.quo_get (c := c) k1
  have ej : (repL xs xs.length)[j] = (repL xs xs.length).getD j 0 := by rw [List.getD_eq_getElem?_getD, List.getElem?_eq_getElem k1]; rfl
  rw [ej]
  have li := repL_lt h1
  have lj := repL_lt k1
  have hge := hS.th_ge (f := (repL xs xs.length).getD i 0) (g := (repL xs xs.length).getD j 0) (by omega) (by omega)
  have hlt := hS.th_lt (f := (repL xs xs.length).getD i 0) (g := (repL xs xs.length).getD j 0) (by omega) (by omega)
  rw [Cat.th_nat] at hge hlt
  unfold Cat.quoX
  by_cases e : c.tgt.getD ((repL xs xs.length).getD i 0) 0 = c.src.getD ((repL xs xs.length).getD j 0) 0
  · rw [tabC_T (by rw [a2, b1]; exact e), if_pos (hge.2 e)]
    rfl
  · rw [tabC_F (by rw [a2, b1]; exact e)]
    have : ¬ 0 ≤ (c.comp.getD ((repL xs xs.length).getD i 0) []).getD ((repL xs xs.length).getD j 0) 0 := fun h => e (hge.1 h)
    rw [if_neg this]
    omega
noncomputable def Cat.quoR (c : Cat) (xs : List Int) : Cat := bif B (c.Is ∧ c.Cong xs) then c.quo xs else .zero
noncomputable def Cat.quoC (c : Cat) (xs : List Int) : Int := bif B (c.Is ∧ c.Cong xs) then 0 else 1
theorem Cat.quo_ok {c : Cat} {xs : List Int} (h : c.Is ∧ c.Cong xs) : c.quoR xs = c.quo xs ∧ c.quoC xs = 0 := by unfold quoR quoC; rw [B_true h]; exact ⟨rfl, rfl⟩
theorem Cat.quo_not {c : Cat} {xs : List Int} (h : ¬ (c.Is ∧ c.Cong xs)) : c.quoR xs = .zero ∧ c.quoC xs = 1 := by unfold quoR quoC; rw [B_false h]; exact ⟨rfl, rfl⟩
theorem Cat.quo_small {c : Cat} {xs : List Int} : (c.quoR xs).Small := by
  by_cases h : c.Is ∧ c.Cong xs
  · rw [(Cat.quo_ok h).1]
    have b1 := h.1.1.n40
    have b2 := h.1.1.obj
    have b3 := h.1.1.il
    have b4 := repL_le xs xs.length
    have b5 := h.2.len
    refine ⟨by simp [Cat.quo]; omega, by simp [Cat.quo]; omega, by simp [Cat.quo]; omega, by simp [Cat.quo]; omega, fun i => ?_, ?_⟩
    · by_cases hi : i < (repL xs xs.length).length
      · simp [Cat.quo, List.getD_eq_getElem?_getD, List.getElem?_eq_getElem hi]; omega
      · simp [Cat.quo, List.getD_eq_getElem?_getD, List.getElem?_eq_none (Nat.le_of_not_lt hi)]
    · show -9223372036854775808 ≤ c.obj ∧ c.obj ≤ 9223372036854775807
      omega
  · rw [(Cat.quo_not h).1]
    refine ⟨by simp [Cat.zero], by simp [Cat.zero], by simp [Cat.zero], by simp [Cat.zero], fun i => by simp [Cat.zero], by simp [Cat.zero]⟩
def NewCatR (H : GHeap) (c : Cat) (v : Value) (H' : GHeap) : Prop := H.Le H' ∧ ∃ p, v = .agg (c.cells p).toArray ∧ CatR H.next H' c p
end Go.GL
/- Quotients of categories. No condition but those of each statement. -/
namespace Go.Proofs.Ytfejmmaeigbfkaa
open Go Go.GL Go.RowKit Go.Proofs
theorem bt_27_Qr : buildT Try.prog 27 = some ([.int .i64 0, .slice none 0 0, .slice none 0 0, .slice none 0 0, .slice none 0 0], [(0, 1), (1, 1), (2, 1), (3, 1), (4, 1)]) := by kernel_rfl
set_option maxHeartbeats 4000000 in
theorem l03Quotient_c {c : Cat} {p : CatP} {a : Option Addr} {xs : List Int} {H : GHeap} (hin : c.In H p := by assumption) (h : Ints H a xs := by assumption) (hS : c.Shape) (hl : xs.length = c.src.length) :
    GCalls Try.prog 43 [.agg (c.cells p).toArray, .slice a xs.length xs.length] H (NewCatR H (c.quo xs)) := by
  have b1 := hS.n40
  have b2 := hS.tl
  have b3 := hS.cl
  have b4 := hS.il
  have b5 := hS.obj
  have b6 := repL_le xs xs.length
  refine GCalls.body (N := 128) (rs := [.cell 4 27]) Try.func43 rfl rfl rfl rfl (fun Qx hret hend => ?_)
  refine .forget (fr' := [(0, some _), (1, some _)]) ⟨rfl, rfl, trivial⟩ ?_
  have hle := GHeap.Le.refl H
  have base_hin := hin
  have base_h := h
  refine .seq (fun K1 hK1 => ?_)
  refine .region ?_
  refine .r rfl rfl rfl (.boxR rfl sz_27_D rfl) ?_
  rintro _ H2 ⟨g2, rfl, le2, ge2, at2⟩
  have nx_H2 := le2.1
  replace hle := hle.trans le2
  have lt_at2 := GHeap.lt_of_get at2
  replace hin := base_hin.mono hle
  replace h := base_h.mono hle
  have hb2 : Cat.At _ g2 0 c p := ⟨Mem.of_get at2, hin⟩
  obtain ⟨c02, c12, c22, c32, c42, i12, i22, i32, i42⟩ := hb2.get
  have hm2 : MemN _ _ _ _ _ := ⟨rfl, hb2.1⟩
  have hi2 := hb2.2
  refine .r rfl rfl rfl (.allocR rfl ze_27_E rfl) ?_
  rintro _ H4 ⟨g4, rfl, le4, ge4, at4⟩
  have nx_H4 := le4.1
  replace hle := hle.trans le4
  replace at2 := le4.2 _ _ at2
  have lt_at4 := GHeap.lt_of_get at4
  replace hin := base_hin.mono hle
  replace h := base_h.mono hle
  clear hb2 c02 c12 c22 c32 c42 i12 i22 i32 i42 hm2 hi2
  have hb2 : Cat.At _ g2 0 c p := ⟨Mem.of_get at2, hin⟩
  obtain ⟨c02, c12, c22, c32, c42, i12, i22, i32, i42⟩ := hb2.get
  have hm2 : MemN _ _ _ _ _ := ⟨rfl, hb2.1⟩
  have hi2 := hb2.2
  refine .nil ?_
  refine hK1 _ _ ?_
  refine .seq (fun K2 hK2 => ?_)
  refine .region ?_
  refine .r rfl rfl rfl (.litR rfl sl_22_A ze_2_E rfl rfl (by omega) (by omega) rfl rfl) ?_
  rintro _ H13 ⟨g13, rfl, le13, ge13, at13⟩
  have nx_H13 := le13.1
  replace hle := hle.trans le13
  replace at2 := le13.2 _ _ at2
  replace at4 := le13.2 _ _ at4
  have lt_at13 := GHeap.lt_of_get at13
  replace hin := base_hin.mono hle
  replace h := base_h.mono hle
  clear hb2 c02 c12 c22 c32 c42 i12 i22 i32 i42 hm2 hi2
  have hb2 : Cat.At _ g2 0 c p := ⟨Mem.of_get at2, hin⟩
  obtain ⟨c02, c12, c22, c32, c42, i12, i22, i32, i42⟩ := hb2.get
  have hm2 : MemN _ _ _ _ _ := ⟨rfl, hb2.1⟩
  have hi2 := hb2.2
  replace at13 : GHeap.get H13 g13 = some (.row (ints []) 2 true) := at13
  refine .m rfl rfl rfl (.assign rfl) ?_
  refine .nil ?_
  refine hK2 _ _ ?_
  refine .seq (fun K3 hK3 => ?_)
  refine .seq (fun K4 hK4 => ?_)
  refine .region ?_
  refine .m rfl rfl rfl (.assign rfl) ?_
  refine .nil ?_
  refine hK4 _ _ ?_
  refine .block ?_
  refine .loopR (σ := Nat × Nat × Nat) [(1, some _), (2, some _), (4, some _)] (fun (k, gL5, nL5) => [(6, some (.int .i64 (k : Int))), (5, some (.slice (some ⟨gL5, 0, none⟩) nL5 nL5))]) (fun (k, gL5, nL5) H' => St [g13] H13 H' ∧ H'.get gL5 = some (.row (ints (repI xs k)) 2 true) ∧ (gL5 = g13 ∨ H13.next ≤ gL5) ∧ nL5 = (repI xs k).length ∧ k ≤ xs.length) (fun (k, gL5, nL5) => xs.length - k) ((0, _, _)) ⟨rfl, rfl, rfl, trivial⟩ ⟨rfl, rfl, trivial⟩ ?_ ?_
  ·
   refine ⟨.refl _ _, by first | assumption | exact at13 | simpa using at13, .inl rfl, by first | rfl | assumption | simp | omega, ?_⟩
   omega
  ·
   rintro ⟨k, gL5, nL5⟩ HL1 ⟨lst1, at_L5, pl_L5, ln_L5, hI⟩ KL1 hKL1
   refine .forget (fr' := [(6, some (.int .i64 (k : Int))), (5, some (.slice (some ⟨gL5, 0, none⟩) nL5 nL5)), (1, some _), (2, some _), (4, some _)]) ⟨rfl, rfl, rfl, rfl, rfl, trivial⟩ ?_
   have ge_L5 : H.next ≤ gL5 := by omega
   have nx_HL1 := lst1.nx
   replace hle := hle.st lst1 (fun k hk => ⟨by omega, trivial⟩)
   replace at2 := lst1.same _ _ ⟨by omega, trivial⟩ at2
   replace at4 := lst1.same _ _ ⟨by omega, trivial⟩ at4
   have lt_at_L5 := GHeap.lt_of_get at_L5
   replace hin := base_hin.mono hle
   replace h := base_h.mono hle
   clear hb2 c02 c12 c22 c32 c42 i12 i22 i32 i42 hm2 hi2
   have hb2 : Cat.At _ g2 0 c p := ⟨Mem.of_get at2, hin⟩
   obtain ⟨c02, c12, c22, c32, c42, i12, i22, i32, i42⟩ := hb2.get
   have hm2 : MemN _ _ _ _ _ := ⟨rfl, hb2.1⟩
   have hi2 := hb2.2
   have b7 := repL_le xs k
   have b8 := length_repI xs k
   refine .seq (fun K5 hK5 => ?_)
   refine .seq (fun K6 hK6 => ?_)
   refine .region ?_
   refine .m rfl rfl rfl (.move rfl) ?_
   refine .m rfl rfl rfl (.move rfl) ?_
   refine .m rfl rfl rfl (.len sl_22_A rfl) ?_
   refine .m rfl rfl rfl (.cmp rfl rfl rfl) ?_
   refine .nil ?_
   refine hK6 _ _ ?_
   refine .cond rfl (fun h17 => ?_) (fun h17 => ?_)
   ·
    simp only [sps] at h17
    refine .skip ?_
    refine hK5 _ _ ?_
    refine .seq (fun K7 hK7 => ?_)
    refine .block ?_
    refine .seq (fun K8 hK8 => ?_)
    refine .region ?_
    refine .m rfl rfl rfl (.move rfl) ?_
    refine .m rfl rfl rfl (.move rfl) ?_
    refine .m rfl rfl rfl (.move rfl) ?_
    refine .m rfl rfl rfl (.idxN sl_22_A (by assumption) rfl rfl (by omega)) ?_
    refine .m rfl rfl rfl (.loadI on_2_A (by assumption) rfl (by omega)) ?_
    refine .callQ rfl rfl rfl rfl @Try.call85 rfl (l01Index_c) ?_
    refine .m rfl rfl rfl (.move rfl) ?_
    refine .m rfl rfl rfl (.cmp rfl rfl rfl) ?_
    refine .nil ?_
    refine hK8 _ _ ?_
    refine .cond rfl (fun h27 => ?_) (fun h27 => ?_)
    ·
     simp only [sps] at h27
     rw [idxL_rep (by omega)] at h27
     replace h27 := Int.ofNat_inj.1 h27
     refine .region ?_
     refine .m rfl rfl rfl (.move rfl) ?_
     refine .m rfl rfl rfl (.move rfl) ?_
     refine .r rfl rfl rfl (.litR rfl sl_22_A ze_2_E rfl rfl (by omega) (by omega) rfl rfl) ?_
     rintro _ H30 ⟨g30, rfl, le30, ge30, at30⟩
     have nx_H30 := le30.1
     replace hle := hle.trans le30
     replace lst1 := lst1.le le30
     replace at2 := le30.2 _ _ at2
     replace at4 := le30.2 _ _ at4
     replace at_L5 := le30.2 _ _ at_L5
     have lt_at30 := GHeap.lt_of_get at30
     replace hin := base_hin.mono hle
     replace h := base_h.mono hle
     clear hb2 c02 c12 c22 c32 c42 i12 i22 i32 i42 hm2 hi2
     have hb2 : Cat.At _ g2 0 c p := ⟨Mem.of_get at2, hin⟩
     obtain ⟨c02, c12, c22, c32, c42, i12, i22, i32, i42⟩ := hb2.get
     have hm2 : MemN _ _ _ _ _ := ⟨rfl, hb2.1⟩
     have hi2 := hb2.2
     refine .r rfl rfl rfl (.appendI rfl sl_22_A ze_2_E rfl by_2_E sl_22_A rfl rfl (by assumption) (by assumption) (by first | omega | (simp <;> omega)) (by omega) (by omega)) ?_
     rintro _ H31 ⟨g31, rfl, st31, ge31, at31⟩
     have nx_H31 := st31.nx
     replace hle := hle.st st31 (fun k hk => ⟨by omega, trivial⟩)
     replace lst1 := lst1.st st31 (fun k hk ho => by simp only [out, and_true] at ho ⊢ <;> omega)
     replace at2 := st31.same _ _ ⟨by omega, trivial⟩ at2
     replace at4 := st31.same _ _ ⟨by omega, trivial⟩ at4
     replace at30 := st31.same _ _ ⟨by omega, trivial⟩ at30
     have lt_at31 := GHeap.lt_of_get at31
     replace hin := base_hin.mono hle
     replace h := base_h.mono hle
     clear hb2 c02 c12 c22 c32 c42 i12 i22 i32 i42 hm2 hi2
     have hb2 : Cat.At _ g2 0 c p := ⟨Mem.of_get at2, hin⟩
     obtain ⟨c02, c12, c22, c32, c42, i12, i22, i32, i42⟩ := hb2.get
     have hm2 : MemN _ _ _ _ _ := ⟨rfl, hb2.1⟩
     have hi2 := hb2.2
     refine .m rfl rfl rfl (.assign rfl) ?_
     refine .nil ?_
     refine hK7 _ _ ?_
     refine .region ?_
     refine .m rfl rfl rfl (.move rfl) ?_
     refine .m rfl rfl rfl (.add rfl rfl rfl (by omega) (by omega)) ?_
     refine .m rfl rfl rfl (.assign rfl) ?_
     refine .nil ?_
     refine hKL1 ((k + 1, _, _)) _ _ ?_ ?_ ⟨rfl, rfl, rfl, rfl, rfl, trivial⟩
     ·
      refine ⟨lst1, by first | assumption | (rw [repI_new h27]; assumption) | (rw [repI_old h27]; assumption), by omega, by first | omega | (simp only [List.length_append, List.length_cons, List.length_nil] <;> omega) | (rw [repI_new h27] <;> (first | omega | (simp only [List.length_append, List.length_cons, List.length_nil] <;> omega))) | (rw [repI_old h27] <;> (first | omega | (simp only [List.length_append, List.length_cons, List.length_nil] <;> omega))), ?_⟩
      omega
     ·
      (dsimp only; omega)
    ·
     simp only [sps] at h27
     rw [idxL_rep (by omega)] at h27
     replace h27 := fun e => h27 (Int.ofNat_inj.2 e)
     refine .skip ?_
     refine hK7 _ _ ?_
     refine .region ?_
     refine .m rfl rfl rfl (.move rfl) ?_
     refine .m rfl rfl rfl (.add rfl rfl rfl (by omega) (by omega)) ?_
     refine .m rfl rfl rfl (.assign rfl) ?_
     refine .nil ?_
     refine hKL1 ((k + 1, _, _)) _ _ ?_ ?_ ⟨rfl, rfl, rfl, rfl, rfl, trivial⟩
     ·
      refine ⟨lst1, by first | assumption | (rw [repI_new h27]; assumption) | (rw [repI_old h27]; assumption), by omega, by first | omega | (simp only [List.length_append, List.length_cons, List.length_nil] <;> omega) | (rw [repI_new h27] <;> (first | omega | (simp only [List.length_append, List.length_cons, List.length_nil] <;> omega))) | (rw [repI_old h27] <;> (first | omega | (simp only [List.length_append, List.length_cons, List.length_nil] <;> omega))), ?_⟩
      omega
     ·
      (dsimp only; omega)
   ·
    try simp only [sps] at h17
    refine .exit ?_
    refine hK3 _ _ ?_
    refine .seq (fun K9 hK9 => ?_)
    refine .region ?_
    obtain rfl : k = xs.length := by omega
    obtain rfl := ln_L5
    refine .m rfl rfl rfl (.fieldAddr fo_27_0_B rfl) ?_
    refine .m rfl rfl rfl (.load on_2_A rfl (by first | assumption | exact Mem.of_get at2 0 _ rfl)) ?_
    refine .r rfl rfl rfl (.litR rfl sl_22_A ze_2_E rfl rfl (by omega) (by omega) rfl rfl) ?_
    rintro _ H34 ⟨g34, rfl, le34, ge34, at34⟩
    have nx_H34 := le34.1
    replace hle := hle.trans le34
    replace lst1 := lst1.le le34
    replace at2 := le34.2 _ _ at2
    replace at4 := le34.2 _ _ at4
    replace at_L5 := le34.2 _ _ at_L5
    have lt_at34 := GHeap.lt_of_get at34
    replace hin := base_hin.mono hle
    replace h := base_h.mono hle
    clear hb2 c02 c12 c22 c32 c42 i12 i22 i32 i42 hm2 hi2
    have hb2 : Cat.At _ g2 0 c p := ⟨Mem.of_get at2, hin⟩
    obtain ⟨c02, c12, c22, c32, c42, i12, i22, i32, i42⟩ := hb2.get
    have hm2 : MemN _ _ _ _ _ := ⟨rfl, hb2.1⟩
    have hi2 := hb2.2
    replace at34 : GHeap.get H34 g34 = some (.row (ints []) 2 true) := at34
    refine .r rfl rfl rfl (.litR rfl sl_22_A ze_2_E rfl rfl (by omega) (by omega) rfl rfl) ?_
    rintro _ H35 ⟨g35, rfl, le35, ge35, at35⟩
    have nx_H35 := le35.1
    replace hle := hle.trans le35
    replace lst1 := lst1.le le35
    replace at2 := le35.2 _ _ at2
    replace at4 := le35.2 _ _ at4
    replace at_L5 := le35.2 _ _ at_L5
    replace at34 := le35.2 _ _ at34
    have lt_at35 := GHeap.lt_of_get at35
    replace hin := base_hin.mono hle
    replace h := base_h.mono hle
    clear hb2 c02 c12 c22 c32 c42 i12 i22 i32 i42 hm2 hi2
    have hb2 : Cat.At _ g2 0 c p := ⟨Mem.of_get at2, hin⟩
    obtain ⟨c02, c12, c22, c32, c42, i12, i22, i32, i42⟩ := hb2.get
    have hm2 : MemN _ _ _ _ _ := ⟨rfl, hb2.1⟩
    have hi2 := hb2.2
    replace at35 : GHeap.get H35 g35 = some (.row (ints []) 2 true) := at35
    refine .r rfl rfl rfl (.litR rfl sl_22_A ze_2_E rfl rfl (by omega) (by omega) rfl rfl) ?_
    rintro _ H36 ⟨g36, rfl, le36, ge36, at36⟩
    have nx_H36 := le36.1
    replace hle := hle.trans le36
    replace lst1 := lst1.le le36
    replace at2 := le36.2 _ _ at2
    replace at4 := le36.2 _ _ at4
    replace at_L5 := le36.2 _ _ at_L5
    replace at34 := le36.2 _ _ at34
    replace at35 := le36.2 _ _ at35
    have lt_at36 := GHeap.lt_of_get at36
    replace hin := base_hin.mono hle
    replace h := base_h.mono hle
    clear hb2 c02 c12 c22 c32 c42 i12 i22 i32 i42 hm2 hi2
    have hb2 : Cat.At _ g2 0 c p := ⟨Mem.of_get at2, hin⟩
    obtain ⟨c02, c12, c22, c32, c42, i12, i22, i32, i42⟩ := hb2.get
    have hm2 : MemN _ _ _ _ _ := ⟨rfl, hb2.1⟩
    have hi2 := hb2.2
    replace at36 : GHeap.get H36 g36 = some (.row (ints []) 2 true) := at36
    refine .r rfl rfl rfl (.litR rfl sl_23_B ze_22_E rfl rfl (by omega) (by omega) rfl rfl) ?_
    rintro _ H37 ⟨g37, rfl, le37, ge37, at37⟩
    have nx_H37 := le37.1
    replace hle := hle.trans le37
    replace lst1 := lst1.le le37
    replace at2 := le37.2 _ _ at2
    replace at4 := le37.2 _ _ at4
    replace at_L5 := le37.2 _ _ at_L5
    replace at34 := le37.2 _ _ at34
    replace at35 := le37.2 _ _ at35
    replace at36 := le37.2 _ _ at36
    have lt_at37 := GHeap.lt_of_get at37
    replace hin := base_hin.mono hle
    replace h := base_h.mono hle
    clear hb2 c02 c12 c22 c32 c42 i12 i22 i32 i42 hm2 hi2
    have hb2 : Cat.At _ g2 0 c p := ⟨Mem.of_get at2, hin⟩
    obtain ⟨c02, c12, c22, c32, c42, i12, i22, i32, i42⟩ := hb2.get
    have hm2 : MemN _ _ _ _ _ := ⟨rfl, hb2.1⟩
    have hi2 := hb2.2
    refine .m rfl rfl rfl (.build bt_27_Qr rfl rfl rfl) ?_
    refine .r rfl rfl rfl (.allocR rfl ze_27_E rfl) ?_
    rintro _ H7 ⟨g7, rfl, le7, ge7, at7⟩
    have nx_H7 := le7.1
    replace hle := hle.trans le7
    replace lst1 := lst1.le le7
    replace at2 := le7.2 _ _ at2
    replace at4 := le7.2 _ _ at4
    replace at_L5 := le7.2 _ _ at_L5
    replace at34 := le7.2 _ _ at34
    replace at35 := le7.2 _ _ at35
    replace at36 := le7.2 _ _ at36
    replace at37 := le7.2 _ _ at37
    have lt_at7 := GHeap.lt_of_get at7
    replace hin := base_hin.mono hle
    replace h := base_h.mono hle
    clear hb2 c02 c12 c22 c32 c42 i12 i22 i32 i42 hm2 hi2
    have hb2 : Cat.At _ g2 0 c p := ⟨Mem.of_get at2, hin⟩
    obtain ⟨c02, c12, c22, c32, c42, i12, i22, i32, i42⟩ := hb2.get
    have hm2 : MemN _ _ _ _ _ := ⟨rfl, hb2.1⟩
    have hi2 := hb2.2
    refine .r0 rfl rfl (.fillR rfl sz_27_D rfl rfl rfl rfl (by assumption) (by first | rfl | exact Nat.le_of_ble_eq_true rfl | simp)) ?_
    rintro _ H7008 ⟨rfl, st7008, at7008⟩
    have nx_H7008 := st7008.nx
    replace hle := hle.st st7008 (fun k hk => ⟨by omega, trivial⟩)
    replace lst1 := lst1.st st7008 (fun k hk ho => by simp only [out, and_true] at ho ⊢ <;> omega)
    replace at2 := st7008.same _ _ ⟨by omega, trivial⟩ at2
    replace at4 := st7008.same _ _ ⟨by omega, trivial⟩ at4
    replace at_L5 := st7008.same _ _ ⟨by omega, trivial⟩ at_L5
    replace at34 := st7008.same _ _ ⟨by omega, trivial⟩ at34
    replace at35 := st7008.same _ _ ⟨by omega, trivial⟩ at35
    replace at36 := st7008.same _ _ ⟨by omega, trivial⟩ at36
    replace at37 := st7008.same _ _ ⟨by omega, trivial⟩ at37
    have lt_at7008 := GHeap.lt_of_get at7008
    replace hin := base_hin.mono hle
    replace h := base_h.mono hle
    clear hb2 c02 c12 c22 c32 c42 i12 i22 i32 i42 hm2 hi2
    have hb2 : Cat.At _ g2 0 c p := ⟨Mem.of_get at2, hin⟩
    obtain ⟨c02, c12, c22, c32, c42, i12, i22, i32, i42⟩ := hb2.get
    have hm2 : MemN _ _ _ _ _ := ⟨rfl, hb2.1⟩
    have hi2 := hb2.2
    have mm7008 : MemN _ _ _ _ _ := ⟨rfl, Mem.of_get at7008⟩
    refine .nil ?_
    refine hK9 _ _ ?_
    refine .seq (fun K10 hK10 => ?_)
    refine .seq (fun K11 hK11 => ?_)
    refine .region ?_
    refine .m rfl rfl rfl (.assign rfl) ?_
    refine .nil ?_
    refine hK11 _ _ ?_
    refine .block ?_
    refine .loopR (σ := Nat × Nat) [(1, some _), (2, some _), (4, some _), (5, some _), (7, some _)] (fun (x, gLI) => [(8, some (.int .i64 (x : Int)))]) (fun (x, gLI) H' => St [g36, g7] H7008 H' ∧ H'.get gLI = some (.row (ints ((c.idn.take x).map fun a => xs.getD a.toNat 0)) 2 true) ∧ (gLI = g36 ∨ H7008.next ≤ gLI) ∧ H'.get g7 = some (.row ([.int .i64 c.obj, .slice (some ⟨g34, 0, none⟩) 0 0, .slice (some ⟨g35, 0, none⟩) 0 0, .slice (some ⟨gLI, 0, none⟩) x x, .slice (some ⟨g37, 0, none⟩) 0 0]) 27 true) ∧ gLI ≠ g7 ∧ (x : Int) ≤ c.obj) (fun (x, gLI) => (c.obj - x : Int).toNat) ((0, g36)) ⟨rfl, rfl, rfl, rfl, rfl, trivial⟩ ⟨rfl, trivial⟩ ?_ ?_
    ·
     refine ⟨.refl _ _, by first | assumption | exact at36 | simpa using at36, .inl rfl, by first | assumption | exact at7008 | simpa using at7008, by omega, ?_⟩
     omega
    ·
     rintro ⟨x, gLI⟩ HL2 ⟨lst2, at_LI, pl_LI, at_Lg7, ap2_0, hI⟩ KL2 hKL2
     refine .forget (fr' := [(8, some (.int .i64 (x : Int))), (1, some _), (2, some _), (4, some _), (5, some _), (7, some _)]) ⟨rfl, rfl, rfl, rfl, rfl, rfl, trivial⟩ ?_
     have ge_LI : H.next ≤ gLI := by omega
     have nx_HL2 := lst2.nx
     replace hle := hle.st lst2 (fun k hk => ⟨by omega, by omega, trivial⟩)
     replace lst1 := lst1.st lst2 (fun k hk ho => by simp only [out, and_true] at ho ⊢ <;> omega)
     replace at2 := lst2.same _ _ ⟨by omega, by omega, trivial⟩ at2
     replace at4 := lst2.same _ _ ⟨by omega, by omega, trivial⟩ at4
     replace at_L5 := lst2.same _ _ ⟨by omega, by omega, trivial⟩ at_L5
     replace at34 := lst2.same _ _ ⟨by omega, by omega, trivial⟩ at34
     replace at35 := lst2.same _ _ ⟨by omega, by omega, trivial⟩ at35
     replace at37 := lst2.same _ _ ⟨by omega, by omega, trivial⟩ at37
     have lt_at_LI := GHeap.lt_of_get at_LI
     have lt_at_Lg7 := GHeap.lt_of_get at_Lg7
     replace hin := base_hin.mono hle
     replace h := base_h.mono hle
     clear hb2 c02 c12 c22 c32 c42 i12 i22 i32 i42 hm2 hi2
     have hb2 : Cat.At _ g2 0 c p := ⟨Mem.of_get at2, hin⟩
     obtain ⟨c02, c12, c22, c32, c42, i12, i22, i32, i42⟩ := hb2.get
     have hm2 : MemN _ _ _ _ _ := ⟨rfl, hb2.1⟩
     have hi2 := hb2.2
     clear mm7008
     have mm7008 : MemN _ _ _ _ _ := ⟨rfl, Mem.of_get at7008⟩
     refine .seq (fun K12 hK12 => ?_)
     refine .seq (fun K13 hK13 => ?_)
     refine .region ?_
     refine .m rfl rfl rfl (.move rfl) ?_
     refine .m rfl rfl rfl (.fieldAddr fo_27_0_B rfl) ?_
     refine .m rfl rfl rfl (.load on_2_A rfl (by first | assumption | exact Mem.of_get at2 0 _ rfl)) ?_
     refine .m rfl rfl rfl (.cmp rfl rfl rfl) ?_
     refine .nil ?_
     refine hK13 _ _ ?_
     refine .cond rfl (fun h42 => ?_) (fun h42 => ?_)
     ·
      simp only [sps] at h42
      have r1 := hS.idn x (by omega)
      refine .skip ?_
      refine hK12 _ _ ?_
      refine .seq (fun K14 hK14 => ?_)
      refine .block ?_
      refine .regionD mixed_orders_B (.q 0 (.q 1 (.q 2 (.q 3 (.q 4 (.q 5 (.q 6 (.q 7 (.q 8 (.q 9 (.c 10 1 (.c 11 0 (.q 12 (.c 13 0 (.done))))))))))))))) (by kernel_rfl) ?_
      refine .m rfl rfl rfl rfl (.refl _) (.fieldAddr fo_27_3_B rfl) ?_
      refine .m rfl rfl rfl rfl (.refl _) (.load on_22_B rfl (by first | assumption | exact Mem.of_get at_Lg7 3 _ rfl)) ?_
      refine .m rfl rfl rfl rfl (.refl _) (.move rfl) ?_
      refine .m rfl rfl rfl rfl (.refl _) (.fieldAddr fo_27_3_B rfl) ?_
      refine .m rfl rfl rfl rfl (.refl _) (.load on_22_B rfl (by first | assumption | exact Mem.of_get at2 3 _ rfl)) ?_
      refine .m rfl rfl rfl rfl (.refl _) (.move rfl) ?_
      refine .m rfl rfl rfl rfl (.refl _) (.idxN sl_22_A (by assumption) rfl rfl (by omega)) ?_
      refine .m rfl rfl rfl rfl (.refl _) (.loadI on_2_A (by assumption) rfl (by omega)) ?_
      refine .m rfl rfl rfl rfl (.refl _) (.idx1 sl_22_A (by assumption) rfl rfl (by omega) (by omega)) ?_
      refine .m rfl rfl rfl rfl (.refl _) (.loadI on_2_A (by assumption) rfl (by omega)) ?_
      refine .c1 rfl rfl rfl rfl (.litR rfl sl_22_A ze_2_E rfl rfl (by omega) (by omega) rfl rfl) ?_
      rintro _ H55 ⟨g55, rfl, le55, ge55, at55⟩
      have hbl := le55
      refine ⟨hbl, ?_⟩
      have nx_H55 := le55.1
      replace hle := hle.trans le55
      replace lst1 := lst1.le le55
      replace lst2 := lst2.le le55
      replace at2 := le55.2 _ _ at2
      replace at4 := le55.2 _ _ at4
      replace at_L5 := le55.2 _ _ at_L5
      replace at34 := le55.2 _ _ at34
      replace at35 := le55.2 _ _ at35
      replace at37 := le55.2 _ _ at37
      replace at_LI := le55.2 _ _ at_LI
      replace at_Lg7 := le55.2 _ _ at_Lg7
      have lt_at55 := GHeap.lt_of_get at55
      replace hin := base_hin.mono hle
      replace h := base_h.mono hle
      clear hb2 c02 c12 c22 c32 c42 i12 i22 i32 i42 hm2 hi2
      have hb2 : Cat.At _ g2 0 c p := ⟨Mem.of_get at2, hin⟩
      obtain ⟨c02, c12, c22, c32, c42, i12, i22, i32, i42⟩ := hb2.get
      have hm2 : MemN _ _ _ _ _ := ⟨rfl, hb2.1⟩
      have hi2 := hb2.2
      clear mm7008
      have mm7008 : MemN _ _ _ _ _ := ⟨rfl, Mem.of_get at7008⟩
      refine .c0 rfl rfl rfl rfl (.appendI rfl sl_22_A ze_2_E rfl by_2_E sl_22_A rfl rfl (by assumption) (by assumption) (by first | omega | (simp <;> omega)) (by omega) (by omega)) ?_
      rintro _ H56 ⟨g56, rfl, st56, ge56, at56⟩
      have nx_H56 := st56.nx
      replace hle := hle.st st56 (fun k hk => ⟨by omega, trivial⟩)
      replace lst1 := lst1.st st56 (fun k hk ho => by simp only [out, and_true] at ho ⊢ <;> omega)
      replace lst2 := lst2.st st56 (fun k hk ho => by simp only [out, and_true] at ho ⊢ <;> omega)
      replace at2 := st56.same _ _ ⟨by omega, trivial⟩ at2
      replace at4 := st56.same _ _ ⟨by omega, trivial⟩ at4
      replace at_L5 := st56.same _ _ ⟨by omega, trivial⟩ at_L5
      replace at34 := st56.same _ _ ⟨by omega, trivial⟩ at34
      replace at35 := st56.same _ _ ⟨by omega, trivial⟩ at35
      replace at37 := st56.same _ _ ⟨by omega, trivial⟩ at37
      replace at_Lg7 := st56.same _ _ ⟨by omega, trivial⟩ at_Lg7
      replace at55 := st56.same _ _ ⟨by omega, trivial⟩ at55
      have lt_at56 := GHeap.lt_of_get at56
      replace hin := base_hin.mono hle
      replace h := base_h.mono hle
      clear hb2 c02 c12 c22 c32 c42 i12 i22 i32 i42 hm2 hi2
      have hb2 : Cat.At _ g2 0 c p := ⟨Mem.of_get at2, hin⟩
      obtain ⟨c02, c12, c22, c32, c42, i12, i22, i32, i42⟩ := hb2.get
      have hm2 : MemN _ _ _ _ _ := ⟨rfl, hb2.1⟩
      have hi2 := hb2.2
      clear mm7008
      have mm7008 : MemN _ _ _ _ _ := ⟨rfl, Mem.of_get at7008⟩
      refine .m rfl rfl rfl rfl (.refl _) (.fieldAddr fo_27_3_B rfl) ?_
      refine .r0 rfl rfl rfl (.storeR rfl sz_22_E rfl rfl rfl (by assumption) (by first | exact Nat.le_of_ble_eq_true rfl | (simp; done) | (simp <;> omega))) ?_
      rintro _ H11013 ⟨rfl, st11013, at11013⟩
      have nx_H11013 := st11013.nx
      replace hle := hle.st st11013 (fun k hk => ⟨by omega, trivial⟩)
      replace lst1 := lst1.st st11013 (fun k hk ho => by simp only [out, and_true] at ho ⊢ <;> omega)
      replace lst2 := lst2.st st11013 (fun k hk ho => by simp only [out, and_true] at ho ⊢ <;> omega)
      replace at2 := st11013.same _ _ ⟨by omega, trivial⟩ at2
      replace at4 := st11013.same _ _ ⟨by omega, trivial⟩ at4
      replace at_L5 := st11013.same _ _ ⟨by omega, trivial⟩ at_L5
      replace at34 := st11013.same _ _ ⟨by omega, trivial⟩ at34
      replace at35 := st11013.same _ _ ⟨by omega, trivial⟩ at35
      replace at37 := st11013.same _ _ ⟨by omega, trivial⟩ at37
      replace at55 := st11013.same _ _ ⟨by omega, trivial⟩ at55
      replace at56 := st11013.same _ _ ⟨by omega, trivial⟩ at56
      have lt_at11013 := GHeap.lt_of_get at11013
      replace hin := base_hin.mono hle
      replace h := base_h.mono hle
      clear hb2 c02 c12 c22 c32 c42 i12 i22 i32 i42 hm2 hi2
      have hb2 : Cat.At _ g2 0 c p := ⟨Mem.of_get at2, hin⟩
      obtain ⟨c02, c12, c22, c32, c42, i12, i22, i32, i42⟩ := hb2.get
      have hm2 : MemN _ _ _ _ _ := ⟨rfl, hb2.1⟩
      have hi2 := hb2.2
      clear mm7008
      have mm7008 : MemN _ _ _ _ _ := ⟨rfl, Mem.of_get at7008⟩
      try simp only [Nat.zero_add, List.set_cons_succ, List.set_cons_zero] at at11013
      refine .done ?_
      refine hK14 _ _ ?_
      refine .region ?_
      refine .m rfl rfl rfl (.move rfl) ?_
      refine .m rfl rfl rfl (.add rfl rfl rfl (by omega) (by omega)) ?_
      refine .m rfl rfl rfl (.assign rfl) ?_
      refine .nil ?_
      refine hKL2 ((x + 1, g56)) _ _ ?_ ?_ ⟨rfl, rfl, rfl, rfl, rfl, rfl, trivial⟩
      ·
       refine ⟨lst2, by first | assumption | (rw [take_map_snoc (d := 0) (by omega)]; assumption), by omega, by first | assumption | (rw [take_map_snoc (d := 0) (by omega)]; assumption), by omega, ?_⟩
       omega
      ·
       (dsimp only; omega)
     ·
      try simp only [sps] at h42
      refine .exit ?_
      refine hK10 _ _ ?_
      refine .seq (fun K15 hK15 => ?_)
      refine .seq (fun K16 hK16 => ?_)
      refine .region ?_
      refine .m rfl rfl rfl (.assign rfl) ?_
      refine .nil ?_
      refine hK16 _ _ ?_
      refine .block ?_
      refine .loopR (σ := Nat × (Nat → Option Addr) × Nat × Nat × Nat) [(1, some _), (2, some _), (4, some _), (5, some _), (7, some _)] (fun (i, rr, gLF, gLT, gLC) => [(9, some (.int .i64 (i : Int)))]) (fun (i, rr, gLF, gLT, gLC) H' => St [g34, g35, g37, g7] HL2 H' ∧ H'.get gLF = some (.row (ints (((repL xs xs.length).take i).map fun i => c.src.getD i 0)) 2 true) ∧ (gLF = g34 ∨ HL2.next ≤ gLF) ∧ H'.get gLT = some (.row (ints (((repL xs xs.length).take i).map fun i => c.tgt.getD i 0)) 2 true) ∧ (gLT = g35 ∨ HL2.next ≤ gLT) ∧ H'.get gLC = some (.row ((slsL rr (c.quoL xs i))) 22 true) ∧ (gLC = g37 ∨ HL2.next ≤ gLC) ∧ H'.get g7 = some (.row ([.int .i64 c.obj, .slice (some ⟨gLF, 0, none⟩) i i, .slice (some ⟨gLT, 0, none⟩) i i, .slice (some ⟨gLI, 0, none⟩) x x, .slice (some ⟨gLC, 0, none⟩) i i]) 27 true) ∧ gLF ≠ gLT ∧ gLF ≠ gLC ∧ gLF ≠ g7 ∧ gLT ≠ gLC ∧ gLT ≠ g7 ∧ gLC ≠ g7 ∧ i ≤ (repL xs xs.length).length ∧ OwnL H.next H' 2 rr (c.quoL xs i) ∧ (∀ j, j < (c.quoL xs i).length → rr j ≠ some ⟨gLF, 0, none⟩) ∧ (∀ j, j < (c.quoL xs i).length → rr j ≠ some ⟨gLT, 0, none⟩) ∧ ∀ j, j < (c.quoL xs i).length → rr j ≠ some ⟨gLI, 0, none⟩) (fun (i, rr, gLF, gLT, gLC) => (repL xs xs.length).length - i) ((0, fun _ => none, g34, g35, g37)) ⟨rfl, rfl, rfl, rfl, rfl, trivial⟩ ⟨rfl, trivial⟩ ?_ ?_
      ·
       refine ⟨.refl _ _, by first | assumption | (rw [Cat.quoL_zero]; assumption), .inl rfl, by first | assumption | (rw [Cat.quoL_zero]; assumption), .inl rfl, by first | assumption | (rw [Cat.quoL_zero]; assumption), .inl rfl, by first | assumption | (rw [Cat.quoL_zero]; assumption), by omega, by omega, by omega, by omega, by omega, by omega, ?_⟩
       rw [Cat.quoL_zero]
       exact ⟨by omega, .nil _ _ _ _, fun _ h => by simp at h, fun _ h => by simp at h, fun _ h => by simp at h⟩
      ·
       rintro ⟨i, rr, gLF, gLT, gLC⟩ HL3 ⟨lst3, at_LF, pl_LF, at_LT, pl_LT, at_LC, pl_LC, at_Lg7, ap3_0, ap3_1, ap3_2, ap3_3, ap3_4, ap3_5, hI⟩ KL3 hKL3
       refine .forget (fr' := [(9, some (.int .i64 (i : Int))), (1, some _), (2, some _), (4, some _), (5, some _), (7, some _)]) ⟨rfl, rfl, rfl, rfl, rfl, rfl, trivial⟩ ?_
       have ge_LF : H.next ≤ gLF := by omega
       have ge_LT : H.next ≤ gLT := by omega
       have ge_LC : H.next ≤ gLC := by omega
       have nx_HL3 := lst3.nx
       replace hle := hle.st lst3 (fun k hk => ⟨by omega, by omega, by omega, by omega, trivial⟩)
       replace lst1 := lst1.st lst3 (fun k hk ho => by simp only [out, and_true] at ho ⊢ <;> omega)
       replace at2 := lst3.same _ _ ⟨by omega, by omega, by omega, by omega, trivial⟩ at2
       replace at4 := lst3.same _ _ ⟨by omega, by omega, by omega, by omega, trivial⟩ at4
       replace at_L5 := lst3.same _ _ ⟨by omega, by omega, by omega, by omega, trivial⟩ at_L5
       replace at_LI := lst3.same _ _ ⟨by omega, by omega, by omega, by omega, trivial⟩ at_LI
       have lt_at_LF := GHeap.lt_of_get at_LF
       have lt_at_LT := GHeap.lt_of_get at_LT
       have lt_at_LC := GHeap.lt_of_get at_LC
       have lt_at_Lg7 := GHeap.lt_of_get at_Lg7
       replace hin := base_hin.mono hle
       replace h := base_h.mono hle
       clear hb2 c02 c12 c22 c32 c42 i12 i22 i32 i42 hm2 hi2
       have hb2 : Cat.At _ g2 0 c p := ⟨Mem.of_get at2, hin⟩
       obtain ⟨c02, c12, c22, c32, c42, i12, i22, i32, i42⟩ := hb2.get
       have hm2 : MemN _ _ _ _ _ := ⟨rfl, hb2.1⟩
       have hi2 := hb2.2
       clear mm7008
       have mm7008 : MemN _ _ _ _ _ := ⟨rfl, Mem.of_get at7008⟩
       have rk := St.refl [gLF, gLT, gLC, g7] HL3
       obtain ⟨hi, hR, hF, hT, hId⟩ := hI
       have hatC := at_LC
       have hat7 := at_Lg7
       have hql := Cat.quoL_len (c := c) hi
       have hfl : (slsL rr (c.quoL xs i)).length = (c.quoL xs i).length := length_slsL _ _
       refine .seq (fun K17 hK17 => ?_)
       refine .seq (fun K18 hK18 => ?_)
       refine .region ?_
       refine .m rfl rfl rfl (.move rfl) ?_
       refine .m rfl rfl rfl (.move rfl) ?_
       refine .m rfl rfl rfl (.len sl_22_A rfl) ?_
       refine .m rfl rfl rfl (.cmp rfl rfl rfl) ?_
       refine .nil ?_
       refine hK18 _ _ ?_
       refine .cond rfl (fun h61 => ?_) (fun h61 => ?_)
       ·
        simp only [sps, length_repI] at h61
        have q1 := repI_get (xs := xs) (n := xs.length) (i := i) (by omega)
        have q2 := repL_lt (xs := xs) (n := xs.length) (i := i) (by omega)
        have q3 := hS.row ((repI xs xs.length).getD i 0).toNat (by omega)
        refine .skip ?_
        refine hK17 _ _ ?_
        refine .seq (fun K19 hK19 => ?_)
        refine .block ?_
        refine .seq (fun K20 hK20 => ?_)
        refine .regionD mixed_orders_B (.q 0 (.q 1 (.q 2 (.q 3 (.q 4 (.q 5 (.q 6 (.q 7 (.q 8 (.q 9 (.c 10 1 (.c 11 0 (.q 12 (.c 13 0 (.done))))))))))))))) (by kernel_rfl) ?_
        refine .m rfl rfl rfl rfl (.refl _) (.fieldAddr fo_27_1_B rfl) ?_
        refine .m rfl rfl rfl rfl (.refl _) (.load on_22_B rfl (by first | assumption | exact Mem.of_get at_Lg7 1 _ rfl)) ?_
        refine .m rfl rfl rfl rfl (.refl _) (.fieldAddr fo_27_1_B rfl) ?_
        refine .m rfl rfl rfl rfl (.refl _) (.load on_22_B rfl (by first | assumption | exact Mem.of_get at2 1 _ rfl)) ?_
        refine .m rfl rfl rfl rfl (.refl _) (.move rfl) ?_
        refine .m rfl rfl rfl rfl (.refl _) (.move rfl) ?_
        refine .m rfl rfl rfl rfl (.refl _) (.idxN sl_22_A (by first | assumption | exact SlA.of_row at_L5 (by first | rfl | (simp; done) | (simp <;> omega))) rfl rfl (by omega)) ?_
        refine .m rfl rfl rfl rfl (.refl _) (.loadI on_2_A (by first | assumption | exact Ints.of_get at_L5) rfl (by omega)) ?_
        refine .m rfl rfl rfl rfl (.refl _) (.idx1 sl_22_A (by assumption) rfl rfl (by omega) (by omega)) ?_
        refine .m rfl rfl rfl rfl (.refl _) (.loadI on_2_A (by assumption) rfl (by omega)) ?_
        refine .c1 rfl rfl rfl rfl (.litR rfl sl_22_A ze_2_E rfl rfl (by omega) (by omega) rfl rfl) ?_
        rintro _ H74 ⟨g74, rfl, le74, ge74, at74⟩
        have hbl := le74
        refine ⟨hbl, ?_⟩
        have nx_H74 := le74.1
        replace hle := hle.trans le74
        replace lst1 := lst1.le le74
        replace lst3 := lst3.le le74
        replace rk := rk.le le74
        replace at2 := le74.2 _ _ at2
        replace at4 := le74.2 _ _ at4
        replace at_L5 := le74.2 _ _ at_L5
        replace at_LI := le74.2 _ _ at_LI
        replace at_LF := le74.2 _ _ at_LF
        replace at_LT := le74.2 _ _ at_LT
        replace at_LC := le74.2 _ _ at_LC
        replace at_Lg7 := le74.2 _ _ at_Lg7
        have lt_at74 := GHeap.lt_of_get at74
        replace hin := base_hin.mono hle
        replace h := base_h.mono hle
        clear hb2 c02 c12 c22 c32 c42 i12 i22 i32 i42 hm2 hi2
        have hb2 : Cat.At _ g2 0 c p := ⟨Mem.of_get at2, hin⟩
        obtain ⟨c02, c12, c22, c32, c42, i12, i22, i32, i42⟩ := hb2.get
        have hm2 : MemN _ _ _ _ _ := ⟨rfl, hb2.1⟩
        have hi2 := hb2.2
        clear mm7008
        have mm7008 : MemN _ _ _ _ _ := ⟨rfl, Mem.of_get at7008⟩
        refine .c0 rfl rfl rfl rfl (.appendI rfl sl_22_A ze_2_E rfl by_2_E sl_22_A rfl rfl (by assumption) (by assumption) (by first | omega | (simp <;> omega)) (by omega) (by omega)) ?_
        rintro _ H75 ⟨g75, rfl, st75, ge75, at75⟩
        have nx_H75 := st75.nx
        replace hle := hle.st st75 (fun k hk => ⟨by omega, trivial⟩)
        replace lst1 := lst1.st st75 (fun k hk ho => by simp only [out, and_true] at ho ⊢ <;> omega)
        replace lst3 := lst3.st st75 (fun k hk ho => by simp only [out, and_true] at ho ⊢ <;> omega)
        replace rk := rk.st st75 (fun k hk ho => by simp only [out, and_true] at ho ⊢ <;> omega)
        replace at2 := st75.same _ _ ⟨by omega, trivial⟩ at2
        replace at4 := st75.same _ _ ⟨by omega, trivial⟩ at4
        replace at_L5 := st75.same _ _ ⟨by omega, trivial⟩ at_L5
        replace at_LI := st75.same _ _ ⟨by omega, trivial⟩ at_LI
        replace at_LT := st75.same _ _ ⟨by omega, trivial⟩ at_LT
        replace at_LC := st75.same _ _ ⟨by omega, trivial⟩ at_LC
        replace at_Lg7 := st75.same _ _ ⟨by omega, trivial⟩ at_Lg7
        replace at74 := st75.same _ _ ⟨by omega, trivial⟩ at74
        have lt_at75 := GHeap.lt_of_get at75
        replace hin := base_hin.mono hle
        replace h := base_h.mono hle
        clear hb2 c02 c12 c22 c32 c42 i12 i22 i32 i42 hm2 hi2
        have hb2 : Cat.At _ g2 0 c p := ⟨Mem.of_get at2, hin⟩
        obtain ⟨c02, c12, c22, c32, c42, i12, i22, i32, i42⟩ := hb2.get
        have hm2 : MemN _ _ _ _ _ := ⟨rfl, hb2.1⟩
        have hi2 := hb2.2
        clear mm7008
        have mm7008 : MemN _ _ _ _ _ := ⟨rfl, Mem.of_get at7008⟩
        refine .m rfl rfl rfl rfl (.refl _) (.fieldAddr fo_27_1_B rfl) ?_
        refine .r0 rfl rfl rfl (.storeR rfl sz_22_E rfl rfl rfl (by assumption) (by first | exact Nat.le_of_ble_eq_true rfl | (simp; done) | (simp <;> omega))) ?_
        rintro _ H15013 ⟨rfl, st15013, at15013⟩
        have nx_H15013 := st15013.nx
        replace hle := hle.st st15013 (fun k hk => ⟨by omega, trivial⟩)
        replace lst1 := lst1.st st15013 (fun k hk ho => by simp only [out, and_true] at ho ⊢ <;> omega)
        replace lst3 := lst3.st st15013 (fun k hk ho => by simp only [out, and_true] at ho ⊢ <;> omega)
        replace rk := rk.st st15013 (fun k hk ho => by simp only [out, and_true] at ho ⊢ <;> omega)
        replace at2 := st15013.same _ _ ⟨by omega, trivial⟩ at2
        replace at4 := st15013.same _ _ ⟨by omega, trivial⟩ at4
        replace at_L5 := st15013.same _ _ ⟨by omega, trivial⟩ at_L5
        replace at_LI := st15013.same _ _ ⟨by omega, trivial⟩ at_LI
        replace at_LT := st15013.same _ _ ⟨by omega, trivial⟩ at_LT
        replace at_LC := st15013.same _ _ ⟨by omega, trivial⟩ at_LC
        replace at74 := st15013.same _ _ ⟨by omega, trivial⟩ at74
        replace at75 := st15013.same _ _ ⟨by omega, trivial⟩ at75
        have lt_at15013 := GHeap.lt_of_get at15013
        replace hin := base_hin.mono hle
        replace h := base_h.mono hle
        clear hb2 c02 c12 c22 c32 c42 i12 i22 i32 i42 hm2 hi2
        have hb2 : Cat.At _ g2 0 c p := ⟨Mem.of_get at2, hin⟩
        obtain ⟨c02, c12, c22, c32, c42, i12, i22, i32, i42⟩ := hb2.get
        have hm2 : MemN _ _ _ _ _ := ⟨rfl, hb2.1⟩
        have hi2 := hb2.2
        clear mm7008
        have mm7008 : MemN _ _ _ _ _ := ⟨rfl, Mem.of_get at7008⟩
        try simp only [Nat.zero_add, List.set_cons_succ, List.set_cons_zero] at at15013
        refine .done ?_
        refine hK20 _ _ ?_
        refine .seq (fun K21 hK21 => ?_)
        refine .regionD mixed_orders_B (.q 0 (.q 1 (.q 2 (.q 3 (.q 4 (.q 5 (.q 6 (.q 7 (.q 8 (.q 9 (.c 10 1 (.c 11 0 (.q 12 (.c 13 0 (.done))))))))))))))) (by kernel_rfl) ?_
        refine .m rfl rfl rfl rfl (.refl _) (.fieldAddr fo_27_2_B rfl) ?_
        refine .m rfl rfl rfl rfl (.refl _) (.load on_22_B rfl (by first | assumption | exact Mem.of_get at15013 2 _ rfl)) ?_
        refine .m rfl rfl rfl rfl (.refl _) (.fieldAddr fo_27_2_B rfl) ?_
        refine .m rfl rfl rfl rfl (.refl _) (.load on_22_B rfl (by first | assumption | exact Mem.of_get at2 2 _ rfl)) ?_
        refine .m rfl rfl rfl rfl (.refl _) (.move rfl) ?_
        refine .m rfl rfl rfl rfl (.refl _) (.move rfl) ?_
        refine .m rfl rfl rfl rfl (.refl _) (.idxN sl_22_A (by first | assumption | exact SlA.of_row at_L5 (by first | rfl | (simp; done) | (simp <;> omega))) rfl rfl (by omega)) ?_
        refine .m rfl rfl rfl rfl (.refl _) (.loadI on_2_A (by first | assumption | exact Ints.of_get at_L5) rfl (by omega)) ?_
        refine .m rfl rfl rfl rfl (.refl _) (.idx1 sl_22_A (by assumption) rfl rfl (by omega) (by omega)) ?_
        refine .m rfl rfl rfl rfl (.refl _) (.loadI on_2_A (by assumption) rfl (by omega)) ?_
        refine .c1 rfl rfl rfl rfl (.litR rfl sl_22_A ze_2_E rfl rfl (by omega) (by omega) rfl rfl) ?_
        rintro _ H87 ⟨g87, rfl, le87, ge87, at87⟩
        have hbl := le87
        refine ⟨hbl, ?_⟩
        have nx_H87 := le87.1
        replace hle := hle.trans le87
        replace lst1 := lst1.le le87
        replace lst3 := lst3.le le87
        replace rk := rk.le le87
        replace at2 := le87.2 _ _ at2
        replace at4 := le87.2 _ _ at4
        replace at_L5 := le87.2 _ _ at_L5
        replace at_LI := le87.2 _ _ at_LI
        replace at_LT := le87.2 _ _ at_LT
        replace at_LC := le87.2 _ _ at_LC
        replace at74 := le87.2 _ _ at74
        replace at75 := le87.2 _ _ at75
        replace at15013 := le87.2 _ _ at15013
        have lt_at87 := GHeap.lt_of_get at87
        replace hin := base_hin.mono hle
        replace h := base_h.mono hle
        clear hb2 c02 c12 c22 c32 c42 i12 i22 i32 i42 hm2 hi2
        have hb2 : Cat.At _ g2 0 c p := ⟨Mem.of_get at2, hin⟩
        obtain ⟨c02, c12, c22, c32, c42, i12, i22, i32, i42⟩ := hb2.get
        have hm2 : MemN _ _ _ _ _ := ⟨rfl, hb2.1⟩
        have hi2 := hb2.2
        clear mm7008
        have mm7008 : MemN _ _ _ _ _ := ⟨rfl, Mem.of_get at7008⟩
        refine .c0 rfl rfl rfl rfl (.appendI rfl sl_22_A ze_2_E rfl by_2_E sl_22_A rfl rfl (by assumption) (by assumption) (by first | omega | (simp <;> omega)) (by omega) (by omega)) ?_
        rintro _ H88 ⟨g88, rfl, st88, ge88, at88⟩
        have nx_H88 := st88.nx
        replace hle := hle.st st88 (fun k hk => ⟨by omega, trivial⟩)
        replace lst1 := lst1.st st88 (fun k hk ho => by simp only [out, and_true] at ho ⊢ <;> omega)
        replace lst3 := lst3.st st88 (fun k hk ho => by simp only [out, and_true] at ho ⊢ <;> omega)
        replace rk := rk.st st88 (fun k hk ho => by simp only [out, and_true] at ho ⊢ <;> omega)
        replace at2 := st88.same _ _ ⟨by omega, trivial⟩ at2
        replace at4 := st88.same _ _ ⟨by omega, trivial⟩ at4
        replace at_L5 := st88.same _ _ ⟨by omega, trivial⟩ at_L5
        replace at_LI := st88.same _ _ ⟨by omega, trivial⟩ at_LI
        replace at_LC := st88.same _ _ ⟨by omega, trivial⟩ at_LC
        replace at74 := st88.same _ _ ⟨by omega, trivial⟩ at74
        replace at75 := st88.same _ _ ⟨by omega, trivial⟩ at75
        replace at15013 := st88.same _ _ ⟨by omega, trivial⟩ at15013
        replace at87 := st88.same _ _ ⟨by omega, trivial⟩ at87
        have lt_at88 := GHeap.lt_of_get at88
        replace hin := base_hin.mono hle
        replace h := base_h.mono hle
        clear hb2 c02 c12 c22 c32 c42 i12 i22 i32 i42 hm2 hi2
        have hb2 : Cat.At _ g2 0 c p := ⟨Mem.of_get at2, hin⟩
        obtain ⟨c02, c12, c22, c32, c42, i12, i22, i32, i42⟩ := hb2.get
        have hm2 : MemN _ _ _ _ _ := ⟨rfl, hb2.1⟩
        have hi2 := hb2.2
        clear mm7008
        have mm7008 : MemN _ _ _ _ _ := ⟨rfl, Mem.of_get at7008⟩
        refine .m rfl rfl rfl rfl (.refl _) (.fieldAddr fo_27_2_B rfl) ?_
        refine .r0 rfl rfl rfl (.storeR rfl sz_22_E rfl rfl rfl (by assumption) (by first | exact Nat.le_of_ble_eq_true rfl | (simp; done) | (simp <;> omega))) ?_
        rintro _ H16013 ⟨rfl, st16013, at16013⟩
        have nx_H16013 := st16013.nx
        replace hle := hle.st st16013 (fun k hk => ⟨by omega, trivial⟩)
        replace lst1 := lst1.st st16013 (fun k hk ho => by simp only [out, and_true] at ho ⊢ <;> omega)
        replace lst3 := lst3.st st16013 (fun k hk ho => by simp only [out, and_true] at ho ⊢ <;> omega)
        replace rk := rk.st st16013 (fun k hk ho => by simp only [out, and_true] at ho ⊢ <;> omega)
        replace at2 := st16013.same _ _ ⟨by omega, trivial⟩ at2
        replace at4 := st16013.same _ _ ⟨by omega, trivial⟩ at4
        replace at_L5 := st16013.same _ _ ⟨by omega, trivial⟩ at_L5
        replace at_LI := st16013.same _ _ ⟨by omega, trivial⟩ at_LI
        replace at_LC := st16013.same _ _ ⟨by omega, trivial⟩ at_LC
        replace at74 := st16013.same _ _ ⟨by omega, trivial⟩ at74
        replace at75 := st16013.same _ _ ⟨by omega, trivial⟩ at75
        replace at87 := st16013.same _ _ ⟨by omega, trivial⟩ at87
        replace at88 := st16013.same _ _ ⟨by omega, trivial⟩ at88
        have lt_at16013 := GHeap.lt_of_get at16013
        replace hin := base_hin.mono hle
        replace h := base_h.mono hle
        clear hb2 c02 c12 c22 c32 c42 i12 i22 i32 i42 hm2 hi2
        have hb2 : Cat.At _ g2 0 c p := ⟨Mem.of_get at2, hin⟩
        obtain ⟨c02, c12, c22, c32, c42, i12, i22, i32, i42⟩ := hb2.get
        have hm2 : MemN _ _ _ _ _ := ⟨rfl, hb2.1⟩
        have hi2 := hb2.2
        clear mm7008
        have mm7008 : MemN _ _ _ _ _ := ⟨rfl, Mem.of_get at7008⟩
        try simp only [Nat.zero_add, List.set_cons_succ, List.set_cons_zero] at at16013
        refine .done ?_
        refine hK21 _ _ ?_
        refine .seq (fun K22 hK22 => ?_)
        refine .region ?_
        refine .r rfl rfl rfl (.litR rfl sl_22_A ze_2_E rfl rfl (by omega) (by omega) rfl rfl) ?_
        rintro _ H90 ⟨g90, rfl, le90, ge90, at90⟩
        have nx_H90 := le90.1
        replace hle := hle.trans le90
        replace lst1 := lst1.le le90
        replace lst3 := lst3.le le90
        replace rk := rk.le le90
        replace at2 := le90.2 _ _ at2
        replace at4 := le90.2 _ _ at4
        replace at_L5 := le90.2 _ _ at_L5
        replace at_LI := le90.2 _ _ at_LI
        replace at_LC := le90.2 _ _ at_LC
        replace at74 := le90.2 _ _ at74
        replace at75 := le90.2 _ _ at75
        replace at87 := le90.2 _ _ at87
        replace at88 := le90.2 _ _ at88
        replace at16013 := le90.2 _ _ at16013
        have lt_at90 := GHeap.lt_of_get at90
        replace hin := base_hin.mono hle
        replace h := base_h.mono hle
        clear hb2 c02 c12 c22 c32 c42 i12 i22 i32 i42 hm2 hi2
        have hb2 : Cat.At _ g2 0 c p := ⟨Mem.of_get at2, hin⟩
        obtain ⟨c02, c12, c22, c32, c42, i12, i22, i32, i42⟩ := hb2.get
        have hm2 : MemN _ _ _ _ _ := ⟨rfl, hb2.1⟩
        have hi2 := hb2.2
        clear mm7008
        have mm7008 : MemN _ _ _ _ _ := ⟨rfl, Mem.of_get at7008⟩
        replace at90 : GHeap.get H90 g90 = some (.row (ints []) 2 true) := at90
        refine .m rfl rfl rfl (.assign rfl) ?_
        refine .nil ?_
        refine hK22 _ _ ?_
        refine .seq (fun K23 hK23 => ?_)
        refine .seq (fun K24 hK24 => ?_)
        refine .region ?_
        refine .m rfl rfl rfl (.assign rfl) ?_
        refine .nil ?_
        refine hK24 _ _ ?_
        refine .block ?_
        refine .loopR (σ := Nat × Nat × Nat) [(1, some _), (2, some _), (4, some _), (5, some _), (7, some _), (9, some _)] (fun (j, gL10, nL10) => [(11, some (.int .i64 (j : Int))), (10, some (.slice (some ⟨gL10, 0, none⟩) nL10 nL10))]) (fun (j, gL10, nL10) H' => St [g90] H90 H' ∧ H'.get gL10 = some (.row (ints (((repL xs xs.length).take j).map fun j => c.quoX xs ((repL xs xs.length).getD i 0) j)) 2 true) ∧ (gL10 = g90 ∨ H90.next ≤ gL10) ∧ nL10 = (((repL xs xs.length).take j).map fun j => c.quoX xs ((repL xs xs.length).getD i 0) j).length ∧ j ≤ (repL xs xs.length).length) (fun (j, gL10, nL10) => (repL xs xs.length).length - j) ((0, _, _)) ⟨rfl, rfl, rfl, rfl, rfl, rfl, trivial⟩ ⟨rfl, rfl, trivial⟩ ?_ ?_
        ·
         refine ⟨.refl _ _, by first | assumption | exact at90 | simpa using at90, .inl rfl, by first | rfl | assumption | simp | omega, ?_⟩
         omega
        ·
         rintro ⟨j, gL10, nL10⟩ HL4 ⟨lst4, at_L10, pl_L10, ln_L10, hI⟩ KL4 hKL4
         refine .forget (fr' := [(11, some (.int .i64 (j : Int))), (10, some (.slice (some ⟨gL10, 0, none⟩) nL10 nL10)), (1, some _), (2, some _), (4, some _), (5, some _), (7, some _), (9, some _)]) ⟨rfl, rfl, rfl, rfl, rfl, rfl, rfl, rfl, trivial⟩ ?_
         have ge_L10 : H.next ≤ gL10 := by omega
         have nx_HL4 := lst4.nx
         replace hle := hle.st lst4 (fun k hk => ⟨by omega, trivial⟩)
         replace lst1 := lst1.st lst4 (fun k hk ho => by simp only [out, and_true] at ho ⊢ <;> omega)
         replace lst3 := lst3.st lst4 (fun k hk ho => by simp only [out, and_true] at ho ⊢ <;> omega)
         replace rk := rk.st lst4 (fun k hk ho => by simp only [out, and_true] at ho ⊢ <;> omega)
         replace at2 := lst4.same _ _ ⟨by omega, trivial⟩ at2
         replace at4 := lst4.same _ _ ⟨by omega, trivial⟩ at4
         replace at_L5 := lst4.same _ _ ⟨by omega, trivial⟩ at_L5
         replace at_LI := lst4.same _ _ ⟨by omega, trivial⟩ at_LI
         replace at_LC := lst4.same _ _ ⟨by omega, trivial⟩ at_LC
         replace at74 := lst4.same _ _ ⟨by omega, trivial⟩ at74
         replace at75 := lst4.same _ _ ⟨by omega, trivial⟩ at75
         replace at87 := lst4.same _ _ ⟨by omega, trivial⟩ at87
         replace at88 := lst4.same _ _ ⟨by omega, trivial⟩ at88
         replace at16013 := lst4.same _ _ ⟨by omega, trivial⟩ at16013
         have lt_at_L10 := GHeap.lt_of_get at_L10
         replace hin := base_hin.mono hle
         replace h := base_h.mono hle
         clear hb2 c02 c12 c22 c32 c42 i12 i22 i32 i42 hm2 hi2
         have hb2 : Cat.At _ g2 0 c p := ⟨Mem.of_get at2, hin⟩
         obtain ⟨c02, c12, c22, c32, c42, i12, i22, i32, i42⟩ := hb2.get
         have hm2 : MemN _ _ _ _ _ := ⟨rfl, hb2.1⟩
         have hi2 := hb2.2
         clear mm7008
         have mm7008 : MemN _ _ _ _ _ := ⟨rfl, Mem.of_get at7008⟩
         have b9 : (((repL xs xs.length).take j).map fun j => c.quoX xs ((repL xs xs.length).getD i 0) j).length = j := by simp; omega
         refine .seq (fun K25 hK25 => ?_)
         refine .seq (fun K26 hK26 => ?_)
         refine .region ?_
         refine .m rfl rfl rfl (.move rfl) ?_
         refine .m rfl rfl rfl (.move rfl) ?_
         refine .m rfl rfl rfl (.len sl_22_A rfl) ?_
         refine .m rfl rfl rfl (.cmp rfl rfl rfl) ?_
         refine .nil ?_
         refine hK26 _ _ ?_
         refine .cond rfl (fun h94 => ?_) (fun h94 => ?_)
         ·
          simp only [sps, length_repI] at h94
          have p1 := repI_get (xs := xs) (n := xs.length) (i := j) (by omega)
          have p2 := repL_lt (xs := xs) (n := xs.length) (i := j) (by omega)
          have p3 := hS.th_lt (f := (repL xs xs.length).getD i 0) (g := (repL xs xs.length).getD j 0) (by omega) (by omega)
          rw [← q1, ← p1] at p3
          unfold Cat.th at p3
          have u1 := i42.2 ((repI xs xs.length).getD i 0).toNat (by omega)
          refine .skip ?_
          refine hK25 _ _ ?_
          refine .seq (fun K27 hK27 => ?_)
          refine .block ?_
          refine .seq (fun K28 hK28 => ?_)
          refine .regionD mixed_orders_B (.q 0 (.q 1 (.q 2 (.q 3 (.q 4 (.q 5 (.q 6 (.q 7 (.q 8 (.q 9 (.q 10 (.q 11 (.q 12 (.q 13 (.q 14 (.done)))))))))))))))) (by kernel_rfl) ?_
          refine .m rfl rfl rfl rfl (.refl _) (.fieldAddr fo_27_4_B rfl) ?_
          refine .m rfl rfl rfl rfl (.refl _) (.load on_23_B rfl (by first | assumption | exact Mem.of_get at2 4 _ rfl)) ?_
          refine .m rfl rfl rfl rfl (.refl _) (.move rfl) ?_
          refine .m rfl rfl rfl rfl (.refl _) (.move rfl) ?_
          refine .m rfl rfl rfl rfl (.refl _) (.idxN sl_22_A (by first | assumption | exact SlA.of_row at_L5 (by first | rfl | (simp; done) | (simp <;> omega))) rfl rfl (by omega)) ?_
          refine .m rfl rfl rfl rfl (.refl _) (.loadI on_2_A (by first | assumption | exact Ints.of_get at_L5) rfl (by omega)) ?_
          refine .m rfl rfl rfl rfl (.refl _) (.idx1 sl_23_B (Intss.sl (by assumption)) rfl rfl (by omega) (by omega)) ?_
          refine .m rfl rfl rfl rfl (.refl _) (.loadR on_22_B (by assumption) rfl (by omega)) ?_
          refine .m rfl rfl rfl rfl (.refl _) (.move rfl) ?_
          refine .m rfl rfl rfl rfl (.refl _) (.move rfl) ?_
          refine .m rfl rfl rfl rfl (.refl _) (.idxN sl_22_A (by first | assumption | exact SlA.of_row at_L5 (by first | rfl | (simp; done) | (simp <;> omega))) rfl rfl (by omega)) ?_
          refine .m rfl rfl rfl rfl (.refl _) (.loadI on_2_A (by first | assumption | exact Ints.of_get at_L5) rfl (by omega)) ?_
          refine .m rfl rfl rfl rfl (.refl _) (.idx1 sl_22_A (by assumption) rfl rfl (by omega) (by omega)) ?_
          refine .m rfl rfl rfl rfl (.refl _) (.loadI on_2_A (by assumption) rfl (by omega)) ?_
          refine .m rfl rfl rfl rfl (.refl _) (.assign rfl) ?_
          refine .done ?_
          refine hK28 _ _ ?_
          refine .seq (fun K29 hK29 => ?_)
          refine .seq (fun K30 hK30 => ?_)
          refine .region ?_
          refine .m rfl rfl rfl (.move rfl) ?_
          refine .m rfl rfl rfl (.cmp rfl rfl rfl) ?_
          refine .nil ?_
          refine hK30 _ _ ?_
          refine .cond rfl (fun h112 => ?_) (fun h112 => ?_)
          ·
           simp only [sps] at h112
           have hX : xs.getD ((c.comp.getD ((repI xs xs.length).getD i 0).toNat []).getD ((repI xs xs.length).getD j 0).toNat 0).toNat 0 = c.quoX xs ((repL xs xs.length).getD i 0) ((repL xs xs.length).getD j 0) := by
             unfold Cat.quoX
             rw [q1, p1, Int.toNat_natCast, Int.toNat_natCast] at h112 ⊢
             rw [if_pos h112]
           refine .region ?_
           refine .m rfl rfl rfl (.move rfl) ?_
           refine .m rfl rfl rfl (.move rfl) ?_
           refine .m rfl rfl rfl (.idx1 sl_22_A (by assumption) rfl rfl (by omega) (by omega)) ?_
           refine .m rfl rfl rfl (.loadI on_2_A (by assumption) rfl (by omega)) ?_
           refine .m rfl rfl rfl (.assign rfl) ?_
           refine .nil ?_
           refine hK29 _ _ ?_
           refine .region ?_
           refine .m rfl rfl rfl (.move rfl) ?_
           refine .m rfl rfl rfl (.move rfl) ?_
           refine .r rfl rfl rfl (.litR rfl sl_22_A ze_2_E rfl rfl (by omega) (by omega) rfl rfl) ?_
           rintro _ H119 ⟨g119, rfl, le119, ge119, at119⟩
           have nx_H119 := le119.1
           replace hle := hle.trans le119
           replace lst1 := lst1.le le119
           replace lst3 := lst3.le le119
           replace rk := rk.le le119
           replace lst4 := lst4.le le119
           replace at2 := le119.2 _ _ at2
           replace at4 := le119.2 _ _ at4
           replace at_L5 := le119.2 _ _ at_L5
           replace at_LI := le119.2 _ _ at_LI
           replace at_LC := le119.2 _ _ at_LC
           replace at74 := le119.2 _ _ at74
           replace at75 := le119.2 _ _ at75
           replace at87 := le119.2 _ _ at87
           replace at88 := le119.2 _ _ at88
           replace at16013 := le119.2 _ _ at16013
           replace at_L10 := le119.2 _ _ at_L10
           have lt_at119 := GHeap.lt_of_get at119
           replace hin := base_hin.mono hle
           replace h := base_h.mono hle
           clear hb2 c02 c12 c22 c32 c42 i12 i22 i32 i42 hm2 hi2
           have hb2 : Cat.At _ g2 0 c p := ⟨Mem.of_get at2, hin⟩
           obtain ⟨c02, c12, c22, c32, c42, i12, i22, i32, i42⟩ := hb2.get
           have hm2 : MemN _ _ _ _ _ := ⟨rfl, hb2.1⟩
           have hi2 := hb2.2
           clear mm7008
           have mm7008 : MemN _ _ _ _ _ := ⟨rfl, Mem.of_get at7008⟩
           clear u1
           have u1 := i42.2 ((repI xs xs.length).getD i 0).toNat (by omega)
           refine .r rfl rfl rfl (.appendI rfl sl_22_A ze_2_E rfl by_2_E sl_22_A rfl rfl (by assumption) (by assumption) (by first | omega | (simp <;> omega)) (by omega) (by omega)) ?_
           rintro _ H120 ⟨g120, rfl, st120, ge120, at120⟩
           have nx_H120 := st120.nx
           replace hle := hle.st st120 (fun k hk => ⟨by omega, trivial⟩)
           replace lst1 := lst1.st st120 (fun k hk ho => by simp only [out, and_true] at ho ⊢ <;> omega)
           replace lst3 := lst3.st st120 (fun k hk ho => by simp only [out, and_true] at ho ⊢ <;> omega)
           replace rk := rk.st st120 (fun k hk ho => by simp only [out, and_true] at ho ⊢ <;> omega)
           replace lst4 := lst4.st st120 (fun k hk ho => by simp only [out, and_true] at ho ⊢ <;> omega)
           replace at2 := st120.same _ _ ⟨by omega, trivial⟩ at2
           replace at4 := st120.same _ _ ⟨by omega, trivial⟩ at4
           replace at_L5 := st120.same _ _ ⟨by omega, trivial⟩ at_L5
           replace at_LI := st120.same _ _ ⟨by omega, trivial⟩ at_LI
           replace at_LC := st120.same _ _ ⟨by omega, trivial⟩ at_LC
           replace at74 := st120.same _ _ ⟨by omega, trivial⟩ at74
           replace at75 := st120.same _ _ ⟨by omega, trivial⟩ at75
           replace at87 := st120.same _ _ ⟨by omega, trivial⟩ at87
           replace at88 := st120.same _ _ ⟨by omega, trivial⟩ at88
           replace at16013 := st120.same _ _ ⟨by omega, trivial⟩ at16013
           replace at119 := st120.same _ _ ⟨by omega, trivial⟩ at119
           have lt_at120 := GHeap.lt_of_get at120
           replace hin := base_hin.mono hle
           replace h := base_h.mono hle
           clear hb2 c02 c12 c22 c32 c42 i12 i22 i32 i42 hm2 hi2
           have hb2 : Cat.At _ g2 0 c p := ⟨Mem.of_get at2, hin⟩
           obtain ⟨c02, c12, c22, c32, c42, i12, i22, i32, i42⟩ := hb2.get
           have hm2 : MemN _ _ _ _ _ := ⟨rfl, hb2.1⟩
           have hi2 := hb2.2
           clear mm7008
           have mm7008 : MemN _ _ _ _ _ := ⟨rfl, Mem.of_get at7008⟩
           clear u1
           have u1 := i42.2 ((repI xs xs.length).getD i 0).toNat (by omega)
           refine .m rfl rfl rfl (.assign rfl) ?_
           refine .nil ?_
           refine hK27 _ _ ?_
           refine .region ?_
           refine .m rfl rfl rfl (.move rfl) ?_
           refine .m rfl rfl rfl (.add rfl rfl rfl (by omega) (by omega)) ?_
           refine .m rfl rfl rfl (.assign rfl) ?_
           refine .nil ?_
           refine hKL4 ((j + 1, _, _)) _ _ ?_ ?_ ⟨rfl, rfl, rfl, rfl, rfl, rfl, rfl, rfl, trivial⟩
           ·
            refine ⟨lst4, by first | assumption | (rw [take_map_snoc (d := 0) (by omega), ← hX]; assumption), by omega, by first | omega | (simp only [List.length_append, List.length_cons, List.length_nil] <;> omega) | (rw [take_map_snoc (d := 0) (by omega), ← hX] <;> (first | omega | (simp only [List.length_append, List.length_cons, List.length_nil] <;> omega))), ?_⟩
            omega
           ·
            (dsimp only; omega)
          ·
           simp only [sps] at h112
           have hX : (c.comp.getD ((repI xs xs.length).getD i 0).toNat []).getD ((repI xs xs.length).getD j 0).toNat 0 = c.quoX xs ((repL xs xs.length).getD i 0) ((repL xs xs.length).getD j 0) := by
             unfold Cat.quoX
             rw [q1, p1, Int.toNat_natCast, Int.toNat_natCast] at h112 ⊢
             rw [if_neg (by omega)]
           refine .skip ?_
           refine hK29 _ _ ?_
           refine .region ?_
           refine .m rfl rfl rfl (.move rfl) ?_
           refine .m rfl rfl rfl (.move rfl) ?_
           refine .r rfl rfl rfl (.litR rfl sl_22_A ze_2_E rfl rfl (by omega) (by omega) rfl rfl) ?_
           rintro _ H119x2 ⟨g119x2, rfl, le119x2, ge119x2, at119x2⟩
           have nx_H119x2 := le119x2.1
           replace hle := hle.trans le119x2
           replace lst1 := lst1.le le119x2
           replace lst3 := lst3.le le119x2
           replace rk := rk.le le119x2
           replace lst4 := lst4.le le119x2
           replace at2 := le119x2.2 _ _ at2
           replace at4 := le119x2.2 _ _ at4
           replace at_L5 := le119x2.2 _ _ at_L5
           replace at_LI := le119x2.2 _ _ at_LI
           replace at_LC := le119x2.2 _ _ at_LC
           replace at74 := le119x2.2 _ _ at74
           replace at75 := le119x2.2 _ _ at75
           replace at87 := le119x2.2 _ _ at87
           replace at88 := le119x2.2 _ _ at88
           replace at16013 := le119x2.2 _ _ at16013
           replace at_L10 := le119x2.2 _ _ at_L10
           have lt_at119x2 := GHeap.lt_of_get at119x2
           replace hin := base_hin.mono hle
           replace h := base_h.mono hle
           clear hb2 c02 c12 c22 c32 c42 i12 i22 i32 i42 hm2 hi2
           have hb2 : Cat.At _ g2 0 c p := ⟨Mem.of_get at2, hin⟩
           obtain ⟨c02, c12, c22, c32, c42, i12, i22, i32, i42⟩ := hb2.get
           have hm2 : MemN _ _ _ _ _ := ⟨rfl, hb2.1⟩
           have hi2 := hb2.2
           clear mm7008
           have mm7008 : MemN _ _ _ _ _ := ⟨rfl, Mem.of_get at7008⟩
           clear u1
           have u1 := i42.2 ((repI xs xs.length).getD i 0).toNat (by omega)
           refine .r rfl rfl rfl (.appendI rfl sl_22_A ze_2_E rfl by_2_E sl_22_A rfl rfl (by assumption) (by assumption) (by first | omega | (simp <;> omega)) (by omega) (by omega)) ?_
           rintro _ H120x2 ⟨g120x2, rfl, st120x2, ge120x2, at120x2⟩
           have nx_H120x2 := st120x2.nx
           replace hle := hle.st st120x2 (fun k hk => ⟨by omega, trivial⟩)
           replace lst1 := lst1.st st120x2 (fun k hk ho => by simp only [out, and_true] at ho ⊢ <;> omega)
           replace lst3 := lst3.st st120x2 (fun k hk ho => by simp only [out, and_true] at ho ⊢ <;> omega)
           replace rk := rk.st st120x2 (fun k hk ho => by simp only [out, and_true] at ho ⊢ <;> omega)
           replace lst4 := lst4.st st120x2 (fun k hk ho => by simp only [out, and_true] at ho ⊢ <;> omega)
           replace at2 := st120x2.same _ _ ⟨by omega, trivial⟩ at2
           replace at4 := st120x2.same _ _ ⟨by omega, trivial⟩ at4
           replace at_L5 := st120x2.same _ _ ⟨by omega, trivial⟩ at_L5
           replace at_LI := st120x2.same _ _ ⟨by omega, trivial⟩ at_LI
           replace at_LC := st120x2.same _ _ ⟨by omega, trivial⟩ at_LC
           replace at74 := st120x2.same _ _ ⟨by omega, trivial⟩ at74
           replace at75 := st120x2.same _ _ ⟨by omega, trivial⟩ at75
           replace at87 := st120x2.same _ _ ⟨by omega, trivial⟩ at87
           replace at88 := st120x2.same _ _ ⟨by omega, trivial⟩ at88
           replace at16013 := st120x2.same _ _ ⟨by omega, trivial⟩ at16013
           replace at119x2 := st120x2.same _ _ ⟨by omega, trivial⟩ at119x2
           have lt_at120x2 := GHeap.lt_of_get at120x2
           replace hin := base_hin.mono hle
           replace h := base_h.mono hle
           clear hb2 c02 c12 c22 c32 c42 i12 i22 i32 i42 hm2 hi2
           have hb2 : Cat.At _ g2 0 c p := ⟨Mem.of_get at2, hin⟩
           obtain ⟨c02, c12, c22, c32, c42, i12, i22, i32, i42⟩ := hb2.get
           have hm2 : MemN _ _ _ _ _ := ⟨rfl, hb2.1⟩
           have hi2 := hb2.2
           clear mm7008
           have mm7008 : MemN _ _ _ _ _ := ⟨rfl, Mem.of_get at7008⟩
           clear u1
           have u1 := i42.2 ((repI xs xs.length).getD i 0).toNat (by omega)
           refine .m rfl rfl rfl (.assign rfl) ?_
           refine .nil ?_
           refine hK27 _ _ ?_
           refine .region ?_
           refine .m rfl rfl rfl (.move rfl) ?_
           refine .m rfl rfl rfl (.add rfl rfl rfl (by omega) (by omega)) ?_
           refine .m rfl rfl rfl (.assign rfl) ?_
           refine .nil ?_
           refine hKL4 ((j + 1, _, _)) _ _ ?_ ?_ ⟨rfl, rfl, rfl, rfl, rfl, rfl, rfl, rfl, trivial⟩
           ·
            refine ⟨lst4, by first | assumption | (rw [take_map_snoc (d := 0) (by omega), ← hX]; assumption), by omega, by first | omega | (simp only [List.length_append, List.length_cons, List.length_nil] <;> omega) | (rw [take_map_snoc (d := 0) (by omega), ← hX] <;> (first | omega | (simp only [List.length_append, List.length_cons, List.length_nil] <;> omega))), ?_⟩
            omega
           ·
            (dsimp only; omega)
         ·
          try simp only [sps] at h94
          refine .exit ?_
          refine hK23 _ _ ?_
          refine .region ?_
          obtain rfl : j = (repL xs xs.length).length := by omega
          have hrl : (c.quoRow xs ((repL xs xs.length).getD i 0)).length = nL10 := by rw [ln_L10]; simp [Cat.quoRow]
          refine .m rfl rfl rfl (.fieldAddr fo_27_4_B rfl) ?_
          refine .m rfl rfl rfl (.load on_23_B rfl (by first | assumption | exact Mem.of_get at16013 4 _ rfl)) ?_
          refine .m rfl rfl rfl (.move rfl) ?_
          refine .r rfl rfl rfl (.litR rfl sl_23_B ze_22_E rfl rfl (by omega) (by omega) rfl rfl) ?_
          rintro _ H124 ⟨g124, rfl, le124, ge124, at124⟩
          have nx_H124 := le124.1
          replace hle := hle.trans le124
          replace lst1 := lst1.le le124
          replace lst3 := lst3.le le124
          replace rk := rk.le le124
          replace at2 := le124.2 _ _ at2
          replace at4 := le124.2 _ _ at4
          replace at_L5 := le124.2 _ _ at_L5
          replace at_LI := le124.2 _ _ at_LI
          replace at_LC := le124.2 _ _ at_LC
          replace at74 := le124.2 _ _ at74
          replace at75 := le124.2 _ _ at75
          replace at87 := le124.2 _ _ at87
          replace at88 := le124.2 _ _ at88
          replace at16013 := le124.2 _ _ at16013
          replace at_L10 := le124.2 _ _ at_L10
          have lt_at124 := GHeap.lt_of_get at124
          replace hin := base_hin.mono hle
          replace h := base_h.mono hle
          clear hb2 c02 c12 c22 c32 c42 i12 i22 i32 i42 hm2 hi2
          have hb2 : Cat.At _ g2 0 c p := ⟨Mem.of_get at2, hin⟩
          obtain ⟨c02, c12, c22, c32, c42, i12, i22, i32, i42⟩ := hb2.get
          have hm2 : MemN _ _ _ _ _ := ⟨rfl, hb2.1⟩
          have hi2 := hb2.2
          clear mm7008
          have mm7008 : MemN _ _ _ _ _ := ⟨rfl, Mem.of_get at7008⟩
          refine .r rfl rfl rfl (.appendV rfl sl_23_B ze_22_E rfl by_22_E sl_23_B rfl rfl (by assumption) (by assumption) (by first | omega | (simp <;> omega)) rfl rfl (by omega) (by omega)) ?_
          rintro _ H125 ⟨g125, rfl, st125, ge125, at125⟩
          have nx_H125 := st125.nx
          replace hle := hle.st st125 (fun k hk => ⟨by omega, trivial⟩)
          replace lst1 := lst1.st st125 (fun k hk ho => by simp only [out, and_true] at ho ⊢ <;> omega)
          replace lst3 := lst3.st st125 (fun k hk ho => by simp only [out, and_true] at ho ⊢ <;> omega)
          replace rk := rk.st st125 (fun k hk ho => by simp only [out, and_true] at ho ⊢ <;> omega)
          replace at2 := st125.same _ _ ⟨by omega, trivial⟩ at2
          replace at4 := st125.same _ _ ⟨by omega, trivial⟩ at4
          replace at_L5 := st125.same _ _ ⟨by omega, trivial⟩ at_L5
          replace at_LI := st125.same _ _ ⟨by omega, trivial⟩ at_LI
          replace at74 := st125.same _ _ ⟨by omega, trivial⟩ at74
          replace at75 := st125.same _ _ ⟨by omega, trivial⟩ at75
          replace at87 := st125.same _ _ ⟨by omega, trivial⟩ at87
          replace at88 := st125.same _ _ ⟨by omega, trivial⟩ at88
          replace at16013 := st125.same _ _ ⟨by omega, trivial⟩ at16013
          replace at_L10 := st125.same _ _ ⟨by omega, trivial⟩ at_L10
          replace at124 := st125.same _ _ ⟨by omega, trivial⟩ at124
          have lt_at125 := GHeap.lt_of_get at125
          replace hin := base_hin.mono hle
          replace h := base_h.mono hle
          clear hb2 c02 c12 c22 c32 c42 i12 i22 i32 i42 hm2 hi2
          have hb2 : Cat.At _ g2 0 c p := ⟨Mem.of_get at2, hin⟩
          obtain ⟨c02, c12, c22, c32, c42, i12, i22, i32, i42⟩ := hb2.get
          have hm2 : MemN _ _ _ _ _ := ⟨rfl, hb2.1⟩
          have hi2 := hb2.2
          clear mm7008
          have mm7008 : MemN _ _ _ _ _ := ⟨rfl, Mem.of_get at7008⟩
          refine .m rfl rfl rfl (.fieldAddr fo_27_4_B rfl) ?_
          refine .r0 rfl rfl (.storeR rfl sz_23_E rfl rfl rfl (by assumption) (by first | exact Nat.le_of_ble_eq_true rfl | (simp; done) | (simp <;> omega))) ?_
          rintro _ H25006 ⟨rfl, st25006, at25006⟩
          have nx_H25006 := st25006.nx
          replace hle := hle.st st25006 (fun k hk => ⟨by omega, trivial⟩)
          replace lst1 := lst1.st st25006 (fun k hk ho => by simp only [out, and_true] at ho ⊢ <;> omega)
          replace lst3 := lst3.st st25006 (fun k hk ho => by simp only [out, and_true] at ho ⊢ <;> omega)
          replace rk := rk.st st25006 (fun k hk ho => by simp only [out, and_true] at ho ⊢ <;> omega)
          replace at2 := st25006.same _ _ ⟨by omega, trivial⟩ at2
          replace at4 := st25006.same _ _ ⟨by omega, trivial⟩ at4
          replace at_L5 := st25006.same _ _ ⟨by omega, trivial⟩ at_L5
          replace at_LI := st25006.same _ _ ⟨by omega, trivial⟩ at_LI
          replace at74 := st25006.same _ _ ⟨by omega, trivial⟩ at74
          replace at75 := st25006.same _ _ ⟨by omega, trivial⟩ at75
          replace at87 := st25006.same _ _ ⟨by omega, trivial⟩ at87
          replace at88 := st25006.same _ _ ⟨by omega, trivial⟩ at88
          replace at_L10 := st25006.same _ _ ⟨by omega, trivial⟩ at_L10
          replace at124 := st25006.same _ _ ⟨by omega, trivial⟩ at124
          replace at125 := st25006.same _ _ ⟨by omega, trivial⟩ at125
          have lt_at25006 := GHeap.lt_of_get at25006
          replace hin := base_hin.mono hle
          replace h := base_h.mono hle
          clear hb2 c02 c12 c22 c32 c42 i12 i22 i32 i42 hm2 hi2
          have hb2 : Cat.At _ g2 0 c p := ⟨Mem.of_get at2, hin⟩
          obtain ⟨c02, c12, c22, c32, c42, i12, i22, i32, i42⟩ := hb2.get
          have hm2 : MemN _ _ _ _ _ := ⟨rfl, hb2.1⟩
          have hi2 := hb2.2
          clear mm7008
          have mm7008 : MemN _ _ _ _ _ := ⟨rfl, Mem.of_get at7008⟩
          try simp only [Nat.zero_add, List.set_cons_succ, List.set_cons_zero] at at25006
          refine .nil ?_
          refine hK19 _ _ ?_
          refine .region ?_
          refine .m rfl rfl rfl (.move rfl) ?_
          refine .m rfl rfl rfl (.add rfl rfl rfl (by omega) (by omega)) ?_
          refine .m rfl rfl rfl (.assign rfl) ?_
          refine .nil ?_
          refine hKL3 ((i + 1, upd rr (c.quoL xs i).length (some ⟨gL10, 0, none⟩), g75, g88, g125)) _ _ ?_ ?_ ⟨rfl, rfl, rfl, rfl, rfl, rfl, trivial⟩
          ·
           refine ⟨lst3, by first | assumption | (rw [take_map_snoc (d := 0) (by omega)]; simpa only [q1, Int.toNat_natCast] using at75) | (rw [take_map_snoc (d := 0) (by omega)]; simpa only [q1, Int.toNat_natCast] using at88) | (rw [Cat.quoL_succ (by omega), slsL_snoc, hrl]; assumption), by omega, by first | assumption | (rw [take_map_snoc (d := 0) (by omega)]; simpa only [q1, Int.toNat_natCast] using at75) | (rw [take_map_snoc (d := 0) (by omega)]; simpa only [q1, Int.toNat_natCast] using at88) | (rw [Cat.quoL_succ (by omega), slsL_snoc, hrl]; assumption), by omega, by first | assumption | (rw [take_map_snoc (d := 0) (by omega)]; simpa only [q1, Int.toNat_natCast] using at75) | (rw [take_map_snoc (d := 0) (by omega)]; simpa only [q1, Int.toNat_natCast] using at88) | (rw [Cat.quoL_succ (by omega), slsL_snoc, hrl]; assumption), by omega, by first | assumption | (rw [take_map_snoc (d := 0) (by omega)]; simpa only [q1, Int.toNat_natCast] using at75) | (rw [take_map_snoc (d := 0) (by omega)]; simpa only [q1, Int.toNat_natCast] using at88) | (rw [Cat.quoL_succ (by omega), slsL_snoc, hrl]; assumption), by omega, by omega, by omega, by omega, by omega, by omega, ?_⟩
           have hR' := hR.st rk (.cons hF (.cons hT (.cons (hR.neT hatC rfl) (.cons (hR.neT hat7 rfl) (.nil _ _)))))
           have hn1 := hR.ne (g := gL10) (by omega)
           have hn2 := hR.ne (g := g75) (by omega)
           have hn3 := hR.ne (g := g88) (by omega)
           have hrow := at_L10
           rw [List.take_length] at hrow
           rw [Cat.quoL_succ (by omega)]
           exact ⟨by omega, hR'.snoc2 hrow hn1 (by omega), ne_snoc hn2 (by omega), ne_snoc hn3 (by omega), ne_snoc hId (by omega)⟩
          ·
           (dsimp only; omega)
       ·
        try simp only [sps] at h61
        refine .exit ?_
        refine hK15 _ _ ?_
        refine .seq (fun K31 hK31 => ?_)
        refine .region ?_
        refine .m rfl rfl rfl (.loadM ag_27_D rfl ⟨rfl, Mem.of_get at_Lg7⟩) ?_
        have hat4 := at4
        refine .r0 rfl rfl (.fillR rfl sz_27_D rfl rfl rfl rfl (by assumption) (by first | rfl | exact Nat.le_of_ble_eq_true rfl | simp)) ?_
        rintro _ H26001 ⟨rfl, st26001, at26001⟩
        have nx_H26001 := st26001.nx
        replace hle := hle.st st26001 (fun k hk => ⟨by omega, trivial⟩)
        replace at2 := st26001.same _ _ ⟨by omega, trivial⟩ at2
        replace at_L5 := st26001.same _ _ ⟨by omega, trivial⟩ at_L5
        replace at_LI := st26001.same _ _ ⟨by omega, trivial⟩ at_LI
        replace at_LF := st26001.same _ _ ⟨by omega, trivial⟩ at_LF
        replace at_LT := st26001.same _ _ ⟨by omega, trivial⟩ at_LT
        replace at_LC := st26001.same _ _ ⟨by omega, trivial⟩ at_LC
        replace at_Lg7 := st26001.same _ _ ⟨by omega, trivial⟩ at_Lg7
        have lt_at26001 := GHeap.lt_of_get at26001
        replace hin := base_hin.mono hle
        replace h := base_h.mono hle
        clear hb2 c02 c12 c22 c32 c42 i12 i22 i32 i42 hm2 hi2
        have hb2 : Cat.At _ g2 0 c p := ⟨Mem.of_get at2, hin⟩
        obtain ⟨c02, c12, c22, c32, c42, i12, i22, i32, i42⟩ := hb2.get
        have hm2 : MemN _ _ _ _ _ := ⟨rfl, hb2.1⟩
        have hi2 := hb2.2
        clear mm7008
        have mm7008 : MemN _ _ _ _ _ := ⟨rfl, Mem.of_get at7008⟩
        have mm26001 : MemN _ _ _ _ _ := ⟨rfl, Mem.of_get at26001⟩
        refine .nil ?_
        refine hK31 _ _ ?_
        refine .ret ?_
        -- leaf e1
        refine hret _ _ ?_
        refine ⟨_, _, _, _, rfl, ag_27_D, (by rfl), (Mem.of_get at26001), ?_⟩
        obtain rfl : i = (repL xs xs.length).length := by omega
        have hx : x = c.idn.length := by omega
        subst hx
        rw [List.take_length] at at_LF at_LT at_LI
        rw [Cat.quoL_all] at at_LC hR hF hT hId
        refine ⟨hle, ⟨some ⟨gLF, 0, none⟩, some ⟨gLT, 0, none⟩, some ⟨gLI, 0, none⟩, some ⟨gLC, 0, none⟩, rr⟩, by simp [Cat.cells, Cat.quo], ?_⟩
        exact .mk (.of_at at_LF (by omega)) (.of_at at_LT (by omega)) (.of_at at_LI (by omega)) ((hR.st st26001 (.cons (hR.neT hat4 rfl) (.nil _ _))).done at_LC (by omega)) (.inr rfl) (.inr rfl) (.inr rfl) (by omega) (by omega) (by omega) (fun i hi => ⟨hF i hi, hT i hi, hId i hi⟩)
end Go.Proofs.Ytfejmmaeigbfkaa
