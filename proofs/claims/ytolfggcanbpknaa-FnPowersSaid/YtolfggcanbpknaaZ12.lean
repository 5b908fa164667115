/- The law of powers. No condition but those of each statement. -/
import Derived.Test.YtolfggcanbpknaaZ11
namespace Go.Proofs.Ytolfggcanbpknaa
open Go Go.GL Go.RowKit Go.Proofs
theorem bo_4_LFnPowers : isBoolT Try.prog 4 = true := by kernel_rfl
set_option maxHeartbeats 40000000 in
theorem lawFnPowers_c {a : Option Addr} {xs : List Int} {H : GHeap} (hb : Bytes H a xs) (hl : xs.length ≤ 9223372036854775807) (hlt : ∀ b o t, a = some ⟨b, o, t⟩ → b < H.next) :
    GCalls Try.prog 3 [.slice a xs.length xs.length] H (fun v _ => v = .bool true) := by
  refine GCalls.body (N := 123) (rs := [.tmp 2]) Try.func3 rfl rfl rfl rfl (fun Qx hret hend => ?_)
  refine .fg [0] rfl ?_
  have base_hb := hb
  refine .seq (fun K1 hK1 => .region (.mv rfl (.nil (hK1 _ _ (.seq (fun K2 hK2 => .seq (fun K3 hK3 => .region (.mv rfl ?_))))))))
  refine .callQ rfl rfl rfl rfl @Try.call9 rfl (big_c) ?_
  refine .nil (hK3 _ _ ?_)
  refine .cond rfl (fun h17 => ?_) (fun h17 => ?_)
  ·
   try simp only [sps] at h17
   refine .seq (fun K4 hK4 => .region (.mv rfl (.nil (hK4 _ _ ?_))))
   refine .ret ?_
   refine hret _ _ ?_
   refine ⟨_, rfl, ?_⟩
   first | rfl | exact congrArg Value.bool (by rw [hcy.idemB hk, h117, Bool.true_and]; exact beq_self_eq_true _) | exact congrArg Value.bool (by rw [hcy.idemB hk, beq_iff_eq.2 h117, Bool.true_and]; exact beq_self_eq_true _) | exact congrArg Value.bool (by rw [hcy.idemB hk, beq_eq_false_iff_ne.2 h117, Bool.false_and]; rfl)
  simp only [sps] at h17
  refine .skip ?_
  refine hK2 _ _ (.seq (fun K5 hK5 => .region (.mv rfl ?_)))
  refine .call rfl rfl rfl rfl @Try.call10 rfl (drawPowerCycle_c) ?_
  rintro _ H20 ⟨le20, c20, p20, k20, rfl, sm20, v20, b20⟩
  have bs_v20 := v20
  have lv_v20 : Keep H.next H20 H20 := fun _ _ _ h => h
  refine .mv rfl (.q rfl (.extract rfl rfl) (.q rfl (.extract rfl rfl) ?_))
  refine .R rfl (.allocR rfl ze_27_Hj rfl) ?_
  rintro _ H3 ⟨g3, rfl, le3, ge3, at3⟩
  replace lv_v20 := Keep.le lv_v20 le3
  refine .r0 rfl rfl (.fillA rfl sz_27_D rfl rfl rfl rfl) ?_
  rintro _ H3006 ⟨rfl, st3006, at3006⟩
  replace lv_v20 := Keep.st lv_v20 st3006 (fun k hb hk => ⟨by omega, trivial⟩)
  replace v20 := bs_v20.keep lv_v20 (Nat.le_refl _)
  have lt_at3006 := GHeap.ltg at3006
  have i20 := v20.inn
  refine .mv rfl (.nil (hK5 _ _ (.seq (fun K6 hK6 => .region ?_))))
  refine .q rfl (.loadM ag_27_D rfl ⟨rfl, Mem.of_get at3006⟩) ?_
  refine .mv rfl ?_
  refine .call rfl rfl rfl rfl @Try.call11 rfl (powerCycle_c) ?_
  rintro _ H26 ⟨le26, i26, p26, e26, rfl, pw26⟩
  have nx_H26 := le26.1
  replace at3006 := le26.2 _ _ at3006
  replace lv_v20 := Keep.le lv_v20 le26
  replace v20 := bs_v20.keep lv_v20 (Nat.le_refl _)
  clear i20
  have i20 := v20.inn
  refine .mv rfl (.q rfl (.extract rfl rfl) (.q rfl (.extract rfl rfl) (.q rfl (.extract rfl rfl) (.mv rfl (.mv rfl (.mv rfl (.nil (hK6 _ _ (.seq (fun K7 hK7 => .region ?_))))))))))
  refine .q rfl (.loadM ag_27_D rfl ⟨rfl, Mem.of_get at3006⟩) ?_
  refine .mv rfl ?_
  refine .call rfl rfl rfl rfl @Try.call12 rfl (specPowerCycle_c) ?_
  rintro _ H33 ⟨le33, i33, p33, e33, rfl, pw33⟩
  have nx_H33 := le33.1
  replace at3006 := le33.2 _ _ at3006
  replace lv_v20 := Keep.le lv_v20 le33
  clear i20
  refine .mv rfl (.q rfl (.extract rfl rfl) (.q rfl (.extract rfl rfl) (.q rfl (.extract rfl rfl) (.mv rfl (.mv rfl (.mv rfl (.nil (hK7 _ _ (.seq (fun K8 hK8 => .seq (fun K9 hK9 => .region ?_)))))))))))
  obtain ⟨rfl, rfl, rfl⟩ := pw26.uniq pw33
  refine .mv rfl (.mv rfl (.q rfl (.cmp rfl rfl rfl) (.mv rfl ?_)))
  refine .split (fun h40 => ?_) (fun h40 => ?_)
  ·
   simp at h40
  try simp only [sps] at h40
  refine .qg rfl (.move rfl) (.qg rfl (.move rfl) (.qg rfl (.cmp rfl rfl rfl) (.q rfl (.pickF rfl rfl) (.mv rfl ?_))))
  refine .split (fun h45 => ?_) (fun h45 => ?_)
  ·
   simp at h45
  try simp only [sps] at h45
  refine .qg rfl (.move rfl) (.qg rfl (.move rfl) (.qg rfl (.cmp rfl rfl rfl) (.q rfl (.pickF rfl rfl) (.nil (hK9 _ _ ?_)))))
  refine .cond rfl (fun h49 => ?_) (fun h49 => ?_)
  ·
   simp at h49
  try simp only [sps] at h49
  refine .skip ?_
  refine hK8 _ _ (.seq (fun K10 hK10 => .seq (fun K11 hK11 => .region (.mv rfl (.q rfl (.cmp rfl rfl rfl) (.nil (hK11 _ _ ?_)))))))
  refine .cond rfl (fun h51 => ?_) (fun h51 => ?_)
  ·
   try simp only [sps] at h51
   refine .seq (fun K12 hK12 => .region (.mv rfl (.nil (hK12 _ _ ?_))))
   refine .ret ?_
   refine hret _ _ ?_
   refine ⟨_, rfl, ?_⟩
   first | rfl | exact congrArg Value.bool (by rw [hcy.idemB hk, h117, Bool.true_and]; exact beq_self_eq_true _) | exact congrArg Value.bool (by rw [hcy.idemB hk, beq_iff_eq.2 h117, Bool.true_and]; exact beq_self_eq_true _) | exact congrArg Value.bool (by rw [hcy.idemB hk, beq_eq_false_iff_ne.2 h117, Bool.false_and]; rfl)
  try simp only [sps] at h51
  refine .skip ?_
  refine hK10 _ _ (.seq (fun K13 hK13 => .region ?_))
  obtain ⟨hk, he, K, A, hcy, rfl, rfl⟩ := pw26.zero h51
  obtain ⟨hI, f0, f1⟩ := Cat.code_one.1 hk
  have hn := hI.1.n40
  have hA := hcy.lt
  have hK := Cat.pw_le hI.1 f0 f1 he hcy.ne
  refine .mv rfl ?_
  refine .R rfl (.litA rfl sl_24_A ze_2_Pa rfl rfl rfl rfl) ?_
  rintro _ H53 ⟨g53, rfl, le53, ge53, at53⟩
  replace at3006 := le53.2 _ _ at3006
  replace lv_v20 := Keep.le lv_v20 le53
  refine .mv rfl (.nil (hK13 _ _ (.seq (fun K14 hK14 => ?_))))
  refine .block ?_
  have at53' : GHeap.get H53 g53 = some (.row (ints (c20.pwL k20 1)) 2 true) := at53
  refine .loopR (σ := Nat × Nat × Nat) [(3, some _), (4, some _), (5, some _), (6, some _)] (fun (k, gL11, nL11) => [(11, some (.slice (some ⟨gL11, 0, none⟩) nL11 nL11))]) (fun (k, gL11, nL11) H' => St [g53] H53 H' ∧ H'.get gL11 = some (.row (ints (c20.pwL k20 (k + 1))) 2 true) ∧ (gL11 = g53 ∨ H53.next ≤ gL11) ∧ nL11 = (c20.pwL k20 (k + 1)).length ∧ k ≤ K) (fun (k, gL11, nL11) => K - k) ((0, _, _)) ⟨rfl, rfl, rfl, rfl, trivial⟩ ⟨rfl, trivial⟩ ?_ ?_
  ·
   refine ⟨.refl _ _, by first | assumption | exact at53 | simpa using at53, .inl rfl, by first | rfl | assumption | simp | omega, ?_⟩
   omega
  rintro ⟨k, gL11, nL11⟩ HL1 ⟨lst1, at_L11, pl_L11, ln_L11, hI⟩ KL1 hKL1
  refine .forget (fr' := [(11, some (.slice (some ⟨gL11, 0, none⟩) nL11 nL11)), (3, some _), (4, some _), (5, some _), (6, some _)]) ⟨rfl, rfl, rfl, rfl, rfl, trivial⟩ ?_
  have nx_HL1 := lst1.nx
  replace at3006 := lst1.s at3006
  replace lv_v20 := Keep.st lv_v20 lst1 (fun k hb hk => ⟨by omega, trivial⟩)
  replace v20 := bs_v20.keep lv_v20 (Nat.le_refl _)
  have i20 := v20.inn
  have hpl := Cat.pwL_at (c := c20) (f := k20) (k := k + 1) (i := k) (by omega)
  have hln := Cat.length_pwL c20 k20 (k + 1)
  have hln2 := Cat.length_pwL c20 k20 (k + 1 + 1)
  obtain ⟨pc1, pc2⟩ := Cat.pw_comp hk he k
  refine .seq (fun K15 hK15 => .seq (fun K16 hK16 => .region (.mv rfl (.q rfl (.len sl_24_A rfl) (.mv rfl (.mv rfl ?_))))))
  refine .q rfl (.add rfl rfl rfl (by omega) (by omega)) ?_
  refine .q rfl (.cmp rfl rfl rfl) (.nil (hK16 _ _ ?_))
  refine .cond rfl (fun h59 => ?_) (fun h59 => ?_)
  ·
   simp only [sps] at h59
   refine .skip ?_
   refine hK15 _ _ ?_
   refine .block ?_
   refine .seq (fun K17 hK17 => ?_)
   refine .regionD mo_B (.q 0 (.q 1 (.q 2 (.q 3 (.q 4 (.q 5 (.q 6 (.q 7 (.c 8 0 (.q 9 (.q 10 (.q 11 (.q 12 (.q 13 (.done))))))))))))))) (by kernel_rfl) ?_
   refine .q rfl (.loadM ag_27_D rfl ⟨rfl, Mem.of_get at3006⟩) ?_
   refine .mv rfl rfl (.mv rfl rfl (.q rfl (.len sl_24_A rfl) ?_))
   refine .q rfl (.sub rfl rfl rfl (by omega) (by omega)) ?_
   rw [show (nL11 : Int) - 1 = (k : Int) by omega]
   refine .q rfl (.idxN sl_24_A (by first | assumption | exact SlA.of_row at_L11 (by first | rfl | (simp; done) | (simp <;> omega))) rfl rfl (by omega)) ?_
   refine .q rfl (.loadI on_2_A (by first | assumption | exact Ints.of_get at_L11) rfl (by omega)) ?_
   rw [hpl]
   refine .mv rfl rfl ?_
   refine .callQ0 rfl rfl rfl rfl rfl @Try.call13 rfl (compositeOf_c) ?_
   rw [pc1, pc2]
   refine .mv rfl rfl (.q rfl (.extract rfl rfl) (.q rfl (.extract rfl rfl) (.mv rfl rfl (.mv rfl rfl ?_))))
   refine .done ?_
   refine hK17 _ _ (.seq (fun K18 hK18 => .seq (fun K19 hK19 => .region (.mv rfl (.q rfl (.cmp rfl rfl rfl) (.nil (hK19 _ _ ?_)))))))
   refine .cond rfl (fun h73 => ?_) (fun h73 => ?_)
   ·
    simp at h73
   try simp only [sps] at h73
   refine .skip ?_
   refine hK18 _ _ (.seq (fun K20 hK20 => .seq (fun K21 hK21 => .region ?_)))
   obtain rfl := ln_L11
   refine .mv rfl (.q rfl (.len sl_24_A rfl) (.mv rfl (.mv rfl ?_)))
   refine .q rfl (.add rfl rfl rfl (by omega) (by omega)) ?_
   refine .q rfl (.sub rfl rfl rfl (by omega) (by omega)) ?_
   refine .q rfl (.cmp rfl rfl rfl) (.mv rfl ?_)
   refine .split (fun h81 => ?_) (fun h81 => ?_)
   ·
    try simp only [sps] at h81
    refine .qg rfl (.move rfl) (.qg rfl (.move rfl) ?_)
    refine .callQg rfl rfl rfl rfl rfl rfl @Try.call14 rfl (hasInt_c (Ints.of_get at_L11)) ?_
    refine .q rfl (.pickT rfl rfl) (.nil (hK21 _ _ ?_))
    refine .cond rfl (fun h85 => ?_) (fun h85 => ?_)
    ·
     simp only [sps] at h85
     exact absurd h85 (hcy.fresh (by omega))
    try simp only [sps] at h85
    refine .skip ?_
    refine hK20 _ _ (.region (.mv rfl (.mv rfl ?_)))
    refine .R rfl (.litA rfl sl_24_A ze_2_Pa rfl rfl rfl rfl) ?_
    rintro _ H88 ⟨g88, rfl, le88, ge88, at88⟩
    replace lst1 := lst1.le le88
    replace at_L11 := le88.2 _ _ at_L11
    have lt_at88 := GHeap.ltg at88
    clear i20
    refine .R rfl (.appendI rfl sl_24_A ze_2_Pa rfl by_2_Pa sl_24_A rfl rfl (by assumption) (by assumption) (by first | omega | (simp <;> omega)) (by omega) (by omega)) ?_
    rintro _ H89 ⟨g89, rfl, st89, ge89, at89⟩
    replace lst1 := lst1.sA st89
    refine .mv rfl (.nil ?_)
    refine hKL1 ((k + 1, _, _)) _ _ ?_ ?_ ⟨rfl, rfl, rfl, rfl, rfl, trivial⟩
    ·
     refine ⟨lst1, by first | assumption | (rw [Cat.pwL_snoc]; assumption), by omega, by first | omega | (simp only [List.length_append, List.length_cons, List.length_nil] <;> omega) | (rw [Cat.pwL_snoc] <;> (first | omega | (simp only [List.length_append, List.length_cons, List.length_nil] <;> omega))), ?_⟩
     omega
    (dsimp only; omega)
   try simp only [sps] at h81
   refine .z rfl (.z rfl (.z rfl (.q rfl (.pickF rfl rfl) (.nil (hK21 _ _ ?_)))))
   refine .condF rfl ?_
   refine .skip ?_
   refine hK20 _ _ (.region (.mv rfl (.mv rfl ?_)))
   refine .R rfl (.litA rfl sl_24_A ze_2_Pa rfl rfl rfl rfl) ?_
   rintro _ H88x2 ⟨g88x2, rfl, le88x2, ge88x2, at88x2⟩
   replace lst1 := lst1.le le88x2
   replace at_L11 := le88x2.2 _ _ at_L11
   have lt_at88x2 := GHeap.ltg at88x2
   refine .R rfl (.appendI rfl sl_24_A ze_2_Pa rfl by_2_Pa sl_24_A rfl rfl (by assumption) (by assumption) (by first | omega | (simp <;> omega)) (by omega) (by omega)) ?_
   rintro _ H89x2 ⟨g89x2, rfl, st89x2, ge89x2, at89x2⟩
   replace lst1 := lst1.sA st89x2
   refine .mv rfl (.nil ?_)
   refine hKL1 ((k + 1, _, _)) _ _ ?_ ?_ ⟨rfl, rfl, rfl, rfl, rfl, trivial⟩
   ·
    refine ⟨lst1, by first | assumption | (rw [Cat.pwL_snoc]; assumption), by omega, by first | omega | (simp only [List.length_append, List.length_cons, List.length_nil] <;> omega) | (rw [Cat.pwL_snoc] <;> (first | omega | (simp only [List.length_append, List.length_cons, List.length_nil] <;> omega))), ?_⟩
    omega
   (dsimp only; omega)
  simp only [sps] at h59
  refine .exit ?_
  refine hK14 _ _ (.seq (fun K22 hK22 => .region ?_))
  obtain rfl : k = K := by omega
  obtain rfl := ln_L11
  refine .q rfl (.loadM ag_27_D rfl ⟨rfl, Mem.of_get at3006⟩) ?_
  refine .mv rfl ?_
  refine .callQ rfl rfl rfl rfl @Try.call15 rfl (isIdempotent_c) ?_
  refine .mv rfl (.q rfl (.extract rfl rfl) (.q rfl (.extract rfl rfl) (.mv rfl (.mv rfl (.nil (hK22 _ _ (.seq (fun K23 hK23 => ?_))))))))
  refine .regionD mo_B (.q 0 (.q 1 (.q 2 (.q 3 (.q 4 (.q 5 (.q 6 (.q 7 (.q 8 (.q 9 (.q 10 (.q 11 (.q 12 (.q 13 (.q 14 (.q 15 (.q 16 (.q 17 (.q 18 (.q 19 (.q 20 (.q 21 (.q 22 (.q 23 (.q 24 (.q 25 (.q 26 (.q 27 (.done))))))))))))))))))))))))))))) (by kernel_rfl) ?_
  refine .mv rfl rfl (.q rfl (.cmp rfl rfl rfl) (.mv rfl rfl ?_))
  refine .split (fun h98 => ?_) (fun h98 => ?_)
  ·
   try simp only [sps] at h98
   refine .qg rfl (.move rfl) (.qg rfl (.move rfl) (.qg rfl (.move rfl) ?_))
   refine .qg rfl (.add rfl rfl rfl (by omega) (by omega)) ?_
   refine .qg rfl (.sub rfl rfl rfl (by omega) (by omega)) ?_
   rw [show ((A : Int) + 1 + ((k : Int) - (A : Int)) - 1) = (k : Int) by omega]
   refine .qg rfl (.idxN sl_24_A (by first | assumption | exact SlA.of_row at_L11 (by first | rfl | (simp; done) | (simp <;> omega))) rfl rfl (by omega)) ?_
   refine .qg rfl (.loadI on_2_A (by first | assumption | exact Ints.of_get at_L11) rfl (by omega)) ?_
   rw [hpl]
   refine .qg rfl (.move rfl) (.qg rfl (.move rfl) ?_)
   refine .qg rfl (.sub rfl rfl rfl (by omega) (by omega)) ?_
   rw [show (A : Int) + 1 - 1 = (A : Int) by omega]
   refine .qg rfl (.idxN sl_24_A (by first | assumption | exact SlA.of_row at_L11 (by first | rfl | (simp; done) | (simp <;> omega))) rfl rfl (by omega)) ?_
   refine .qg rfl (.loadI on_2_A (by first | assumption | exact Ints.of_get at_L11) rfl (by omega)) ?_
   rw [Cat.pwL_at (by omega)]
   refine .qg rfl (.cmp rfl rfl rfl) (.q rfl (.pickT rfl rfl) (.mv rfl rfl ?_))
   refine .split (fun h113 => ?_) (fun h113 => ?_)
   ·
    try simp only [sps] at h113
    refine .qg rfl (.move rfl) (.qg rfl (.move rfl) (.qg rfl (.cmp rfl rfl rfl) (.qg rfl (.move rfl) ?_)))
    refine .split (fun h117 => ?_) (fun h117 => ?_)
    ·
     try simp only [sps] at h117
     refine .qg rfl (.move rfl) (.qg rfl (.cmp rfl rfl rfl) (.qg rfl (.pickT rfl rfl) (.qg rfl (.boolEq bo_4_LFnPowers rfl rfl) (.q rfl (.pickT rfl rfl) (.mv rfl rfl ?_)))))
     refine .done ?_
     refine hK23 _ _ ?_
     refine .ret ?_
     refine hret _ _ ?_
     refine ⟨_, rfl, ?_⟩
     first | rfl | exact congrArg Value.bool (by rw [hcy.idemB hk, h117, Bool.true_and]; exact beq_self_eq_true _) | exact congrArg Value.bool (by rw [hcy.idemB hk, beq_iff_eq.2 h117, Bool.true_and]; exact beq_self_eq_true _) | exact congrArg Value.bool (by rw [hcy.idemB hk, beq_eq_false_iff_ne.2 h117, Bool.false_and]; rfl)
    try simp only [sps] at h117
    refine .z rfl (.z rfl (.qg rfl (.pickF rfl rfl) (.qg rfl (.boolEq bo_4_LFnPowers rfl rfl) (.q rfl (.pickT rfl rfl) (.mv rfl rfl ?_)))))
    refine .done ?_
    refine hK23 _ _ ?_
    refine .ret ?_
    refine hret _ _ ?_
    refine ⟨_, rfl, ?_⟩
    first | rfl | exact congrArg Value.bool (by rw [hcy.idemB hk, h117, Bool.true_and]; exact beq_self_eq_true _) | exact congrArg Value.bool (by rw [hcy.idemB hk, beq_iff_eq.2 h117, Bool.true_and]; exact beq_self_eq_true _) | exact congrArg Value.bool (by rw [hcy.idemB hk, beq_eq_false_iff_ne.2 h117, Bool.false_and]; rfl)
   simp only [sps] at h113
   exact absurd hcy.eq h113
  simp only [sps] at h98
  exact absurd hk h98
end Go.Proofs.Ytolfggcanbpknaa
