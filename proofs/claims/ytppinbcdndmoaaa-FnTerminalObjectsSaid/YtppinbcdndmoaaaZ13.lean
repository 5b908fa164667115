/- The law of terminal objects. No condition but those of each statement. -/
import Derived.Test.YtppinbcdndmoaaaZ12
namespace Go.Proofs.Ytppinbcdndmoaaa
open Go Go.GL Go.RowKit Go.Proofs
theorem bt_36_LFnTerminalObjects : buildT Try.prog 36 = some ([.int .i64 0, .slice none 0 0, .slice none 0 0, .slice none 0 0, .slice none 0 0, .int .i64 0, .slice none 0 0, .slice none 0 0, .slice none 0 0, .slice none 0 0, .slice none 0 0, .slice none 0 0], [(0, 5), (5, 5), (10, 1), (11, 1)]) := by kernel_rfl
set_option maxHeartbeats 40000000 in
theorem lawFnTerminalObjects_c {a : Option Addr} {xs : List Int} {H : GHeap} (hb : Bytes H a xs) (hl : xs.length ≤ 9223372036854775807) (hlt : ∀ b o t, a = some ⟨b, o, t⟩ → b < H.next) :
    GCalls Try.prog 3 [.slice a xs.length xs.length] H (fun v _ => v = .bool true) := by
  refine GCalls.body (N := 137) (rs := [.tmp 2]) Try.func3 rfl rfl rfl rfl (fun Qx hret hend => ?_)
  refine .fg [0] rfl ?_
  have hle := GHeap.Le.refl H
  have base_hb := hb
  refine .seq (fun K1 hK1 => .region (.mv rfl (.nil (hK1 _ _ (.seq (fun K2 hK2 => .seq (fun K3 hK3 => .region (.mv rfl ?_))))))))
  refine .callQ rfl rfl rfl rfl @Try.call6 rfl (big_c) ?_
  refine .nil (hK3 _ _ ?_)
  refine .cond rfl (fun h20 => ?_) (fun h20 => ?_)
  ·
   try simp only [sps] at h20
   refine .seq (fun K4 hK4 => .region (.mv rfl (.nil (hK4 _ _ ?_))))
   refine .ret ?_
   refine hret _ _ ?_
   refine ⟨_, rfl, ?_⟩
   rfl
  simp only [sps] at h20
  refine .skip ?_
  refine hK2 _ _ (.seq (fun K5 hK5 => .region (.mv rfl ?_)))
  refine .call rfl rfl rfl rfl @Try.call7 rfl (drawTerminalObjects_c) ?_
  rintro _ H22 ⟨le22, c22, p22, rfl, sm22, v22⟩
  have nx_H22 := le22.1
  replace hle := hle.trans le22
  have bs_v22 := v22
  have lv_v22 : Keep H.next H22 H22 := fun _ _ _ h => h
  replace hb := base_hb.mono hle
  have i22 := v22.inn
  refine .R rfl (.allocR rfl ze_27_Hj rfl) ?_
  rintro _ H3 ⟨g3, rfl, le3, ge3, at3⟩
  have nx_H3 := le3.1
  replace hle := hle.trans le3
  replace lv_v22 := Keep.le lv_v22 le3
  replace v22 := bs_v22.keep lv_v22 (Nat.le_refl _)
  have lt_at3 := GHeap.ltg at3
  replace hb := base_hb.mono hle
  clear i22
  have i22 := v22.inn
  refine .r0 rfl rfl (.fillA rfl sz_27_D rfl rfl rfl rfl) ?_
  rintro _ H3003 ⟨rfl, st3003, at3003⟩
  have nx_H3003 := st3003.nx
  replace hle := hle.st st3003 (fun k hk => ⟨by omega, trivial⟩)
  replace lv_v22 := Keep.st lv_v22 st3003 (fun k hb hk => ⟨by omega, trivial⟩)
  replace v22 := bs_v22.keep lv_v22 (Nat.le_refl _)
  have lt_at3003 := GHeap.ltg at3003
  replace hb := base_hb.mono hle
  clear i22
  have i22 := v22.inn
  have mm3003 : MemN _ _ _ _ _ := ⟨rfl, Mem.of_get at3003⟩
  refine .nil (hK5 _ _ (.seq (fun K6 hK6 => .region ?_)))
  refine .q rfl (.loadM ag_27_D rfl ⟨rfl, Mem.of_get at3003⟩) ?_
  refine .call rfl rfl rfl rfl @Try.call8 rfl (terminalObjects_c) ?_
  rintro _ H25 ⟨le25, a25, rfl, v25⟩
  have nx_H25 := le25.1
  replace hle := hle.trans le25
  replace at3003 := le25.2 _ _ at3003
  replace lv_v22 := Keep.le lv_v22 le25
  replace v22 := bs_v22.keep lv_v22 (Nat.le_refl _)
  have bs_v25 := v25
  have lv_v25 : Keep H3003.next H25 H25 := fun _ _ _ h => h
  replace hb := base_hb.mono hle
  clear i22
  have i22 := v22.inn
  clear mm3003
  have mm3003 : MemN _ _ _ _ _ := ⟨rfl, Mem.of_get at3003⟩
  have i25 := v25.ints
  refine .mv rfl (.q rfl (.extract rfl rfl) (.q rfl (.extract rfl rfl) (.mv rfl (.mv rfl (.nil (hK6 _ _ (.seq (fun K7 hK7 => .region ?_))))))))
  refine .q rfl (.loadM ag_27_D rfl ⟨rfl, Mem.of_get at3003⟩) ?_
  refine .call rfl rfl rfl rfl @Try.call9 rfl (specTerminalObjects_c) ?_
  rintro _ H30 ⟨le30, a30, rfl, v30⟩
  have nx_H30 := le30.1
  replace hle := hle.trans le30
  replace at3003 := le30.2 _ _ at3003
  replace lv_v22 := Keep.le lv_v22 le30
  replace v22 := bs_v22.keep lv_v22 (Nat.le_refl _)
  replace lv_v25 := Keep.le lv_v25 le30
  replace v25 := bs_v25.keep lv_v25 (Nat.le_refl _)
  have bs_v30 := v30
  have lv_v30 : Keep H25.next H30 H30 := fun _ _ _ h => h
  replace hb := base_hb.mono hle
  clear i22
  have i22 := v22.inn
  clear mm3003
  have mm3003 : MemN _ _ _ _ _ := ⟨rfl, Mem.of_get at3003⟩
  clear i25
  have i25 := v25.ints
  have i30 := v30.ints
  refine .mv rfl (.q rfl (.extract rfl rfl) (.q rfl (.extract rfl rfl) (.mv rfl (.mv rfl (.nil (hK7 _ _ (.seq (fun K8 hK8 => .seq (fun K9 hK9 => .region ?_)))))))))
  have tl1 : (codeL (c22.code []) c22.term).length ≤ 1048576 := by
    by_cases hk : c22.code [] = 0
    · rw [codeL_ok hk]; have := Cat.term_le (Cat.code_nil.1 hk).1; omega
    · rw [codeL_err hk]; exact Nat.zero_le _
  refine .mv rfl (.mv rfl (.q rfl (.cmp rfl rfl rfl) (.mv rfl ?_)))
  refine .split (fun h36 => ?_) (fun h36 => ?_)
  ·
   simp at h36
  try simp only [sps] at h36
  refine .qg rfl (.move rfl) (.qg rfl (.move rfl) ?_)
  refine .callQg rfl rfl rfl rfl rfl rfl @Try.call10 rfl (likeInts_c) ?_
  refine .qg rfl (.not rfl) (.q rfl (.pickF rfl rfl) (.nil (hK9 _ _ ?_)))
  refine .cond rfl (fun h41 => ?_) (fun h41 => ?_)
  ·
   simp at h41
  try simp only [sps] at h41
  refine .skip ?_
  refine hK8 _ _ (.seq (fun K10 hK10 => .seq (fun K11 hK11 => .region (.mv rfl (.q rfl (.cmp rfl rfl rfl) (.nil (hK11 _ _ ?_)))))))
  refine .cond rfl (fun h43 => ?_) (fun h43 => ?_)
  ·
   try simp only [sps] at h43
   refine .seq (fun K12 hK12 => .region (.mv rfl (.nil (hK12 _ _ ?_))))
   refine .ret ?_
   refine hret _ _ ?_
   refine ⟨_, rfl, ?_⟩
   rfl
  try simp only [sps] at h43
  refine .skip ?_
  refine hK10 _ _ (.seq (fun K13 hK13 => .region ?_))
  have hIs := Cat.code_nil.1 h43
  have hS := hIs.1
  have htl := Cat.term_le hS
  have hX : codeL (c22.code []) c22.term = c22.term := codeL_ok h43
  generalize codeL (c22.code []) c22.term = L at *
  subst hX
  refine .q rfl (.build bt_27_Hj rfl rfl rfl) ?_
  refine .q rfl (.loadM ag_27_D rfl ⟨rfl, Mem.of_get at3003⟩) ?_
  refine .q rfl (.build bt_36_LFnTerminalObjects rfl rfl rfl) ?_
  refine .call rfl rfl rfl rfl @Try.call11 rfl ((implAllLimits_c (d := eFun c22) (p := eP p22) (hin := eFun_in i22) (hs := eFun_small sm22))) ?_
  rintro _ H48 ⟨le48, aL, rL, rfl, vL⟩
  have nx_H48 := le48.1
  replace hle := hle.trans le48
  replace at3003 := le48.2 _ _ at3003
  replace lv_v22 := Keep.le lv_v22 le48
  replace v22 := bs_v22.keep lv_v22 (Nat.le_refl _)
  replace lv_v25 := Keep.le lv_v25 le48
  replace v25 := bs_v25.keep lv_v25 (Nat.le_refl _)
  replace lv_v30 := Keep.le lv_v30 le48
  replace v30 := bs_v30.keep lv_v30 (Nat.le_refl _)
  have bs_vL := vL
  have lv_vL : Keep H30.next H48 H48 := fun _ _ _ h => h
  replace hb := base_hb.mono hle
  clear i22
  have i22 := v22.inn
  clear mm3003
  have mm3003 : MemN _ _ _ _ _ := ⟨rfl, Mem.of_get at3003⟩
  clear i25
  have i25 := v25.ints
  clear i30
  have i30 := v30.ints
  refine .mv rfl (.q rfl (.extract rfl rfl) (.q rfl (.extract rfl rfl) (.mv rfl (.mv rfl (.nil (hK13 _ _ (.seq (fun K14 hK14 => .seq (fun K15 hK15 => .region ?_)))))))))
  obtain ⟨q1, q2⟩ := eFun_all hIs
  rw [q2] at vL bs_vL
  rw [q1, q2]
  refine .mv rfl (.q rfl (.cmp rfl rfl rfl) (.mv rfl ?_))
  refine .split (fun h53 => ?_) (fun h53 => ?_)
  ·
   simp at h53
  try simp only [sps] at h53
  refine .qg rfl (.move rfl) (.qg rfl (.len sl_32_Hi rfl) (.qg rfl (.move rfl) (.qg rfl (.len sl_24_A rfl) (.qg rfl (.cmp rfl rfl rfl) (.q rfl (.pickF rfl rfl) (.nil (hK15 _ _ ?_)))))))
  refine .cond rfl (fun h59 => ?_) (fun h59 => ?_)
  ·
   simp at h59
  try simp only [sps] at h59
  refine .skip ?_
  refine hK14 _ _ (.seq (fun K16 hK16 => .seq (fun K17 hK17 => .region (.mv rfl (.nil (hK17 _ _ ?_))))))
  refine .block ?_
  refine .loopR (σ := Nat) [(3, some _), (4, some _), (8, some _)] (fun i => [(10, some (.int .i64 (i : Int)))]) (fun i H' => St [] H48 H' ∧ i ≤ c22.term.length) (fun i => c22.term.length - i) (0) ⟨rfl, rfl, rfl, trivial⟩ ⟨rfl, trivial⟩ ?_ ?_
  ·
   refine ⟨.refl _ _, ?_⟩
   exact Nat.zero_le _
  rintro i HL1 ⟨lst1, hI⟩ KL1 hKL1
  refine .forget (fr' := [(10, some (.int .i64 (i : Int))), (3, some _), (4, some _), (8, some _)]) ⟨rfl, rfl, rfl, rfl, trivial⟩ ?_
  have nx_HL1 := lst1.nx
  replace hle := hle.st lst1 (fun k hk => trivial)
  replace at3003 := lst1.same _ _ trivial at3003
  replace lv_v22 := Keep.st lv_v22 lst1 (fun k hb hk => trivial)
  replace v22 := bs_v22.keep lv_v22 (Nat.le_refl _)
  replace lv_v25 := Keep.st lv_v25 lst1 (fun k hb hk => trivial)
  replace v25 := bs_v25.keep lv_v25 (Nat.le_refl _)
  replace lv_v30 := Keep.st lv_v30 lst1 (fun k hb hk => trivial)
  replace v30 := bs_v30.keep lv_v30 (Nat.le_refl _)
  replace lv_vL := Keep.st lv_vL lst1 (fun k hb hk => trivial)
  replace vL := bs_vL.keep lv_vL (Nat.le_refl _)
  replace hb := base_hb.mono hle
  clear i22
  have i22 := v22.inn
  clear mm3003
  have mm3003 : MemN _ _ _ _ _ := ⟨rfl, Mem.of_get at3003⟩
  clear i25
  have i25 := v25.ints
  clear i30
  have i30 := v30.ints
  refine .seq (fun K18 hK18 => .seq (fun K19 hK19 => .region (.mv rfl (.mv rfl (.q rfl (.len sl_24_A rfl) (.q rfl (.cmp rfl rfl rfl) (.nil (hK19 _ _ ?_))))))))
  refine .cond rfl (fun h63 => ?_) (fun h63 => ?_)
  ·
   simp only [sps] at h63
   obtain ⟨gL, rfl, hA, hM⟩ := vL.atI (i := i) (by rw [List.length_map]; omega)
   rw [cones_get (by omega)] at hM
   have m0 := hM.2 0 _ rfl
   have m1 := hM.2 1 _ rfl
   have x0 := Cat.term_mem (c := c22) (i := 0) (by omega)
   have xi := Cat.term_mem (c := c22) (i := i) (by omega)
   have hco := Cat.term_code hIs x0 xi
   obtain ⟨t1, t2, t3⟩ := Cat.term_iso hIs x0 xi
   refine .skip ?_
   refine hK18 _ _ (.seq (fun K20 hK20 => ?_))
   refine .block ?_
   refine .seq (fun K21 hK21 => .seq (fun K22 hK22 => ?_))
   refine .regionD mo_B (.q 0 (.q 1 (.q 2 (.q 3 (.q 4 (.q 5 (.q 6 (.q 7 (.q 8 (.q 9 (.q 10 (.q 11 (.q 12 (.q 13 (.q 14 (.q 15 (.q 16 (.q 17 (.q 18 (.done)))))))))))))))))))) (by kernel_rfl) ?_
   refine .mv rfl rfl (.mv rfl rfl ?_)
   refine .q rfl (.idx sl_32_Hi (by assumption) (by omega) rfl rfl (by omega) (by omega) rfl) ?_
   refine .q rfl (.fieldAddr fo_38_0_Cm rfl) ?_
   refine .q rfl (.load on_2_A rfl (by assumption)) ?_
   refine .mv rfl rfl (.mv rfl rfl ?_)
   refine .q rfl (.idxN sl_24_A (by assumption) rfl rfl (by omega)) ?_
   refine .q rfl (.loadI on_2_A (by assumption) rfl (by omega)) ?_
   refine .q rfl (.cmp rfl rfl rfl) (.mv rfl rfl ?_)
   refine .split (fun h76 => ?_) (fun h76 => ?_)
   ·
    simp at h76
   try simp only [sps] at h76
   refine .qg rfl (.move rfl) (.qg rfl (.move rfl) ?_)
   refine .qg rfl (.idx sl_32_Hi (by assumption) (by omega) rfl rfl (by omega) (by omega) rfl) ?_
   refine .qg rfl (.fieldAddr fo_38_1_Cm rfl) ?_
   refine .qg rfl (.load on_24_B rfl (by assumption)) ?_
   refine .qg rfl (.len sl_24_A rfl) (.qg rfl (.cmp rfl rfl rfl) (.q rfl (.pickF rfl rfl) ?_))
   refine .done ?_
   refine hK22 _ _ ?_
   refine .cond rfl (fun h84 => ?_) (fun h84 => ?_)
   ·
    simp at h84
   try simp only [sps] at h84
   refine .skip ?_
   refine hK21 _ _ (.seq (fun K23 hK23 => ?_))
   refine .regionD mo_B (.q 0 (.q 1 (.q 2 (.q 3 (.q 4 (.q 5 (.q 6 (.q 7 (.c 8 0 (.q 9 (.q 10 (.q 11 (.q 12 (.q 13 (.done))))))))))))))) (by kernel_rfl) ?_
   refine .q rfl (.loadM ag_27_D rfl ⟨rfl, Mem.of_get at3003⟩) ?_
   refine .mv rfl rfl ?_
   refine .q rfl (.idxN (j := 0) sl_24_A (by assumption) rfl rfl (by omega)) ?_
   refine .q rfl (.loadI on_2_A (by assumption) rfl (by omega)) ?_
   refine .mv rfl rfl (.mv rfl rfl ?_)
   refine .q rfl (.idxN sl_24_A (by assumption) rfl rfl (by omega)) ?_
   refine .q rfl (.loadI on_2_A (by assumption) rfl (by omega)) ?_
   refine .call0 rfl rfl rfl rfl rfl @Try.call12 rfl (homSet_c) ?_
   rintro _ H94 ⟨le94, aV, rfl, vV⟩
   have nx_H94 := le94.1
   replace hle := hle.trans le94
   replace lst1 := lst1.le le94
   replace at3003 := le94.2 _ _ at3003
   replace lv_v22 := Keep.le lv_v22 le94
   replace v22 := bs_v22.keep lv_v22 (Nat.le_refl _)
   replace lv_v25 := Keep.le lv_v25 le94
   replace v25 := bs_v25.keep lv_v25 (Nat.le_refl _)
   replace lv_v30 := Keep.le lv_v30 le94
   replace v30 := bs_v30.keep lv_v30 (Nat.le_refl _)
   replace lv_vL := Keep.le lv_vL le94
   replace vL := bs_vL.keep lv_vL (Nat.le_refl _)
   have bs_vV := vV
   have lv_vV : Keep HL1.next H94 H94 := fun _ _ _ h => h
   replace hb := base_hb.mono hle
   clear i22
   have i22 := v22.inn
   clear mm3003
   have mm3003 : MemN _ _ _ _ _ := ⟨rfl, Mem.of_get at3003⟩
   clear i25
   have i25 := v25.ints
   clear i30
   have i30 := v30.ints
   have iV := vV.ints
   refine .mv rfl rfl (.q rfl (.extract rfl rfl) (.q rfl (.extract rfl rfl) (.mv rfl rfl (.mv rfl rfl ?_))))
   refine .done ?_
   refine hK23 _ _ (.seq (fun K24 hK24 => .seq (fun K25 hK25 => .region ?_)))
   have hX : codeL (c22.codeO [c22.term.getD 0 0, c22.term.getD i 0]) (c22.hom (c22.term.getD 0 0) (c22.term.getD i 0)) = c22.hom (c22.term.getD 0 0) (c22.term.getD i 0) := codeL_ok hco
   generalize codeL (c22.codeO [c22.term.getD 0 0, c22.term.getD i 0]) (c22.hom (c22.term.getD 0 0) (c22.term.getD i 0)) = M at *
   subst hX
   refine .mv rfl (.q rfl (.cmp rfl rfl rfl) (.mv rfl ?_))
   refine .split (fun h99 => ?_) (fun h99 => ?_)
   ·
    rw [hco] at h99
    simp at h99
   try simp only [sps] at h99
   refine .qg rfl (.move rfl) (.qg rfl (.len sl_24_A rfl) (.qg rfl (.cmp rfl rfl rfl) (.q rfl (.pickF rfl rfl) (.nil (hK25 _ _ ?_)))))
   refine .cond rfl (fun h103 => ?_) (fun h103 => ?_)
   ·
    rw [t1] at h103
    simp at h103
   try simp only [sps] at h103
   refine .skip ?_
   refine hK24 _ _ (.seq (fun K26 hK26 => ?_))
   refine .regionD mo_B (.q 0 (.q 1 (.q 2 (.q 3 (.c 4 0 (.q 5 (.q 6 (.q 7 (.q 8 (.q 9 (.done))))))))))) (by kernel_rfl) ?_
   refine .q rfl (.loadM ag_27_D rfl ⟨rfl, Mem.of_get at3003⟩) ?_
   refine .mv rfl rfl ?_
   refine .q rfl (.idxN (j := 0) sl_24_A (by assumption) rfl rfl (by omega)) ?_
   refine .q rfl (.loadI on_2_A (by assumption) rfl (by omega)) ?_
   refine .callQ0 rfl rfl rfl rfl rfl @Try.call13 rfl (isIso_c) ?_
   refine .mv rfl rfl (.q rfl (.extract rfl rfl) (.q rfl (.extract rfl rfl) (.mv rfl rfl (.mv rfl rfl ?_))))
   refine .done ?_
   refine hK26 _ _ (.seq (fun K27 hK27 => .region (.mv rfl (.q rfl (.cmp rfl rfl rfl) (.mv rfl ?_)))))
   refine .split (fun h114 => ?_) (fun h114 => ?_)
   ·
    rw [t2] at h114
    simp at h114
   try simp only [sps] at h114
   refine .qg rfl (.move rfl) (.qg rfl (.not rfl) (.q rfl (.pickF rfl rfl) (.nil (hK27 _ _ ?_))))
   refine .cond rfl (fun h117 => ?_) (fun h117 => ?_)
   ·
    rw [t3] at h117
    simp at h117
   try simp only [sps] at h117
   refine .skip ?_
   refine hK20 _ _ (.region (.mv rfl ?_))
   refine .q rfl (.add rfl rfl rfl (by omega) (by omega)) ?_
   refine .mv rfl (.nil ?_)
   refine hKL1 (i + 1) _ _ ?_ ?_ ⟨rfl, rfl, rfl, rfl, trivial⟩
   ·
    refine ⟨lst1, ?_⟩
    omega
   omega
  try simp only [sps] at h63
  refine .exit ?_
  refine hK16 _ _ (.seq (fun K28 hK28 => .region ?_))
  have hsm := c22.opR_small
  obtain ⟨o1, o2, o3⟩ := Cat.op_term hIs
  refine .q rfl (.loadM ag_27_D rfl ⟨rfl, Mem.of_get at3003⟩) ?_
  refine .call rfl rfl rfl rfl @Try.call14 rfl (oppositeCategory_c) ?_
  rintro _ H120 ⟨le120, p120, rfl, v120⟩
  have nx_H120 := le120.1
  replace hle := hle.trans le120
  replace lst1 := lst1.le le120
  replace at3003 := le120.2 _ _ at3003
  replace lv_v22 := Keep.le lv_v22 le120
  replace v22 := bs_v22.keep lv_v22 (Nat.le_refl _)
  replace lv_v25 := Keep.le lv_v25 le120
  replace v25 := bs_v25.keep lv_v25 (Nat.le_refl _)
  replace lv_v30 := Keep.le lv_v30 le120
  replace v30 := bs_v30.keep lv_v30 (Nat.le_refl _)
  replace lv_vL := Keep.le lv_vL le120
  replace vL := bs_vL.keep lv_vL (Nat.le_refl _)
  have bs_v120 := v120
  have lv_v120 : Keep HL1.next H120 H120 := fun _ _ _ h => h
  replace hb := base_hb.mono hle
  clear i22
  have i22 := v22.inn
  clear mm3003
  have mm3003 : MemN _ _ _ _ _ := ⟨rfl, Mem.of_get at3003⟩
  clear i25
  have i25 := v25.ints
  clear i30
  have i30 := v30.ints
  have i120 := v120.inn
  refine .mv rfl (.q rfl (.extract rfl rfl) (.q rfl (.extract rfl rfl) ?_))
  refine .R rfl (.allocR rfl ze_27_Hj rfl) ?_
  rintro _ H15 ⟨g15, rfl, le15, ge15, at15⟩
  have nx_H15 := le15.1
  replace hle := hle.trans le15
  replace lst1 := lst1.le le15
  replace at3003 := le15.2 _ _ at3003
  replace lv_v22 := Keep.le lv_v22 le15
  replace v22 := bs_v22.keep lv_v22 (Nat.le_refl _)
  replace lv_v25 := Keep.le lv_v25 le15
  replace v25 := bs_v25.keep lv_v25 (Nat.le_refl _)
  replace lv_v30 := Keep.le lv_v30 le15
  replace v30 := bs_v30.keep lv_v30 (Nat.le_refl _)
  replace lv_vL := Keep.le lv_vL le15
  replace vL := bs_vL.keep lv_vL (Nat.le_refl _)
  replace lv_v120 := Keep.le lv_v120 le15
  replace v120 := bs_v120.keep lv_v120 (Nat.le_refl _)
  have lt_at15 := GHeap.ltg at15
  replace hb := base_hb.mono hle
  clear i22
  have i22 := v22.inn
  clear mm3003
  have mm3003 : MemN _ _ _ _ _ := ⟨rfl, Mem.of_get at3003⟩
  clear i25
  have i25 := v25.ints
  clear i30
  have i30 := v30.ints
  clear i120
  have i120 := v120.inn
  refine .r0 rfl rfl (.fillA rfl sz_27_D rfl rfl rfl rfl) ?_
  rintro _ H24006 ⟨rfl, st24006, at24006⟩
  have nx_H24006 := st24006.nx
  replace hle := hle.st st24006 (fun k hk => ⟨by omega, trivial⟩)
  replace lst1 := lst1.sA st24006
  replace at3003 := st24006.s at3003
  replace lv_v22 := Keep.st lv_v22 st24006 (fun k hb hk => ⟨by omega, trivial⟩)
  replace v22 := bs_v22.keep lv_v22 (Nat.le_refl _)
  replace lv_v25 := Keep.st lv_v25 st24006 (fun k hb hk => ⟨by omega, trivial⟩)
  replace v25 := bs_v25.keep lv_v25 (Nat.le_refl _)
  replace lv_v30 := Keep.st lv_v30 st24006 (fun k hb hk => ⟨by omega, trivial⟩)
  replace v30 := bs_v30.keep lv_v30 (Nat.le_refl _)
  replace lv_vL := Keep.st lv_vL st24006 (fun k hb hk => ⟨by omega, trivial⟩)
  replace vL := bs_vL.keep lv_vL (Nat.le_refl _)
  replace lv_v120 := Keep.st lv_v120 st24006 (fun k hb hk => ⟨by omega, trivial⟩)
  replace v120 := bs_v120.keep lv_v120 (Nat.le_refl _)
  have lt_at24006 := GHeap.ltg at24006
  replace hb := base_hb.mono hle
  clear i22
  have i22 := v22.inn
  clear mm3003
  have mm3003 : MemN _ _ _ _ _ := ⟨rfl, Mem.of_get at3003⟩
  clear i25
  have i25 := v25.ints
  clear i30
  have i30 := v30.ints
  clear i120
  have i120 := v120.inn
  have mm24006 : MemN _ _ _ _ _ := ⟨rfl, Mem.of_get at24006⟩
  refine .mv rfl (.nil (hK28 _ _ (.seq (fun K29 hK29 => .region ?_))))
  refine .q rfl (.loadM ag_27_D rfl ⟨rfl, Mem.of_get at24006⟩) ?_
  refine .call rfl rfl rfl rfl @Try.call15 rfl (initialObjects_c) ?_
  rintro _ H125 ⟨le125, a125, rfl, v125⟩
  have nx_H125 := le125.1
  replace hle := hle.trans le125
  replace lst1 := lst1.le le125
  replace at3003 := le125.2 _ _ at3003
  replace at24006 := le125.2 _ _ at24006
  replace lv_v22 := Keep.le lv_v22 le125
  replace v22 := bs_v22.keep lv_v22 (Nat.le_refl _)
  replace lv_v25 := Keep.le lv_v25 le125
  replace v25 := bs_v25.keep lv_v25 (Nat.le_refl _)
  replace lv_v30 := Keep.le lv_v30 le125
  replace v30 := bs_v30.keep lv_v30 (Nat.le_refl _)
  replace lv_vL := Keep.le lv_vL le125
  replace vL := bs_vL.keep lv_vL (Nat.le_refl _)
  replace lv_v120 := Keep.le lv_v120 le125
  replace v120 := bs_v120.keep lv_v120 (Nat.le_refl _)
  have bs_v125 := v125
  have lv_v125 : Keep H24006.next H125 H125 := fun _ _ _ h => h
  replace hb := base_hb.mono hle
  clear i22
  have i22 := v22.inn
  clear mm3003
  have mm3003 : MemN _ _ _ _ _ := ⟨rfl, Mem.of_get at3003⟩
  clear i25
  have i25 := v25.ints
  clear i30
  have i30 := v30.ints
  clear i120
  have i120 := v120.inn
  clear mm24006
  have mm24006 : MemN _ _ _ _ _ := ⟨rfl, Mem.of_get at24006⟩
  have i125 := v125.ints
  refine .mv rfl (.q rfl (.extract rfl rfl) (.q rfl (.extract rfl rfl) (.mv rfl (.mv rfl (.nil (hK29 _ _ (.seq (fun K30 hK30 => .region ?_))))))))
  rw [o3] at *
  have tl2 : (codeL (c22.op.code []) c22.op.op.term).length ≤ 1048576 := by rw [o2]; omega
  refine .mv rfl (.mv rfl ?_)
  refine .q rfl (.add rfl rfl rfl (by omega) (by omega)) ?_
  refine .q rfl (.cmp rfl rfl rfl) (.mv rfl ?_)
  refine .split (fun h132 => ?_) (fun h132 => ?_)
  ·
   try simp only [sps] at h132
   refine .qg rfl (.move rfl) (.qg rfl (.move rfl) ?_)
   refine .callQg rfl rfl rfl rfl rfl rfl @Try.call10 rfl (likeInts_c) ?_
   refine .q rfl (.pickT rfl rfl) (.mv rfl (.nil (hK30 _ _ ?_)))
   refine .ret ?_
   refine hret _ _ ?_
   refine ⟨_, rfl, ?_⟩
   exact congrArg Value.bool (decide_eq_true o2)
  rw [h43, o1] at h132
  simp at h132
end Go.Proofs.Ytppinbcdndmoaaa
