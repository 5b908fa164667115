/- Categories that are drawn and bent. No condition but those of each statement. -/
import Derived.Test.YtolfggcanbpknaaZ11
namespace Go.Proofs.Ytolfggcanbpknaa
open Go Go.GL Go.RowKit Go.Proofs
set_option maxHeartbeats 8000000 in
theorem l02Bend_c {gS : Nat} {c : Cat} {p : CatP} {H : GHeap} (hs : DSrc 90 H gS := by assumption) (hin : c.In H p := by assumption) (hr : c.Rect 33000) :
    GCalls Try.prog 84 [.pointer (some ⟨gS, 0, none⟩), .agg (c.cells p).toArray] H (DrawnK 90 gS H) := by
  have hlS := hs.lt
  obtain ⟨a1, a2, a3, -, -, a6, -, a8, a9, -⟩ := id hr
  have hsm := hr.small (by omega)
  obtain ⟨n1, n2, n3, n4, n5, n6⟩ := id hsm
  refine GCalls.body (N := 92) (rs := [.cell 4 27]) Try.func84 rfl rfl rfl rfl (fun Qx hret hend => ?_)
  refine .fg [0, 1] rfl ?_
  have hst := St.refl [gS] H
  refine .seq (fun K1 hK1 => .region ?_)
  refine .R rfl (.boxR rfl sz_27_D rfl) ?_
  rintro _ H3 ⟨g3, rfl, le3, ge3, at3⟩
  replace hst := hst.le le3
  have lt_at3 := GHeap.ltg at3
  refine .R rfl (.allocR rfl ze_27_Hj rfl) ?_
  rintro _ H4 ⟨g4, rfl, le4, ge4, at4⟩
  replace hst := hst.le le4
  replace at3 := le4.2 _ _ at3
  have lt_at4 := GHeap.ltg at4
  refine .nil (hK1 _ _ (.seq (fun K2 hK2 => .region ?_)))
  have hs := (hs.le le3).le le4
  have hin4 := (hin.mono le3).mono le4
  refine .q rfl (.loadM ag_27_D rfl ⟨rfl, Mem.of_get at3⟩) ?_
  refine .call rfl rfl rfl rfl @Try.call111 rfl (l02OwnO_c (hin := hin4) (hs := hsm)) ?_
  rintro _ H8 ⟨le8, gF, gT, gI, gC, rr, rfl, v8⟩
  have aF := v8.a1
  have aT := v8.a2
  have aI := v8.a3
  have aC := v8.a4
  have bF := v8.b1
  have bT := v8.b2
  have bI := v8.b3
  have bC := v8.b4
  have n12 := v8.n12
  have n13 := v8.n13
  have n23 := v8.n23
  have nC1 := row_ne aC aF rfl
  have nC2 := row_ne aC aT rfl
  have nC3 := row_ne aC aI rfl
  have hRR := v8.rows
  have rk0 := St.refl [g3, gS, gF, gT, gI, gC] H8
  replace hst := hst.le le8
  replace hs := hs.le le8
  replace at3 := le8.2 _ _ at3
  replace at4 := le8.2 _ _ at4
  have lt_aF := GHeap.ltg aF
  refine .r0 rfl rfl (.fillA rfl sz_27_D rfl rfl rfl rfl) ?_
  rintro _ H1002 ⟨rfl, st1002, at1002⟩
  have nx_H1002 := st1002.nx
  replace hst := hst.sA st1002
  replace hs := hs.sA st1002
  replace rk0 := rk0.sA st1002
  have ne_g4_g3 : NE g4 g3 := .a
  replace at4 := st1002.s at4 ne_g4_g3.ne
  have ne_gF_g3 : NE gF g3 := .a
  replace aF := st1002.s aF ne_gF_g3.ne
  have ne_gT_g3 : NE gT g3 := .a
  replace aT := st1002.s aT ne_gT_g3.ne
  have ne_gI_g3 : NE gI g3 := .a
  replace aI := st1002.s aI ne_gI_g3.ne
  have ne_gC_g3 : NE gC g3 := .a
  replace aC := st1002.s aC ne_gC_g3.ne
  have lt_at1002 := GHeap.ltg at1002
  replace at1002 : GHeap.get H1002 g3 = some (.row [.int .i64 c.obj, .slice (some ⟨gF, 0, none⟩) c.src.length c.src.length, .slice (some ⟨gT, 0, none⟩) c.tgt.length c.tgt.length, .slice (some ⟨gI, 0, none⟩) c.idn.length c.idn.length, .slice (some ⟨gC, 0, none⟩) c.comp.length c.comp.length] 27 true) := at1002
  refine .nil (hK2 _ _ (.seq (fun K3 hK3 => .region ?_)))
  have offA : Off rr c.comp.length [g3, gS, gF, gT, gI, gC] := .cons (hRR.lowNe (by omega)) (.cons (hRR.lowNe (by omega)) (.cons v8.r1 (.cons v8.r2 (.cons v8.r3 (.cons (hRR.neT v8.a4 rfl) (.nil _ _))))))
  refine .q rfl (.fieldAddr fo_27_1_B rfl) ?_
  refine .q rfl (.load on_24_B rfl (by first | assumption | exact Mem.of_get at1002 1 _ rfl)) ?_
  refine .q rfl (.len sl_24_A rfl) (.mv rfl (.nil (hK3 _ _ (.seq (fun K4 hK4 => .region (.mv rfl (.mv rfl ?_)))))))
  refine .call rfl rfl rfl rfl @Try.call48 rfl (l01Next_c) ?_
  rintro _ H14 ⟨k14, rfl, ka14, kb14, kc14, st14, hs⟩
  have nx_H14 := st14.nx
  replace hst := hst.sA st14
  replace rk0 := rk0.sA st14
  have ne_g4_gS : NE g4 gS := .a
  replace at4 := st14.s at4 ne_g4_gS.ne
  have ne_gF_gS : NE gF gS := .a
  replace aF := st14.s aF ne_gF_gS.ne
  have ne_gT_gS : NE gT gS := .a
  replace aT := st14.s aT ne_gT_gS.ne
  have ne_gI_gS : NE gI gS := .a
  replace aI := st14.s aI ne_gI_gS.ne
  have ne_gC_gS : NE gC gS := .a
  replace aC := st14.s aC ne_gC_gS.ne
  have ne_g3_gS : NE g3 gS := .a
  replace at1002 := st14.s at1002 ne_g3_gS.ne
  refine .mv rfl (.nil (hK4 _ _ (.seq (fun K5 hK5 => .seq (fun K6 hK6 => .region (.mv rfl ?_))))))
  refine .call rfl rfl rfl rfl @Try.call48 rfl (l01Next_c) ?_
  rintro _ H16 ⟨k16, rfl, ka16, kb16, kc16, st16, hs⟩
  have nx_H16 := st16.nx
  replace hst := hst.sA st16
  replace rk0 := rk0.sA st16
  replace at4 := st16.s at4 ne_g4_gS.ne
  replace aF := st16.s aF ne_gF_gS.ne
  replace aT := st16.s aT ne_gT_gS.ne
  replace aI := st16.s aI ne_gI_gS.ne
  replace aC := st16.s aC ne_gC_gS.ne
  replace at1002 := st16.s at1002 ne_g3_gS.ne
  refine .nil (hK6 _ _ ?_)
  refine .block ?_
  refine .seq (fun K7 hK7 => .region (.q rfl (.cmp rfl rfl rfl) (.mv rfl (.nil (hK7 _ _ ?_)))))
  refine .cond rfl (fun h29 => ?_) (fun h29 => ?_)
  ·
   try simp only [sps] at h29
   refine .region (.mv rfl (.q rfl (.fieldAddr fo_27_0_B rfl) ?_))
   refine .q rfl (.load on_2_A rfl (by first | assumption | exact Mem.of_get at1002 0 _ rfl)) ?_
   refine .q rfl (.add rfl rfl rfl (by omega) (by omega)) ?_
   refine .R rfl (.litA rfl sl_24_A ze_2_L rfl rfl rfl rfl) ?_
   rintro _ H35 ⟨g35, rfl, le35, ge35, at35⟩
   replace hst := hst.le le35
   replace rk0 := rk0.le le35
   replace hs := hs.le le35
   replace at4 := le35.2 _ _ at4
   replace aF := le35.2 _ _ aF
   replace aT := le35.2 _ _ aT
   replace aI := le35.2 _ _ aI
   replace aC := le35.2 _ _ aC
   replace at1002 := le35.2 _ _ at1002
   refine .call rfl rfl rfl rfl @Try.call85 rfl ((by have hh := l01Pick_c (xs := [c.obj + 1, -1, 9]) (hl := fun H' s => Ints.of_get (s.same _ _ ⟨by omega, trivial⟩ at35)) (h0 := by simp); exact hh)) ?_
   rintro _ H36 ⟨i36, hi36, rfl, st36, hs⟩
   obtain ⟨k36, e36, b36⟩ : ∃ k : Int, ([c.obj + 1, -1, 9] : List Int).getD i36 0 = k ∧ -9223372036854775808 ≤ k ∧ k ≤ 9223372036854775807 := ⟨_, rfl, bd_iff.2 (by intro x hx; simp only [List.mem_cons, List.not_mem_nil, or_false] at hx; omega) _ hi36⟩
   rw [e36]
   replace hst := hst.sA st36
   replace rk0 := rk0.sA st36
   replace at4 := st36.s at4 ne_g4_gS.ne
   replace aF := st36.s aF ne_gF_gS.ne
   replace aT := st36.s aT ne_gT_gS.ne
   replace aI := st36.s aI ne_gI_gS.ne
   replace aC := st36.s aC ne_gC_gS.ne
   replace at1002 := st36.s at1002 ne_g3_gS.ne
   refine .q rfl (.fieldAddr fo_27_0_B rfl) ?_
   refine .r0 rfl rfl (.storeR rfl sz_2_Ch rfl rfl rfl (by assumption) (by first | exact Nat.le_of_ble_eq_true rfl | (simp; done) | (simp <;> omega))) ?_
   rintro _ H8007 ⟨rfl, st8007, at8007⟩
   replace hst := hst.sA st8007
   replace rk0 := rk0.sA st8007
   replace hs := hs.sA st8007
   replace at4 := st8007.s at4 ne_g4_g3.ne
   replace aF := st8007.s aF ne_gF_g3.ne
   replace aT := st8007.s aT ne_gT_g3.ne
   replace aI := st8007.s aI ne_gI_g3.ne
   replace aC := st8007.s aC ne_gC_g3.ne
   try simp only [Nat.zero_add, List.set_cons_succ, List.set_cons_zero] at at8007
   refine .nil (hK5 _ _ (.seq (fun K8 hK8 => .region ?_)))
   refine .q rfl (.loadM ag_27_D rfl ⟨rfl, Mem.of_get at8007⟩) ?_
   refine .r0 rfl rfl (.fillA rfl sz_27_D rfl rfl rfl rfl) ?_
   rintro _ H22001 ⟨rfl, st22001, at22001⟩
   replace hst := hst.sA st22001
   replace hs := hs.sA st22001
   have ne_gF_g4 : NE gF g4 := .a
   replace aF := st22001.s aF ne_gF_g4.ne
   have ne_gT_g4 : NE gT g4 := .a
   replace aT := st22001.s aT ne_gT_g4.ne
   have ne_gI_g4 : NE gI g4 := .a
   replace aI := st22001.s aI ne_gI_g4.ne
   have ne_gC_g4 : NE gC g4 := .a
   replace aC := st22001.s aC ne_gC_g4.ne
   refine .nil (hK8 _ _ ?_)
   refine .ret ?_
   refine hret _ _ ?_
   refine ⟨_, _, _, _, rfl, ag_27_D, (by rfl), (Mem.of_get at22001), ?_⟩
   have hR' := (hRR.st rk0 offA).st st22001 (.cons (hRR.lowNe (by omega)) (.nil _ _))
   exact ⟨⟨k36, c.src, c.tgt, c.idn, c.comp⟩, ownP gF gT gI gC rr, rfl, ⟨n1, n2, n3, n4, n5, b36⟩, (KIn.own (c := ⟨k36, c.src, c.tgt, c.idn, c.comp⟩) aF bF aT bT aI bI aC bC hR').keep (.of_le (.refl _)) (by omega), hst, hs⟩
  try simp only [sps] at h29
  refine .seq (fun K9 hK9 => .region (.q rfl (.cmp rfl rfl rfl) (.mv rfl (.nil (hK9 _ _ ?_)))))
  refine .cond rfl (fun h38 => ?_) (fun h38 => ?_)
  ·
   try simp only [sps] at h38
   refine .region (.q rfl (.fieldAddr fo_27_1_B rfl) ?_)
   refine .q rfl (.load on_24_B rfl (by first | assumption | exact Mem.of_get at1002 1 _ rfl)) ?_
   refine .R rfl (.litA rfl sl_24_A ze_2_L rfl rfl rfl rfl) ?_
   rintro _ H42 ⟨g42, rfl, le42, ge42, at42⟩
   replace hst := hst.le le42
   replace rk0 := rk0.le le42
   replace hs := hs.le le42
   replace at4 := le42.2 _ _ at4
   replace aF := le42.2 _ _ aF
   replace aT := le42.2 _ _ aT
   replace aI := le42.2 _ _ aI
   replace aC := le42.2 _ _ aC
   replace at1002 := le42.2 _ _ at1002
   have lt_at42 := GHeap.ltg at42
   refine .R rfl (.appendI rfl sl_24_A ze_2_L rfl by_2_L sl_24_A rfl rfl (by assumption) (by assumption) (by first | omega | (simp <;> omega)) (by omega) (by omega)) ?_
   rintro _ H43 ⟨g43, rfl, st43, ge43, at43⟩
   replace hst := hst.sA st43
   replace rk0 := rk0.sA st43
   replace hs := hs.sA st43
   replace at4 := st43.s at4
   replace aT := st43.s aT
   replace aI := st43.s aI
   replace aC := st43.s aC
   replace at1002 := st43.s at1002 (Ne.symm ne_gF_g3.ne)
   refine .q rfl (.fieldAddr fo_27_1_B rfl) ?_
   refine .r0 rfl rfl (.storeR rfl sz_24_Ch rfl rfl rfl (by assumption) (by first | exact Nat.le_of_ble_eq_true rfl | (simp; done) | (simp <;> omega))) ?_
   rintro _ H10005 ⟨rfl, st10005, at10005⟩
   replace hst := hst.sA st10005
   replace rk0 := rk0.sA st10005
   replace hs := hs.sA st10005
   replace at4 := st10005.s at4 ne_g4_g3.ne
   replace aT := st10005.s aT ne_gT_g3.ne
   replace aI := st10005.s aI ne_gI_g3.ne
   replace aC := st10005.s aC ne_gC_g3.ne
   replace at43 := st10005.s at43
   try simp only [Nat.zero_add, List.set_cons_succ, List.set_cons_zero] at at10005
   refine .nil (hK5 _ _ (.seq (fun K10 hK10 => .region ?_)))
   refine .q rfl (.loadM ag_27_D rfl ⟨rfl, Mem.of_get at10005⟩) ?_
   refine .r0 rfl rfl (.fillA rfl sz_27_D rfl rfl rfl rfl) ?_
   rintro _ H22001x2 ⟨rfl, st22001x2, at22001x2⟩
   replace hst := hst.sA st22001x2
   replace hs := hs.sA st22001x2
   have ne_gT_g4 : NE gT g4 := .a
   replace aT := st22001x2.s aT ne_gT_g4.ne
   have ne_gI_g4 : NE gI g4 := .a
   replace aI := st22001x2.s aI ne_gI_g4.ne
   have ne_gC_g4 : NE gC g4 := .a
   replace aC := st22001x2.s aC ne_gC_g4.ne
   replace at43 := st22001x2.s at43
   refine .nil (hK10 _ _ ?_)
   refine .ret ?_
   refine hret _ _ ?_
   refine ⟨_, _, _, _, rfl, ag_27_D, (by rfl), (Mem.of_get at22001x2), ?_⟩
   have hR' := (hRR.st rk0 offA).st st22001x2 (.cons (hRR.lowNe (by omega)) (.nil _ _))
   exact ⟨⟨c.obj, c.src ++ [0], c.tgt, c.idn, c.comp⟩, ownP g43 gT gI gC rr, by simp [Cat.cells, ownP], ⟨by simp; omega, n2, n3, n4, n5, n6⟩, (KIn.own (c := ⟨c.obj, c.src ++ [0], c.tgt, c.idn, c.comp⟩) at43 (by omega) aT bT aI bI aC bC hR').keep (.of_le (.refl _)) (by omega), hst, hs⟩
  try simp only [sps] at h38
  refine .seq (fun K11 hK11 => .region (.q rfl (.cmp rfl rfl rfl) (.mv rfl (.nil (hK11 _ _ ?_)))))
  refine .cond rfl (fun h45 => ?_) (fun h45 => ?_)
  ·
   try simp only [sps] at h45
   refine .seq (fun K12 hK12 => .region (.q rfl (.fieldAddr fo_27_3_B rfl) ?_))
   refine .q rfl (.load on_24_B rfl (by first | assumption | exact Mem.of_get at1002 3 _ rfl)) ?_
   refine .q rfl (.len sl_24_A rfl) (.q rfl (.cmp rfl rfl rfl) (.nil (hK12 _ _ ?_)))
   refine .cond rfl (fun h50 => ?_) (fun h50 => ?_)
   ·
    try simp only [sps] at h50
    refine .regionDB mo_B (.q 0 (.q 1 (.q 2 (.q 3 (.q 4 (.c 5 1 (.q 6 (.c 7 0 (.done))))))))) (by kernel_rfl) (GHeap.le_erase H16 gS) ?_
    have hbl := GHeap.le_erase H16 gS
    have a3B := GHeap.get_erase_of (g := gS) at1002 (by omega)
    have aIB := GHeap.get_erase_of (g := gS) aI (by omega)
    refine .qB rfl hbl (.fieldAddr fo_27_3_B rfl) (.qB rfl hbl (.load on_24_B rfl (Mem.of_get a3B 3 _ rfl)) (.qB rfl hbl (.move rfl) (.qB rfl hbl (.move rfl) ?_)))
    refine .qB rfl hbl (.add rfl rfl rfl (by omega) (by omega)) ?_
    refine .call1 rfl rfl rfl rfl rfl @Try.call48 rfl (l01Next_c) ?_
    rintro _ H56 ⟨k56, rfl, ka56, kb56, kc56, st56, hs⟩
    replace hbl := hbl.erase_st st56
    refine ⟨hbl, ?_⟩
    replace hst := hst.sA st56
    replace rk0 := rk0.sA st56
    replace at4 := st56.s at4 ne_g4_gS.ne
    replace aF := st56.s aF ne_gF_gS.ne
    replace aT := st56.s aT ne_gT_gS.ne
    replace aI := st56.s aI ne_gI_gS.ne
    replace aC := st56.s aC ne_gC_gS.ne
    replace at1002 := st56.s at1002 ne_g3_gS.ne
    refine .qB rfl hbl (.idxN (j := 0) sl_24_A (SlA.of_row aIB (by first | rfl | (simp; done) | (simp <;> omega))) rfl rfl (by omega)) ?_
    refine .r0 rfl rfl rfl (.storeI rfl sz_2_Ch rfl rfl (by assumption) (by first | omega | (simp <;> omega))) ?_
    rintro _ H13007 ⟨rfl, st13007, at13007⟩
    replace hst := hst.sA st13007
    replace rk0 := rk0.sA st13007
    replace hs := hs.sA st13007
    have ne_g4_gI : NE g4 gI := .a
    replace at4 := st13007.s at4 ne_g4_gI.ne
    replace aF := st13007.s aF
    replace aT := st13007.s aT
    replace aC := st13007.s aC
    replace at1002 := st13007.s at1002 (Ne.symm ne_gI_g3.ne)
    rw [Nat.zero_add] at at13007
    refine .done ?_
    refine hK5 _ _ (.seq (fun K13 hK13 => .region ?_))
    refine .q rfl (.loadM ag_27_D rfl ⟨rfl, Mem.of_get at1002⟩) ?_
    refine .r0 rfl rfl (.fillA rfl sz_27_D rfl rfl rfl rfl) ?_
    rintro _ H22001x3 ⟨rfl, st22001x3, at22001x3⟩
    replace hst := hst.sA st22001x3
    replace hs := hs.sA st22001x3
    have ne_gF_g4 : NE gF g4 := .a
    replace aF := st22001x3.s aF ne_gF_g4.ne
    have ne_gT_g4 : NE gT g4 := .a
    replace aT := st22001x3.s aT ne_gT_g4.ne
    have ne_gC_g4 : NE gC g4 := .a
    replace aC := st22001x3.s aC ne_gC_g4.ne
    replace at13007 := st22001x3.s at13007 (Ne.symm ne_g4_gI.ne)
    refine .nil (hK13 _ _ ?_)
    refine .ret ?_
    refine hret _ _ ?_
    refine ⟨_, _, _, _, rfl, ag_27_D, (by rfl), (Mem.of_get at22001x3), ?_⟩
    have hR' := (hRR.st rk0 offA).st st22001x3 (.cons (hRR.lowNe (by omega)) (.nil _ _))
    exact ⟨⟨c.obj, c.src, c.tgt, c.idn.set 0 k56, c.comp⟩, ownP gF gT gI gC rr, by simp [Cat.cells, ownP], ⟨n1, n2, by rw [List.length_set]; exact n3, n4, n5, n6⟩, (KIn.own (c := ⟨c.obj, c.src, c.tgt, c.idn.set 0 k56, c.comp⟩) aF bF aT bT at13007 bI aC bC hR').keep (.of_le (.refl _)) (by omega), hst, hs⟩
   try simp only [sps] at h50
   refine .skip ?_
   refine hK5 _ _ (.seq (fun K14 hK14 => .region ?_))
   refine .q rfl (.loadM ag_27_D rfl ⟨rfl, Mem.of_get at1002⟩) ?_
   refine .r0 rfl rfl (.fillA rfl sz_27_D rfl rfl rfl rfl) ?_
   rintro _ H22001x4 ⟨rfl, st22001x4, at22001x4⟩
   replace hst := hst.sA st22001x4
   replace hs := hs.sA st22001x4
   have ne_gF_g4 : NE gF g4 := .a
   replace aF := st22001x4.s aF ne_gF_g4.ne
   have ne_gT_g4 : NE gT g4 := .a
   replace aT := st22001x4.s aT ne_gT_g4.ne
   have ne_gI_g4 : NE gI g4 := .a
   replace aI := st22001x4.s aI ne_gI_g4.ne
   have ne_gC_g4 : NE gC g4 := .a
   replace aC := st22001x4.s aC ne_gC_g4.ne
   refine .nil (hK14 _ _ ?_)
   refine .ret ?_
   refine hret _ _ ?_
   refine ⟨_, _, _, _, rfl, ag_27_D, (by rfl), (Mem.of_get at22001x4), ?_⟩
   have hR' := (hRR.st rk0 offA).st st22001x4 (.cons (hRR.lowNe (by omega)) (.nil _ _))
   exact ⟨c, ownP gF gT gI gC rr, rfl, hsm, (KIn.own aF bF aT bT aI bI aC bC hR').keep (.of_le (.refl _)) (by omega), hst, hs⟩
  try simp only [sps] at h45
  refine .seq (fun K15 hK15 => .seq (fun K16 hK16 => .region (.q rfl (.cmp rfl rfl rfl) (.mv rfl (.nil (hK16 _ _ ?_))))))
  refine .cond rfl (fun h58 => ?_) (fun h58 => ?_)
  ·
   try simp only [sps] at h58
   refine .skip ?_
   refine hK15 _ _ ?_
   refine .cond rfl (fun h58 => ?_) (fun h58 => ?_)
   ·
    try simp only [sps] at h58
    refine .seq (fun K17 hK17 => .region (.mv rfl (.q rfl (.cmp rfl rfl rfl) (.nil (hK17 _ _ ?_)))))
    refine .cond rfl (fun h63 => ?_) (fun h63 => ?_)
    ·
     try simp only [sps] at h63
     refine .regionDB mo_B (.q 0 (.q 1 (.q 2 (.q 3 (.q 4 (.q 5 (.q 6 (.q 8 (.q 9 (.q 10 (.c 7 1 (.c 11 1 (.q 12 (.q 13 (.c 14 0 (.done)))))))))))))))) (by kernel_rfl) (GHeap.le_erase H16 gS) ?_
     have hbl := GHeap.le_erase H16 gS
     have a3B := GHeap.get_erase_of (g := gS) at1002 (by omega)
     have aCB := GHeap.get_erase_of (g := gS) aC (by omega)
     obtain ⟨gi, hgi, hbi, hati⟩ := (hRR.st rk0 offA).row k14.toNat (by omega)
     have atiB := GHeap.get_erase_of (g := gS) hati (by omega)
     have cC := slsL_cell aCB (i := k14.toNat) (by omega)
     rw [hgi] at cC
     have m1 : gF ≠ gi := fun e => v8.r1 k14.toNat (by omega) (by rw [hgi, e])
     have m2 : gT ≠ gi := fun e => v8.r2 k14.toNat (by omega) (by rw [hgi, e])
     have m3 : gI ≠ gi := fun e => v8.r3 k14.toNat (by omega) (by rw [hgi, e])
     have m4 := row_ne aC hati rfl
     have hl9 := a9 k14.toNat (by omega)
     refine .qB rfl hbl (.fieldAddr fo_27_4_B rfl) (.qB rfl hbl (.load on_25_B rfl (Mem.of_get a3B 4 _ rfl)) (.qB rfl hbl (.move rfl) ?_))
     refine .qB rfl hbl (.idx1 sl_25_B (SlA.of_row aCB (by first | rfl | (simp; done) | (simp <;> omega))) rfl rfl (by omega) (by omega)) ?_
     refine .qB rfl hbl (.load on_24_B rfl cC) (.qB rfl hbl (.move rfl) (.qB rfl hbl (.move rfl) (.qB rfl hbl (.move rfl) (.qB rfl hbl (.move rfl) ?_))))
     refine .qB rfl hbl (.add rfl rfl rfl (by omega) (by omega)) ?_
     refine .call1 rfl rfl rfl rfl rfl @Try.call48 rfl (l01Next_c) ?_
     rintro _ H71 ⟨k71, rfl, ka71, kb71, kc71, st71, hs⟩
     replace hbl := hbl.erase_st st71
     refine ⟨hbl, ?_⟩
     replace hst := hst.sA st71
     replace rk0 := rk0.sA st71
     replace at4 := st71.s at4 ne_g4_gS.ne
     replace aF := st71.s aF ne_gF_gS.ne
     replace aT := st71.s aT ne_gT_gS.ne
     replace aI := st71.s aI ne_gI_gS.ne
     replace aC := st71.s aC ne_gC_gS.ne
     replace at1002 := st71.s at1002 ne_g3_gS.ne
     have ne_gi_gS : NE gi gS := .a
     replace hati := st71.s hati ne_gi_gS.ne
     refine .call1 rfl rfl rfl rfl rfl @Try.call48 rfl (l01Next_c) ?_
     rintro _ H75 ⟨k75, rfl, ka75, kb75, kc75, st75, hs⟩
     replace hbl := hbl.erase_st st75
     refine ⟨hbl, ?_⟩
     replace hst := hst.sA st75
     replace rk0 := rk0.sA st75
     replace at4 := st75.s at4 ne_g4_gS.ne
     replace aF := st75.s aF ne_gF_gS.ne
     replace aT := st75.s aT ne_gT_gS.ne
     replace aI := st75.s aI ne_gI_gS.ne
     replace aC := st75.s aC ne_gC_gS.ne
     replace at1002 := st75.s at1002 ne_g3_gS.ne
     replace hati := st75.s hati ne_gi_gS.ne
     refine .qB rfl hbl (.sub rfl rfl rfl (by omega) (by omega)) ?_
     refine .qB rfl hbl (.idx1 sl_24_A (SlA.of_row atiB (by first | rfl | (simp; done) | (simp <;> omega))) rfl rfl (by omega) (by omega)) ?_
     refine .r0 rfl rfl rfl (.storeI rfl sz_2_Ch rfl rfl (by assumption) (by first | omega | (simp <;> omega))) ?_
     rintro _ H18014 ⟨rfl, st18014, at18014⟩
     replace hst := hst.sA st18014
     replace hs := hs.sA st18014
     have ne_g4_gi : NE g4 gi := .a
     replace at4 := st18014.s at4 ne_g4_gi.ne
     have ne_gF_gi : NE gF gi := .a
     replace aF := st18014.s aF ne_gF_gi.ne
     have ne_gT_gi : NE gT gi := .a
     replace aT := st18014.s aT ne_gT_gi.ne
     have ne_gI_gi : NE gI gi := .a
     replace aI := st18014.s aI ne_gI_gi.ne
     have ne_gC_gi : NE gC gi := .a
     replace aC := st18014.s aC ne_gC_gi.ne
     have ne_g3_gi : NE g3 gi := .a
     replace at1002 := st18014.s at1002 ne_g3_gi.ne
     rw [Nat.zero_add] at at18014
     have hB18 := bend_set (hRR.st rk0 offA) st18014 (by omega) hgi at18014 (by rw [List.length_set])
     refine .done ?_
     refine hK5 _ _ (.seq (fun K18 hK18 => .region ?_))
     refine .q rfl (.loadM ag_27_D rfl ⟨rfl, Mem.of_get at1002⟩) ?_
     refine .r0 rfl rfl (.fillA rfl sz_27_D rfl rfl rfl rfl) ?_
     rintro _ H22001x5 ⟨rfl, st22001x5, at22001x5⟩
     replace hst := hst.sA st22001x5
     replace hs := hs.sA st22001x5
     have ne_gF_g4 : NE gF g4 := .a
     replace aF := st22001x5.s aF ne_gF_g4.ne
     have ne_gT_g4 : NE gT g4 := .a
     replace aT := st22001x5.s aT ne_gT_g4.ne
     have ne_gI_g4 : NE gI g4 := .a
     replace aI := st22001x5.s aI ne_gI_g4.ne
     have ne_gC_g4 : NE gC g4 := .a
     replace aC := st22001x5.s aC ne_gC_g4.ne
     refine .nil (hK18 _ _ ?_)
     refine .ret ?_
     refine hret _ _ ?_
     refine ⟨_, _, _, _, rfl, ag_27_D, (by rfl), (Mem.of_get at22001x5), ?_⟩
     obtain ⟨T, hT1, hT2, hT3, hT4⟩ := hB18
     have hR' := hT4.st st22001x5 (.cons (hT4.lowNe (by omega)) (.nil _ _))
     rw [← hT1] at aC
     exact ⟨⟨c.obj, c.src, c.tgt, c.idn, T⟩, ownP gF gT gI gC rr, by simp [Cat.cells, ownP, hT2], ⟨n1, n2, n3, (by rw [hT2]; exact n4), fun i => Nat.le_trans (Nat.le_of_eq (hT3 i)) (n5 i), n6⟩, (KIn.own (c := ⟨c.obj, c.src, c.tgt, c.idn, T⟩) aF bF aT bT aI bI aC bC hR').keep (.of_le (.refl _)) (by omega), hst, hs⟩
    try simp only [sps] at h63
    refine .skip ?_
    refine hK5 _ _ (.seq (fun K19 hK19 => .region ?_))
    refine .q rfl (.loadM ag_27_D rfl ⟨rfl, Mem.of_get at1002⟩) ?_
    refine .r0 rfl rfl (.fillA rfl sz_27_D rfl rfl rfl rfl) ?_
    rintro _ H22001x6 ⟨rfl, st22001x6, at22001x6⟩
    replace hst := hst.sA st22001x6
    replace hs := hs.sA st22001x6
    have ne_gF_g4 : NE gF g4 := .a
    replace aF := st22001x6.s aF ne_gF_g4.ne
    have ne_gT_g4 : NE gT g4 := .a
    replace aT := st22001x6.s aT ne_gT_g4.ne
    have ne_gI_g4 : NE gI g4 := .a
    replace aI := st22001x6.s aI ne_gI_g4.ne
    have ne_gC_g4 : NE gC g4 := .a
    replace aC := st22001x6.s aC ne_gC_g4.ne
    refine .nil (hK19 _ _ ?_)
    refine .ret ?_
    refine hret _ _ ?_
    refine ⟨_, _, _, _, rfl, ag_27_D, (by rfl), (Mem.of_get at22001x6), ?_⟩
    have hR' := (hRR.st rk0 offA).st st22001x6 (.cons (hRR.lowNe (by omega)) (.nil _ _))
    exact ⟨c, ownP gF gT gI gC rr, rfl, hsm, (KIn.own aF bF aT bT aI bI aC bC hR').keep (.of_le (.refl _)) (by omega), hst, hs⟩
   simp only [sps] at h58; omega
  try simp only [sps] at h58
  refine .seq (fun K20 hK20 => .region (.q rfl (.cmp rfl rfl rfl) (.mv rfl (.nil (hK20 _ _ ?_)))))
  refine .cond rfl (fun h58 => ?_) (fun h58 => ?_)
  ·
   try simp only [sps] at h58
   refine .skip ?_
   refine hK15 _ _ ?_
   refine .cond rfl (fun h58 => ?_) (fun h58 => ?_)
   ·
    try simp only [sps] at h58
    refine .seq (fun K21 hK21 => .region (.mv rfl (.q rfl (.cmp rfl rfl rfl) (.nil (hK21 _ _ ?_)))))
    refine .cond rfl (fun h63 => ?_) (fun h63 => ?_)
    ·
     try simp only [sps] at h63
     refine .regionDB mo_B (.q 0 (.q 1 (.q 2 (.q 3 (.q 4 (.q 5 (.q 6 (.q 8 (.q 9 (.q 10 (.c 7 1 (.c 11 1 (.q 12 (.q 13 (.c 14 0 (.done)))))))))))))))) (by kernel_rfl) (GHeap.le_erase H16 gS) ?_
     have hbl := GHeap.le_erase H16 gS
     have a3B := GHeap.get_erase_of (g := gS) at1002 (by omega)
     have aCB := GHeap.get_erase_of (g := gS) aC (by omega)
     obtain ⟨gi, hgi, hbi, hati⟩ := (hRR.st rk0 offA).row k14.toNat (by omega)
     have atiB := GHeap.get_erase_of (g := gS) hati (by omega)
     have cC := slsL_cell aCB (i := k14.toNat) (by omega)
     rw [hgi] at cC
     have m1 : gF ≠ gi := fun e => v8.r1 k14.toNat (by omega) (by rw [hgi, e])
     have m2 : gT ≠ gi := fun e => v8.r2 k14.toNat (by omega) (by rw [hgi, e])
     have m3 : gI ≠ gi := fun e => v8.r3 k14.toNat (by omega) (by rw [hgi, e])
     have m4 := row_ne aC hati rfl
     have hl9 := a9 k14.toNat (by omega)
     refine .qB rfl hbl (.fieldAddr fo_27_4_B rfl) (.qB rfl hbl (.load on_25_B rfl (Mem.of_get a3B 4 _ rfl)) (.qB rfl hbl (.move rfl) ?_))
     refine .qB rfl hbl (.idx1 sl_25_B (SlA.of_row aCB (by first | rfl | (simp; done) | (simp <;> omega))) rfl rfl (by omega) (by omega)) ?_
     refine .qB rfl hbl (.load on_24_B rfl cC) (.qB rfl hbl (.move rfl) (.qB rfl hbl (.move rfl) (.qB rfl hbl (.move rfl) (.qB rfl hbl (.move rfl) ?_))))
     refine .qB rfl hbl (.add rfl rfl rfl (by omega) (by omega)) ?_
     refine .call1 rfl rfl rfl rfl rfl @Try.call48 rfl (l01Next_c) ?_
     rintro _ H71x2 ⟨k71x2, rfl, ka71x2, kb71x2, kc71x2, st71x2, hs⟩
     replace hbl := hbl.erase_st st71x2
     refine ⟨hbl, ?_⟩
     replace hst := hst.sA st71x2
     replace rk0 := rk0.sA st71x2
     replace at4 := st71x2.s at4 ne_g4_gS.ne
     replace aF := st71x2.s aF ne_gF_gS.ne
     replace aT := st71x2.s aT ne_gT_gS.ne
     replace aI := st71x2.s aI ne_gI_gS.ne
     replace aC := st71x2.s aC ne_gC_gS.ne
     replace at1002 := st71x2.s at1002 ne_g3_gS.ne
     have ne_gi_gS : NE gi gS := .a
     replace hati := st71x2.s hati ne_gi_gS.ne
     refine .call1 rfl rfl rfl rfl rfl @Try.call48 rfl (l01Next_c) ?_
     rintro _ H75x2 ⟨k75x2, rfl, ka75x2, kb75x2, kc75x2, st75x2, hs⟩
     replace hbl := hbl.erase_st st75x2
     refine ⟨hbl, ?_⟩
     replace hst := hst.sA st75x2
     replace rk0 := rk0.sA st75x2
     replace at4 := st75x2.s at4 ne_g4_gS.ne
     replace aF := st75x2.s aF ne_gF_gS.ne
     replace aT := st75x2.s aT ne_gT_gS.ne
     replace aI := st75x2.s aI ne_gI_gS.ne
     replace aC := st75x2.s aC ne_gC_gS.ne
     replace at1002 := st75x2.s at1002 ne_g3_gS.ne
     replace hati := st75x2.s hati ne_gi_gS.ne
     refine .qB rfl hbl (.sub rfl rfl rfl (by omega) (by omega)) ?_
     refine .qB rfl hbl (.idx1 sl_24_A (SlA.of_row atiB (by first | rfl | (simp; done) | (simp <;> omega))) rfl rfl (by omega) (by omega)) ?_
     refine .r0 rfl rfl rfl (.storeI rfl sz_2_Ch rfl rfl (by assumption) (by first | omega | (simp <;> omega))) ?_
     rintro _ H18014x2 ⟨rfl, st18014x2, at18014x2⟩
     replace hst := hst.sA st18014x2
     replace hs := hs.sA st18014x2
     have ne_g4_gi : NE g4 gi := .a
     replace at4 := st18014x2.s at4 ne_g4_gi.ne
     have ne_gF_gi : NE gF gi := .a
     replace aF := st18014x2.s aF ne_gF_gi.ne
     have ne_gT_gi : NE gT gi := .a
     replace aT := st18014x2.s aT ne_gT_gi.ne
     have ne_gI_gi : NE gI gi := .a
     replace aI := st18014x2.s aI ne_gI_gi.ne
     have ne_gC_gi : NE gC gi := .a
     replace aC := st18014x2.s aC ne_gC_gi.ne
     have ne_g3_gi : NE g3 gi := .a
     replace at1002 := st18014x2.s at1002 ne_g3_gi.ne
     rw [Nat.zero_add] at at18014x2
     have hB18 := bend_set (hRR.st rk0 offA) st18014x2 (by omega) hgi at18014x2 (by rw [List.length_set])
     refine .done ?_
     refine hK5 _ _ (.seq (fun K22 hK22 => .region ?_))
     refine .q rfl (.loadM ag_27_D rfl ⟨rfl, Mem.of_get at1002⟩) ?_
     refine .r0 rfl rfl (.fillA rfl sz_27_D rfl rfl rfl rfl) ?_
     rintro _ H22001x7 ⟨rfl, st22001x7, at22001x7⟩
     replace hst := hst.sA st22001x7
     replace hs := hs.sA st22001x7
     have ne_gF_g4 : NE gF g4 := .a
     replace aF := st22001x7.s aF ne_gF_g4.ne
     have ne_gT_g4 : NE gT g4 := .a
     replace aT := st22001x7.s aT ne_gT_g4.ne
     have ne_gI_g4 : NE gI g4 := .a
     replace aI := st22001x7.s aI ne_gI_g4.ne
     have ne_gC_g4 : NE gC g4 := .a
     replace aC := st22001x7.s aC ne_gC_g4.ne
     refine .nil (hK22 _ _ ?_)
     refine .ret ?_
     refine hret _ _ ?_
     refine ⟨_, _, _, _, rfl, ag_27_D, (by rfl), (Mem.of_get at22001x7), ?_⟩
     obtain ⟨T, hT1, hT2, hT3, hT4⟩ := hB18
     have hR' := hT4.st st22001x7 (.cons (hT4.lowNe (by omega)) (.nil _ _))
     rw [← hT1] at aC
     exact ⟨⟨c.obj, c.src, c.tgt, c.idn, T⟩, ownP gF gT gI gC rr, by simp [Cat.cells, ownP, hT2], ⟨n1, n2, n3, (by rw [hT2]; exact n4), fun i => Nat.le_trans (Nat.le_of_eq (hT3 i)) (n5 i), n6⟩, (KIn.own (c := ⟨c.obj, c.src, c.tgt, c.idn, T⟩) aF bF aT bT aI bI aC bC hR').keep (.of_le (.refl _)) (by omega), hst, hs⟩
    try simp only [sps] at h63
    refine .skip ?_
    refine hK5 _ _ (.seq (fun K23 hK23 => .region ?_))
    refine .q rfl (.loadM ag_27_D rfl ⟨rfl, Mem.of_get at1002⟩) ?_
    refine .r0 rfl rfl (.fillA rfl sz_27_D rfl rfl rfl rfl) ?_
    rintro _ H22001x8 ⟨rfl, st22001x8, at22001x8⟩
    replace hst := hst.sA st22001x8
    replace hs := hs.sA st22001x8
    have ne_gF_g4 : NE gF g4 := .a
    replace aF := st22001x8.s aF ne_gF_g4.ne
    have ne_gT_g4 : NE gT g4 := .a
    replace aT := st22001x8.s aT ne_gT_g4.ne
    have ne_gI_g4 : NE gI g4 := .a
    replace aI := st22001x8.s aI ne_gI_g4.ne
    have ne_gC_g4 : NE gC g4 := .a
    replace aC := st22001x8.s aC ne_gC_g4.ne
    refine .nil (hK23 _ _ ?_)
    refine .ret ?_
    refine hret _ _ ?_
    refine ⟨_, _, _, _, rfl, ag_27_D, (by rfl), (Mem.of_get at22001x8), ?_⟩
    have hR' := (hRR.st rk0 offA).st st22001x8 (.cons (hRR.lowNe (by omega)) (.nil _ _))
    exact ⟨c, ownP gF gT gI gC rr, rfl, hsm, (KIn.own aF bF aT bT aI bI aC bC hR').keep (.of_le (.refl _)) (by omega), hst, hs⟩
   simp only [sps] at h58; omega
  try simp only [sps] at h58
  refine .region (.q rfl (.cmp rfl rfl rfl) (.mv rfl (.nil (hK15 _ _ ?_))))
  refine .cond rfl (fun h58 => ?_) (fun h58 => ?_)
  ·
   try simp only [sps] at h58
   refine .seq (fun K24 hK24 => .region (.mv rfl (.q rfl (.cmp rfl rfl rfl) (.nil (hK24 _ _ ?_)))))
   refine .cond rfl (fun h63 => ?_) (fun h63 => ?_)
   ·
    try simp only [sps] at h63
    refine .regionDB mo_B (.q 0 (.q 1 (.q 2 (.q 3 (.q 4 (.q 5 (.q 6 (.q 8 (.q 9 (.q 10 (.c 7 1 (.c 11 1 (.q 12 (.q 13 (.c 14 0 (.done)))))))))))))))) (by kernel_rfl) (GHeap.le_erase H16 gS) ?_
    have hbl := GHeap.le_erase H16 gS
    have a3B := GHeap.get_erase_of (g := gS) at1002 (by omega)
    have aCB := GHeap.get_erase_of (g := gS) aC (by omega)
    obtain ⟨gi, hgi, hbi, hati⟩ := (hRR.st rk0 offA).row k14.toNat (by omega)
    have atiB := GHeap.get_erase_of (g := gS) hati (by omega)
    have cC := slsL_cell aCB (i := k14.toNat) (by omega)
    rw [hgi] at cC
    have m1 : gF ≠ gi := fun e => v8.r1 k14.toNat (by omega) (by rw [hgi, e])
    have m2 : gT ≠ gi := fun e => v8.r2 k14.toNat (by omega) (by rw [hgi, e])
    have m3 : gI ≠ gi := fun e => v8.r3 k14.toNat (by omega) (by rw [hgi, e])
    have m4 := row_ne aC hati rfl
    have hl9 := a9 k14.toNat (by omega)
    refine .qB rfl hbl (.fieldAddr fo_27_4_B rfl) (.qB rfl hbl (.load on_25_B rfl (Mem.of_get a3B 4 _ rfl)) (.qB rfl hbl (.move rfl) ?_))
    refine .qB rfl hbl (.idx1 sl_25_B (SlA.of_row aCB (by first | rfl | (simp; done) | (simp <;> omega))) rfl rfl (by omega) (by omega)) ?_
    refine .qB rfl hbl (.load on_24_B rfl cC) (.qB rfl hbl (.move rfl) (.qB rfl hbl (.move rfl) (.qB rfl hbl (.move rfl) (.qB rfl hbl (.move rfl) ?_))))
    refine .qB rfl hbl (.add rfl rfl rfl (by omega) (by omega)) ?_
    refine .call1 rfl rfl rfl rfl rfl @Try.call48 rfl (l01Next_c) ?_
    rintro _ H71x3 ⟨k71x3, rfl, ka71x3, kb71x3, kc71x3, st71x3, hs⟩
    replace hbl := hbl.erase_st st71x3
    refine ⟨hbl, ?_⟩
    replace hst := hst.sA st71x3
    replace rk0 := rk0.sA st71x3
    replace at4 := st71x3.s at4 ne_g4_gS.ne
    replace aF := st71x3.s aF ne_gF_gS.ne
    replace aT := st71x3.s aT ne_gT_gS.ne
    replace aI := st71x3.s aI ne_gI_gS.ne
    replace aC := st71x3.s aC ne_gC_gS.ne
    replace at1002 := st71x3.s at1002 ne_g3_gS.ne
    have ne_gi_gS : NE gi gS := .a
    replace hati := st71x3.s hati ne_gi_gS.ne
    refine .call1 rfl rfl rfl rfl rfl @Try.call48 rfl (l01Next_c) ?_
    rintro _ H75x3 ⟨k75x3, rfl, ka75x3, kb75x3, kc75x3, st75x3, hs⟩
    replace hbl := hbl.erase_st st75x3
    refine ⟨hbl, ?_⟩
    replace hst := hst.sA st75x3
    replace rk0 := rk0.sA st75x3
    replace at4 := st75x3.s at4 ne_g4_gS.ne
    replace aF := st75x3.s aF ne_gF_gS.ne
    replace aT := st75x3.s aT ne_gT_gS.ne
    replace aI := st75x3.s aI ne_gI_gS.ne
    replace aC := st75x3.s aC ne_gC_gS.ne
    replace at1002 := st75x3.s at1002 ne_g3_gS.ne
    replace hati := st75x3.s hati ne_gi_gS.ne
    refine .qB rfl hbl (.sub rfl rfl rfl (by omega) (by omega)) ?_
    refine .qB rfl hbl (.idx1 sl_24_A (SlA.of_row atiB (by first | rfl | (simp; done) | (simp <;> omega))) rfl rfl (by omega) (by omega)) ?_
    refine .r0 rfl rfl rfl (.storeI rfl sz_2_Ch rfl rfl (by assumption) (by first | omega | (simp <;> omega))) ?_
    rintro _ H18014x3 ⟨rfl, st18014x3, at18014x3⟩
    replace hst := hst.sA st18014x3
    replace hs := hs.sA st18014x3
    have ne_g4_gi : NE g4 gi := .a
    replace at4 := st18014x3.s at4 ne_g4_gi.ne
    have ne_gF_gi : NE gF gi := .a
    replace aF := st18014x3.s aF ne_gF_gi.ne
    have ne_gT_gi : NE gT gi := .a
    replace aT := st18014x3.s aT ne_gT_gi.ne
    have ne_gI_gi : NE gI gi := .a
    replace aI := st18014x3.s aI ne_gI_gi.ne
    have ne_gC_gi : NE gC gi := .a
    replace aC := st18014x3.s aC ne_gC_gi.ne
    have ne_g3_gi : NE g3 gi := .a
    replace at1002 := st18014x3.s at1002 ne_g3_gi.ne
    rw [Nat.zero_add] at at18014x3
    have hB18 := bend_set (hRR.st rk0 offA) st18014x3 (by omega) hgi at18014x3 (by rw [List.length_set])
    refine .done ?_
    refine hK5 _ _ (.seq (fun K25 hK25 => .region ?_))
    refine .q rfl (.loadM ag_27_D rfl ⟨rfl, Mem.of_get at1002⟩) ?_
    refine .r0 rfl rfl (.fillA rfl sz_27_D rfl rfl rfl rfl) ?_
    rintro _ H22001x9 ⟨rfl, st22001x9, at22001x9⟩
    replace hst := hst.sA st22001x9
    replace hs := hs.sA st22001x9
    have ne_gF_g4 : NE gF g4 := .a
    replace aF := st22001x9.s aF ne_gF_g4.ne
    have ne_gT_g4 : NE gT g4 := .a
    replace aT := st22001x9.s aT ne_gT_g4.ne
    have ne_gI_g4 : NE gI g4 := .a
    replace aI := st22001x9.s aI ne_gI_g4.ne
    have ne_gC_g4 : NE gC g4 := .a
    replace aC := st22001x9.s aC ne_gC_g4.ne
    refine .nil (hK25 _ _ ?_)
    refine .ret ?_
    refine hret _ _ ?_
    refine ⟨_, _, _, _, rfl, ag_27_D, (by rfl), (Mem.of_get at22001x9), ?_⟩
    obtain ⟨T, hT1, hT2, hT3, hT4⟩ := hB18
    have hR' := hT4.st st22001x9 (.cons (hT4.lowNe (by omega)) (.nil _ _))
    rw [← hT1] at aC
    exact ⟨⟨c.obj, c.src, c.tgt, c.idn, T⟩, ownP gF gT gI gC rr, by simp [Cat.cells, ownP, hT2], ⟨n1, n2, n3, (by rw [hT2]; exact n4), fun i => Nat.le_trans (Nat.le_of_eq (hT3 i)) (n5 i), n6⟩, (KIn.own (c := ⟨c.obj, c.src, c.tgt, c.idn, T⟩) aF bF aT bT aI bI aC bC hR').keep (.of_le (.refl _)) (by omega), hst, hs⟩
   try simp only [sps] at h63
   refine .skip ?_
   refine hK5 _ _ (.seq (fun K26 hK26 => .region ?_))
   refine .q rfl (.loadM ag_27_D rfl ⟨rfl, Mem.of_get at1002⟩) ?_
   refine .r0 rfl rfl (.fillA rfl sz_27_D rfl rfl rfl rfl) ?_
   rintro _ H22001x10 ⟨rfl, st22001x10, at22001x10⟩
   replace hst := hst.sA st22001x10
   replace hs := hs.sA st22001x10
   have ne_gF_g4 : NE gF g4 := .a
   replace aF := st22001x10.s aF ne_gF_g4.ne
   have ne_gT_g4 : NE gT g4 := .a
   replace aT := st22001x10.s aT ne_gT_g4.ne
   have ne_gI_g4 : NE gI g4 := .a
   replace aI := st22001x10.s aI ne_gI_g4.ne
   have ne_gC_g4 : NE gC g4 := .a
   replace aC := st22001x10.s aC ne_gC_g4.ne
   refine .nil (hK26 _ _ ?_)
   refine .ret ?_
   refine hret _ _ ?_
   refine ⟨_, _, _, _, rfl, ag_27_D, (by rfl), (Mem.of_get at22001x10), ?_⟩
   have hR' := (hRR.st rk0 offA).st st22001x10 (.cons (hRR.lowNe (by omega)) (.nil _ _))
   exact ⟨c, ownP gF gT gI gC rr, rfl, hsm, (KIn.own aF bF aT bT aI bI aC bC hR').keep (.of_le (.refl _)) (by omega), hst, hs⟩
  try simp only [sps] at h58
  refine .seq (fun K27 hK27 => .region (.q rfl (.cmp rfl rfl rfl) (.mv rfl (.nil (hK27 _ _ ?_)))))
  refine .cond rfl (fun h78 => ?_) (fun h78 => ?_)
  ·
   try simp only [sps] at h78
   refine .seq (fun K28 hK28 => .region (.mv rfl (.q rfl (.cmp rfl rfl rfl) (.nil (hK28 _ _ ?_)))))
   refine .cond rfl (fun h81 => ?_) (fun h81 => ?_)
   ·
    try simp only [sps] at h81
    refine .regionDB mo_B (.q 0 (.q 1 (.q 2 (.q 3 (.q 4 (.q 5 (.q 6 (.c 7 1 (.q 8 (.c 9 0 (.done))))))))))) (by kernel_rfl) (GHeap.le_erase H16 gS) ?_
    have hbl := GHeap.le_erase H16 gS
    have a3B := GHeap.get_erase_of (g := gS) at1002 (by omega)
    have aTB := GHeap.get_erase_of (g := gS) aT (by omega)
    refine .qB rfl hbl (.fieldAddr fo_27_2_B rfl) (.qB rfl hbl (.load on_24_B rfl (Mem.of_get a3B 2 _ rfl)) (.qB rfl hbl (.move rfl) (.qB rfl hbl (.move rfl) (.qB rfl hbl (.fieldAddr fo_27_0_B rfl) (.qB rfl hbl (.load on_2_A rfl (Mem.of_get a3B 0 _ rfl)) ?_)))))
    refine .qB rfl hbl (.add rfl rfl rfl (by omega) (by omega)) ?_
    refine .call1 rfl rfl rfl rfl rfl @Try.call48 rfl (l01Next_c) ?_
    rintro _ H89 ⟨k89, rfl, ka89, kb89, kc89, st89, hs⟩
    replace hbl := hbl.erase_st st89
    refine ⟨hbl, ?_⟩
    replace hst := hst.sA st89
    replace rk0 := rk0.sA st89
    replace at4 := st89.s at4 ne_g4_gS.ne
    replace aF := st89.s aF ne_gF_gS.ne
    replace aT := st89.s aT ne_gT_gS.ne
    replace aI := st89.s aI ne_gI_gS.ne
    replace aC := st89.s aC ne_gC_gS.ne
    replace at1002 := st89.s at1002 ne_g3_gS.ne
    refine .qB rfl hbl (.idx1 sl_24_A (SlA.of_row aTB (by first | rfl | (simp; done) | (simp <;> omega))) rfl rfl (by omega) (by omega)) ?_
    refine .r0 rfl rfl rfl (.storeI rfl sz_2_Ch rfl rfl (by assumption) (by first | omega | (simp <;> omega))) ?_
    rintro _ H21009 ⟨rfl, st21009, at21009⟩
    replace hst := hst.sA st21009
    replace rk0 := rk0.sA st21009
    replace hs := hs.sA st21009
    have ne_g4_gT : NE g4 gT := .a
    replace at4 := st21009.s at4 ne_g4_gT.ne
    replace aF := st21009.s aF
    replace aI := st21009.s aI
    replace aC := st21009.s aC
    replace at1002 := st21009.s at1002 (Ne.symm ne_gT_g3.ne)
    rw [Nat.zero_add] at at21009
    refine .done ?_
    refine hK5 _ _ (.seq (fun K29 hK29 => .region ?_))
    refine .q rfl (.loadM ag_27_D rfl ⟨rfl, Mem.of_get at1002⟩) ?_
    refine .r0 rfl rfl (.fillA rfl sz_27_D rfl rfl rfl rfl) ?_
    rintro _ H22001x11 ⟨rfl, st22001x11, at22001x11⟩
    replace hst := hst.sA st22001x11
    replace hs := hs.sA st22001x11
    have ne_gF_g4 : NE gF g4 := .a
    replace aF := st22001x11.s aF ne_gF_g4.ne
    have ne_gI_g4 : NE gI g4 := .a
    replace aI := st22001x11.s aI ne_gI_g4.ne
    have ne_gC_g4 : NE gC g4 := .a
    replace aC := st22001x11.s aC ne_gC_g4.ne
    replace at21009 := st22001x11.s at21009 (Ne.symm ne_g4_gT.ne)
    refine .nil (hK29 _ _ ?_)
    refine .ret ?_
    refine hret _ _ ?_
    refine ⟨_, _, _, _, rfl, ag_27_D, (by rfl), (Mem.of_get at22001x11), ?_⟩
    have hR' := (hRR.st rk0 offA).st st22001x11 (.cons (hRR.lowNe (by omega)) (.nil _ _))
    exact ⟨⟨c.obj, c.src, c.tgt.set k14.toNat k89, c.idn, c.comp⟩, ownP gF gT gI gC rr, by simp [Cat.cells, ownP], ⟨n1, by rw [List.length_set]; exact n2, n3, n4, n5, n6⟩, (KIn.own (c := ⟨c.obj, c.src, c.tgt.set k14.toNat k89, c.idn, c.comp⟩) aF bF at21009 bT aI bI aC bC hR').keep (.of_le (.refl _)) (by omega), hst, hs⟩
   try simp only [sps] at h81
   refine .skip ?_
   refine hK5 _ _ (.seq (fun K30 hK30 => .region ?_))
   refine .q rfl (.loadM ag_27_D rfl ⟨rfl, Mem.of_get at1002⟩) ?_
   refine .r0 rfl rfl (.fillA rfl sz_27_D rfl rfl rfl rfl) ?_
   rintro _ H22001x12 ⟨rfl, st22001x12, at22001x12⟩
   replace hst := hst.sA st22001x12
   replace hs := hs.sA st22001x12
   have ne_gF_g4 : NE gF g4 := .a
   replace aF := st22001x12.s aF ne_gF_g4.ne
   have ne_gT_g4 : NE gT g4 := .a
   replace aT := st22001x12.s aT ne_gT_g4.ne
   have ne_gI_g4 : NE gI g4 := .a
   replace aI := st22001x12.s aI ne_gI_g4.ne
   have ne_gC_g4 : NE gC g4 := .a
   replace aC := st22001x12.s aC ne_gC_g4.ne
   refine .nil (hK30 _ _ ?_)
   refine .ret ?_
   refine hret _ _ ?_
   refine ⟨_, _, _, _, rfl, ag_27_D, (by rfl), (Mem.of_get at22001x12), ?_⟩
   have hR' := (hRR.st rk0 offA).st st22001x12 (.cons (hRR.lowNe (by omega)) (.nil _ _))
   exact ⟨c, ownP gF gT gI gC rr, rfl, hsm, (KIn.own aF bF aT bT aI bI aC bC hR').keep (.of_le (.refl _)) (by omega), hst, hs⟩
  try simp only [sps] at h78
  refine .seq (fun K31 hK31 => .region (.mv rfl (.q rfl (.cmp rfl rfl rfl) (.nil (hK31 _ _ ?_)))))
  refine .cond rfl (fun h18 => ?_) (fun h18 => ?_)
  ·
   try simp only [sps] at h18
   refine .regionD mo_B (.q 0 (.q 1 (.q 2 (.q 3 (.q 4 (.q 5 (.q 6 (.q 7 (.q 8 (.q 9 (.c 10 0 (.done)))))))))))) (by kernel_rfl) ?_
   have hl9 := a9 k14.toNat (by omega)
   obtain ⟨gi, hgi, -, hati⟩ := (hRR.st rk0 offA).row k14.toNat (by omega)
   have cC := slsL_cell aC (i := k14.toNat) (by omega)
   rw [hgi] at cC
   refine .q rfl (.fieldAddr fo_27_4_B rfl) ?_
   refine .q rfl (.load on_25_B rfl (by first | assumption | exact Mem.of_get at1002 4 _ rfl)) ?_
   refine .mv rfl rfl (.q rfl (.fieldAddr fo_27_4_B rfl) ?_)
   refine .q rfl (.load on_25_B rfl (by first | assumption | exact Mem.of_get at1002 4 _ rfl)) ?_
   refine .mv rfl rfl ?_
   refine .q rfl (.idx1 sl_25_B (by first | exact (Intss.sl (by assumption)) | exact SlA.of_row aC (by first | rfl | (simp; done) | (simp <;> omega))) rfl rfl (by omega) (by omega)) ?_
   refine .q rfl (.load on_24_B rfl cC) ?_
   refine .q rfl (.slice (l := 1) (h := (c.comp.getD k14.toNat []).length) sl_24_A rfl hati ⟨_, rfl⟩ rfl (by omega) (by omega)) ?_
   refine .q rfl (.idx1 sl_25_B (by first | exact (Intss.sl (by assumption)) | exact SlA.of_row aC (by first | rfl | (simp; done) | (simp <;> omega))) rfl rfl (by omega) (by omega)) ?_
   refine .r0 rfl rfl rfl (.storeR rfl sz_24_Ch rfl rfl rfl (by assumption) (by first | exact Nat.le_of_ble_eq_true rfl | (simp; done) | (simp <;> omega))) ?_
   rintro _ H6010 ⟨rfl, st6010, at6010⟩
   replace hst := hst.sA st6010
   replace rk0 := rk0.sA st6010
   replace hs := hs.sA st6010
   have ne_g4_gC : NE g4 gC := .a
   replace at4 := st6010.s at4 ne_g4_gC.ne
   replace aF := st6010.s aF
   replace aT := st6010.s aT
   replace aI := st6010.s aI
   replace at1002 := st6010.s at1002 (Ne.symm ne_gC_g3.ne)
   refine .done ?_
   refine hK5 _ _ (.seq (fun K32 hK32 => .region ?_))
   refine .q rfl (.loadM ag_27_D rfl ⟨rfl, Mem.of_get at1002⟩) ?_
   refine .r0 rfl rfl (.fillA rfl sz_27_D rfl rfl rfl rfl) ?_
   rintro _ H22001x13 ⟨rfl, st22001x13, at22001x13⟩
   replace hst := hst.sA st22001x13
   replace hs := hs.sA st22001x13
   have ne_gF_g4 : NE gF g4 := .a
   replace aF := st22001x13.s aF ne_gF_g4.ne
   have ne_gT_g4 : NE gT g4 := .a
   replace aT := st22001x13.s aT ne_gT_g4.ne
   have ne_gI_g4 : NE gI g4 := .a
   replace aI := st22001x13.s aI ne_gI_g4.ne
   replace at6010 := st22001x13.s at6010 (Ne.symm ne_g4_gC.ne)
   refine .nil (hK32 _ _ ?_)
   refine .ret ?_
   refine hret _ _ ?_
   refine ⟨_, _, _, _, rfl, ag_27_D, (by rfl), (Mem.of_get at22001x13), ?_⟩
   have hR' := (hRR.st rk0 offA).st st22001x13 (.cons (hRR.lowNe (by omega)) (.nil _ _))
   obtain ⟨rr', T, hT1, hT2, hT3, hT4⟩ := bend_cut hR' (by omega) hgi rfl
   rw [Nat.zero_add, hT1] at at6010
   exact ⟨⟨c.obj, c.src, c.tgt, c.idn, T⟩, ownP gF gT gI gC rr', by simp [Cat.cells, ownP, hT2], ⟨n1, n2, n3, (by rw [hT2]; exact n4), hT3 _ n5, n6⟩, (KIn.parts (c := ⟨c.obj, c.src, c.tgt, c.idn, T⟩) aF bF aT bT aI bI at6010 bC hT4).keep (.of_le (.refl _)) (by omega), hst, hs⟩
  try simp only [sps] at h18
  refine .skip ?_
  refine hK5 _ _ (.seq (fun K33 hK33 => .region ?_))
  refine .q rfl (.loadM ag_27_D rfl ⟨rfl, Mem.of_get at1002⟩) ?_
  refine .r0 rfl rfl (.fillA rfl sz_27_D rfl rfl rfl rfl) ?_
  rintro _ H22001x14 ⟨rfl, st22001x14, at22001x14⟩
  replace hst := hst.sA st22001x14
  replace hs := hs.sA st22001x14
  have ne_gF_g4 : NE gF g4 := .a
  replace aF := st22001x14.s aF ne_gF_g4.ne
  have ne_gT_g4 : NE gT g4 := .a
  replace aT := st22001x14.s aT ne_gT_g4.ne
  have ne_gI_g4 : NE gI g4 := .a
  replace aI := st22001x14.s aI ne_gI_g4.ne
  have ne_gC_g4 : NE gC g4 := .a
  replace aC := st22001x14.s aC ne_gC_g4.ne
  refine .nil (hK33 _ _ ?_)
  refine .ret ?_
  refine hret _ _ ?_
  refine ⟨_, _, _, _, rfl, ag_27_D, (by rfl), (Mem.of_get at22001x14), ?_⟩
  have hR' := (hRR.st rk0 offA).st st22001x14 (.cons (hRR.lowNe (by omega)) (.nil _ _))
  exact ⟨c, ownP gF gT gI gC rr, rfl, hsm, (KIn.own aF bF aT bT aI bI aC bC hR').keep (.of_le (.refl _)) (by omega), hst, hs⟩
end Go.Proofs.Ytolfggcanbpknaa
namespace Go.Proofs.Ytolfggcanbpknaa
open Go Go.GL Go.RowKit Go.Proofs
set_option maxHeartbeats 8000000 in
theorem l02Draw_c {gS : Nat} {m n : Int} {H : GHeap} (hs : DSrc 90 H gS := by assumption) :
    GCalls Try.prog 49 [.pointer (some ⟨gS, 0, none⟩), .int .i64 m, .int .i64 n] H (DrawnK 90 gS H) := by
  have hlS := hs.lt
  refine GCalls.body (N := 19) (rs := [.cell 6 27]) Try.func49 rfl rfl rfl rfl (fun Qx hret hend => ?_)
  refine .fg [0, 1, 2] rfl ?_
  have hst := St.refl [gS] H
  refine .seq (fun K1 hK1 => .region ?_)
  refine .R rfl (.allocR rfl ze_27_Hj rfl) ?_
  rintro _ H6 ⟨g6, rfl, le6, ge6, at6⟩
  have nx_H6 := le6.1
  replace hst := hst.le le6
  have lt_at6 := GHeap.ltg at6
  refine .nil (hK1 _ _ (.seq (fun K2 hK2 => .region ?_)))
  have hs := hs.le le6
  refine .mv rfl (.mv rfl (.mv rfl ?_))
  refine .call rfl rfl rfl rfl @Try.call83 rfl (l02Some_c) ?_
  rintro _ H11 ⟨c11, p11, rfl, rc11, v11, st11, hs⟩
  have nx_H11 := st11.nx
  replace hst := hst.sA st11
  have ne_g6_gS : NE g6 gS := .a
  replace at6 := st11.s at6 ne_g6_gS.ne
  have bs_v11 := v11
  have lv_v11 : Keep H6.next H11 H11 := fun _ _ _ h => h
  refine .R rfl (.allocR rfl ze_27_Hj rfl) ?_
  rintro _ H7 ⟨g7, rfl, le7, ge7, at7⟩
  replace hst := hst.le le7
  replace hs := hs.le le7
  replace at6 := le7.2 _ _ at6
  replace lv_v11 := Keep.le lv_v11 le7
  refine .r0 rfl rfl (.fillA rfl sz_27_D rfl rfl rfl rfl) ?_
  rintro _ H1005 ⟨rfl, st1005, at1005⟩
  replace hst := hst.sA st1005
  replace hs := hs.sA st1005
  replace at6 := st1005.s at6
  replace lv_v11 := Keep.st lv_v11 st1005 (fun k hb hk => ⟨(by omega), trivial⟩)
  have lt_at1005 := GHeap.ltg at1005
  refine .nil (hK2 _ _ (.seq (fun K3 hK3 => .seq (fun K4 hK4 => .region (.mv rfl ?_)))))
  refine .call rfl rfl rfl rfl @Try.call48 rfl (l01Next_c) ?_
  rintro _ H13 ⟨k13, rfl, ka13, kb13, kc13, st13, hs⟩
  have nx_H13 := st13.nx
  replace hst := hst.sA st13
  replace at6 := st13.s at6 ne_g6_gS.ne
  replace at1005 := st13.s at1005
  replace lv_v11 := Keep.st lv_v11 st13 (fun k hb hk => ⟨(by omega), trivial⟩)
  replace v11 := bs_v11.keep lv_v11 (Nat.le_refl _)
  have i11 := v11.inn
  refine .q rfl (.cmp rfl rfl rfl) (.nil (hK4 _ _ ?_))
  refine .cond rfl (fun h14 => ?_) (fun h14 => ?_)
  ·
   try simp only [sps] at h14
   refine .seq (fun K5 hK5 => .region (.mv rfl ?_))
   refine .q rfl (.loadM ag_27_D rfl ⟨rfl, Mem.of_get at1005⟩) ?_
   refine .call rfl rfl rfl rfl @Try.call84 rfl (l02Bend_c (hin := i11) (hr := rc11)) ?_
   rintro _ H17 ⟨c17, p17, rfl, sm17, v17, st17, hs⟩
   replace hst := hst.sA st17
   replace at6 := st17.s at6 ne_g6_gS.ne
   clear i11
   have bs_v17 := v17
   have lv_v17 : Keep H13.next H17 H17 := fun _ _ _ h => h
   refine .r0 rfl rfl (.fillA rfl sz_27_D rfl rfl rfl rfl) ?_
   rintro _ H3003 ⟨rfl, st3003, at3003⟩
   replace hst := hst.sA st3003
   replace hs := hs.sA st3003
   replace lv_v17 := Keep.st lv_v17 st3003 (fun k hb hk => ⟨(by omega), trivial⟩)
   replace v17 := bs_v17.keep lv_v17 (Nat.le_refl _)
   refine .nil (hK5 _ _ ?_)
   refine .ret ?_
   refine hret _ _ ?_
   refine ⟨_, _, _, _, rfl, ag_27_D, (by rfl), (Mem.of_get at3003), ?_⟩
   exact ⟨c17, p17, rfl, sm17, v17.keep (.of_le (.refl _)) (by omega), hst, hs⟩
  try simp only [sps] at h14
  refine .skip ?_
  refine hK3 _ _ (.seq (fun K6 hK6 => .region ?_))
  refine .q rfl (.loadM ag_27_D rfl ⟨rfl, Mem.of_get at1005⟩) ?_
  refine .r0 rfl rfl (.fillA rfl sz_27_D rfl rfl rfl rfl) ?_
  rintro _ H4001 ⟨rfl, st4001, at4001⟩
  replace hst := hst.sA st4001
  replace hs := hs.sA st4001
  replace lv_v11 := Keep.st lv_v11 st4001 (fun k hb hk => ⟨(by omega), trivial⟩)
  replace v11 := bs_v11.keep lv_v11 (Nat.le_refl _)
  refine .nil (hK6 _ _ ?_)
  refine .ret ?_
  refine hret _ _ ?_
  refine ⟨_, _, _, _, rfl, ag_27_D, (by rfl), (Mem.of_get at4001), ?_⟩
  exact ⟨c11, p11, rfl, rc11.small (by omega), v11.kin.keep (.of_le (.refl _)) (by omega), hst, hs⟩
set_option maxHeartbeats 8000000 in
theorem l05Draw_c {gS : Nat} {H : GHeap} (hs : DSrc 90 H gS := by assumption) :
    GCalls Try.prog 50 [.pointer (some ⟨gS, 0, none⟩)] H (DrawnP 90 gS H) := by
  have hlS := hs.lt
  refine GCalls.body (N := 23) (rs := [.cell 2 27, .tmp 3]) Try.func50 rfl rfl rfl rfl (fun Qx hret hend => ?_)
  refine .fg [0] rfl ?_
  have hst := St.refl [gS] H
  refine .seq (fun K1 hK1 => .region ?_)
  refine .R rfl (.allocR rfl ze_27_Hj rfl) ?_
  rintro _ H2 ⟨g2, rfl, le2, ge2, at2⟩
  have nx_H2 := le2.1
  replace hst := hst.le le2
  have lt_at2 := GHeap.ltg at2
  refine .mv rfl (.nil (hK1 _ _ (.seq (fun K2 hK2 => .region ?_))))
  have hs := hs.le le2
  refine .mv rfl ?_
  refine .call rfl rfl rfl rfl @Try.call49 rfl (l02Draw_c) ?_
  rintro _ H7 ⟨c7, p7, rfl, sm7, v7, st7, hs⟩
  have nx_H7 := st7.nx
  replace hst := hst.sA st7
  have ne_g2_gS : NE g2 gS := .a
  replace at2 := st7.s at2 ne_g2_gS.ne
  have bs_v7 := v7
  have lv_v7 : Keep H2.next H7 H7 := fun _ _ _ h => h
  refine .R rfl (.allocR rfl ze_27_Hj rfl) ?_
  rintro _ H4 ⟨g4, rfl, le4, ge4, at4⟩
  replace hst := hst.le le4
  replace hs := hs.le le4
  replace at2 := le4.2 _ _ at2
  replace lv_v7 := Keep.le lv_v7 le4
  refine .r0 rfl rfl (.fillA rfl sz_27_D rfl rfl rfl rfl) ?_
  rintro _ H1003 ⟨rfl, st1003, at1003⟩
  replace hst := hst.sA st1003
  replace hs := hs.sA st1003
  replace at2 := st1003.s at2
  replace lv_v7 := Keep.st lv_v7 st1003 (fun k hb hk => ⟨(by omega), trivial⟩)
  have lt_at1003 := GHeap.ltg at1003
  refine .nil (hK2 _ _ (.seq (fun K3 hK3 => .region ?_)))
  obtain ⟨n1, -, -, -, -, -⟩ := id sm7
  refine .q rfl (.fieldAddr fo_27_1_B rfl) ?_
  refine .q rfl (.load on_24_B rfl (by first | assumption | exact Mem.of_get at1003 1 _ rfl)) ?_
  refine .q rfl (.len sl_24_A rfl) (.mv rfl (.nil (hK3 _ _ (.seq (fun K4 hK4 => .seq (fun K5 hK5 => .region (.mv rfl ?_)))))))
  refine .call rfl rfl rfl rfl @Try.call48 rfl (l01Next_c) ?_
  rintro _ H12 ⟨k12, rfl, ka12, kb12, kc12, st12, hs⟩
  have nx_H12 := st12.nx
  replace hst := hst.sA st12
  replace at2 := st12.s at2 ne_g2_gS.ne
  replace at1003 := st12.s at1003
  replace lv_v7 := Keep.st lv_v7 st12 (fun k hb hk => ⟨(by omega), trivial⟩)
  refine .q rfl (.cmp rfl rfl rfl) (.nil (hK5 _ _ ?_))
  refine .cond rfl (fun h13 => ?_) (fun h13 => ?_)
  ·
   try simp only [sps] at h13
   refine .seq (fun K6 hK6 => ?_)
   refine .regionDB mo_B (.q 0 (.q 1 (.q 2 (.c 3 1 (.c 4 1 (.c 5 0 (.q 6 (.done)))))))) (by kernel_rfl) (GHeap.le_erase H12 gS) ?_
   have hbl := GHeap.le_erase H12 gS
   have a4B := GHeap.get_erase_of (g := gS) at1003 (by omega)
   refine .qB rfl hbl (.loadM ag_27_D rfl ⟨rfl, Mem.of_get a4B⟩) ?_
   refine .qB rfl hbl (.move rfl) (.qB rfl hbl (.move rfl) ?_)
   refine .c1 rfl rfl rfl rfl (.litA rfl sl_24_A ze_2_L rfl rfl rfl rfl) ?_
   rintro _ H17 ⟨g17, rfl, le17, ge17, at17⟩
   replace hbl := hbl.trans le17
   refine ⟨hbl, ?_⟩
   replace hst := hst.le le17
   replace hs := hs.le le17
   replace at2 := le17.2 _ _ at2
   replace lv_v7 := Keep.le lv_v7 le17
   refine .call1 rfl rfl rfl rfl rfl @Try.call85 rfl ((by have hh := l01Pick_c (xs := [-1, (c7.src.length : Int), 9223372036854775807, -9223372036854775808]) (hl := fun H' s => Ints.of_get (s.same _ _ ⟨by omega, trivial⟩ at17)) (h0 := by simp); exact hh)) ?_
   rintro _ H18 ⟨i18, hi18, rfl, st18, hs⟩
   obtain ⟨k18, e18, b18⟩ : ∃ k : Int, ([-1, (c7.src.length : Int), 9223372036854775807, -9223372036854775808] : List Int).getD i18 0 = k ∧ I64 k := ⟨_, rfl, bd_iff.2 (by intro x hx; simp only [List.mem_cons, List.not_mem_nil, or_false] at hx; omega) _ hi18⟩
   rw [e18]
   replace hbl := hbl.erase_st st18
   refine ⟨hbl, ?_⟩
   replace hst := hst.sA st18
   replace at2 := st18.s at2 ne_g2_gS.ne
   replace lv_v7 := Keep.st lv_v7 st18 (fun k hb hk => ⟨(by omega), trivial⟩)
   refine .r0 rfl rfl rfl (.fillA rfl sz_27_D rfl rfl rfl rfl) ?_
   rintro _ H4005 ⟨rfl, st4005, at4005⟩
   replace hst := hst.sA st4005
   replace hs := hs.sA st4005
   replace lv_v7 := Keep.st lv_v7 st4005 (fun k hb hk => ⟨(by omega), trivial⟩)
   replace v7 := bs_v7.keep lv_v7 (Nat.le_refl _)
   refine .qB rfl (.refl _) (.assign rfl) ?_
   refine .done ?_
   refine hK6 _ _ ?_
   refine .ret ?_
   refine hret _ _ ?_
   refine ⟨_, _, _, _, _, rfl, ag_27_D, (by rfl), (Mem.of_get at4005), rfl, ?_⟩
   exact ⟨c7, p7, k18, rfl, sm7, v7.keep (.of_le (.refl _)) (by omega), b18, hst, hs⟩
  try simp only [sps] at h13
  refine .skip ?_
  refine hK4 _ _ (.seq (fun K7 hK7 => ?_))
  refine .regionDB mo_B (.q 0 (.q 1 (.q 2 (.c 3 1 (.c 4 0 (.q 5 (.done))))))) (by kernel_rfl) (GHeap.le_erase H12 gS) ?_
  have hbl := GHeap.le_erase H12 gS
  have a4B := GHeap.get_erase_of (g := gS) at1003 (by omega)
  refine .qB rfl hbl (.loadM ag_27_D rfl ⟨rfl, Mem.of_get a4B⟩) ?_
  refine .qB rfl hbl (.move rfl) (.qB rfl hbl (.move rfl) ?_)
  refine .call1 rfl rfl rfl rfl rfl @Try.call48 rfl (l01Next_c) ?_
  rintro _ H22 ⟨k22, rfl, ka22, kb22, kc22, st22, hs⟩
  replace hbl := hbl.erase_st st22
  refine ⟨hbl, ?_⟩
  replace hst := hst.sA st22
  replace at2 := st22.s at2 ne_g2_gS.ne
  replace lv_v7 := Keep.st lv_v7 st22 (fun k hb hk => ⟨(by omega), trivial⟩)
  refine .r0 rfl rfl rfl (.fillA rfl sz_27_D rfl rfl rfl rfl) ?_
  rintro _ H5004 ⟨rfl, st5004, at5004⟩
  replace hst := hst.sA st5004
  replace hs := hs.sA st5004
  replace lv_v7 := Keep.st lv_v7 st5004 (fun k hb hk => ⟨(by omega), trivial⟩)
  replace v7 := bs_v7.keep lv_v7 (Nat.le_refl _)
  refine .qB rfl (.refl _) (.assign rfl) ?_
  refine .done ?_
  refine hK7 _ _ ?_
  refine .ret ?_
  refine hret _ _ ?_
  refine ⟨_, _, _, _, _, rfl, ag_27_D, (by rfl), (Mem.of_get at5004), rfl, ?_⟩
  exact ⟨c7, p7, k22, rfl, sm7, v7.keep (.of_le (.refl _)) (by omega), ⟨by omega, by omega⟩, hst, hs⟩
theorem drawInverseArrow_c {a : Option Addr} {xs : List Int} {H : GHeap} (hb : Bytes H a xs := by assumption) (hlt : ∀ b o t, a = some ⟨b, o, t⟩ → b < H.next := by assumption) (hx : xs.length ≤ 4096 := by omega) :
    GCalls Try.prog 16 [.slice a xs.length xs.length] H (NewP H) := by
  refine GCalls.body (N := 9) (rs := [.cell 2 27, .tmp 3]) Try.func16 rfl rfl rfl rfl (fun Qx hret hend => ?_)
  refine .fg [0] rfl ?_
  have hle := GHeap.Le.refl H
  have base_hb := hb
  refine .seq (fun K1 hK1 => .region ?_)
  refine .R rfl (.allocR rfl ze_27_Hj rfl) ?_
  rintro _ H2 ⟨g2, rfl, le2, ge2, at2⟩
  replace hle := hle.trans le2
  have lt_at2 := GHeap.ltg at2
  replace hb := base_hb.mono hle
  refine .mv rfl (.nil (hK1 _ _ (.seq (fun K2 hK2 => .region (.mv rfl ?_)))))
  refine .call rfl rfl rfl rfl @Try.call47 rfl (l01From_c (hlt := fun b o t e => by have := hlt b o t e; omega)) ?_
  rintro _ H5 ⟨le5, gS, rfl, ge5, hs⟩
  have hlS := hs.lt
  have nx_H5 := le5.1
  replace hle := hle.trans le5
  replace at2 := le5.2 _ _ at2
  refine .call rfl rfl rfl rfl @Try.call50 rfl (l05Draw_c) ?_
  rintro _ H6 ⟨c6, p6, k6, rfl, sm6, v6, b6, st6, hs⟩
  replace hle := hle.st st6 (fun k hk => ⟨by omega, trivial⟩)
  replace at2 := st6.s at2
  have bs_v6 := v6
  have lv_v6 : Keep H5.next H6 H6 := fun _ _ _ h => h
  refine .q rfl (.extract rfl rfl) (.q rfl (.extract rfl rfl) ?_)
  refine .r0 rfl rfl (.fillA rfl sz_27_D rfl rfl rfl rfl) ?_
  rintro _ H1005 ⟨rfl, st1005, at1005⟩
  replace hle := hle.st st1005 (fun k hk => ⟨by omega, trivial⟩)
  replace lv_v6 := Keep.st lv_v6 st1005 (fun k hb hk => ⟨(by omega), trivial⟩)
  replace v6 := bs_v6.keep lv_v6 (Nat.le_refl _)
  refine .mv rfl (.nil (hK2 _ _ ?_))
  refine .ret ?_
  refine hret _ _ ?_
  refine ⟨_, _, _, _, _, rfl, ag_27_D, (by rfl), (Mem.of_get at1005), rfl, ?_⟩
  exact ⟨hle, c6, p6, k6, rfl, sm6, v6.keep (.of_le (.refl _)) (by omega), b6⟩
end Go.Proofs.Ytolfggcanbpknaa
namespace Go.Proofs.Ytolfggcanbpknaa
open Go Go.GL Go.RowKit Go.Proofs
theorem bo_4_LFnInverses : isBoolT Try.prog 4 = true := by kernel_rfl
set_option maxHeartbeats 40000000 in
theorem lawFnInverses_c {a : Option Addr} {xs : List Int} {H : GHeap} (hb : Bytes H a xs) (hl : xs.length ≤ 9223372036854775807) (hlt : ∀ b o t, a = some ⟨b, o, t⟩ → b < H.next) :
    GCalls Try.prog 4 [.slice a xs.length xs.length] H (fun v _ => v = .bool true) := by
  refine GCalls.body (N := 104) (rs := [.tmp 2]) Try.func4 rfl rfl rfl rfl (fun Qx hret hend => ?_)
  refine .fg [0] rfl ?_
  have base_hb := hb
  refine .seq (fun K1 hK1 => .region (.mv rfl (.nil (hK1 _ _ (.seq (fun K2 hK2 => .seq (fun K3 hK3 => .region (.mv rfl ?_))))))))
  refine .callQ rfl rfl rfl rfl @Try.call9 rfl (big_c) ?_
  refine .nil (hK3 _ _ ?_)
  refine .cond rfl (fun h16 => ?_) (fun h16 => ?_)
  ·
   try simp only [sps] at h16
   refine .seq (fun K4 hK4 => .region (.mv rfl (.nil (hK4 _ _ ?_))))
   refine .ret ?_
   refine hret _ _ ?_
   refine ⟨_, rfl, ?_⟩
   first | rfl | exact congrArg Value.bool (decide_eq_true (hs.trans l4))
  simp only [sps] at h16
  refine .skip ?_
  refine hK2 _ _ (.seq (fun K5 hK5 => .region (.mv rfl ?_)))
  refine .call rfl rfl rfl rfl @Try.call16 rfl (drawInverseArrow_c) ?_
  rintro _ H19 ⟨le19, c19, p19, k19, rfl, sm19, v19, b19⟩
  have bs_v19 := v19
  have lv_v19 : Keep H.next H19 H19 := fun _ _ _ h => h
  refine .mv rfl (.q rfl (.extract rfl rfl) (.q rfl (.extract rfl rfl) ?_))
  refine .R rfl (.allocR rfl ze_27_Hj rfl) ?_
  rintro _ H3 ⟨g3, rfl, le3, ge3, at3⟩
  replace lv_v19 := Keep.le lv_v19 le3
  refine .r0 rfl rfl (.fillA rfl sz_27_D rfl rfl rfl rfl) ?_
  rintro _ H3006 ⟨rfl, st3006, at3006⟩
  replace lv_v19 := Keep.st lv_v19 st3006 (fun k hb hk => ⟨by omega, trivial⟩)
  replace v19 := bs_v19.keep lv_v19 (Nat.le_refl _)
  have i19 := v19.inn
  refine .mv rfl (.nil (hK5 _ _ (.seq (fun K6 hK6 => .region ?_))))
  refine .q rfl (.loadM ag_27_D rfl ⟨rfl, Mem.of_get at3006⟩) ?_
  refine .mv rfl ?_
  refine .callQ rfl rfl rfl rfl @Try.call17 rfl (inverseArrow_c) ?_
  refine .mv rfl (.q rfl (.extract rfl rfl) (.q rfl (.extract rfl rfl) (.mv rfl (.mv rfl (.nil (hK6 _ _ (.seq (fun K7 hK7 => .region ?_))))))))
  refine .q rfl (.loadM ag_27_D rfl ⟨rfl, Mem.of_get at3006⟩) ?_
  refine .mv rfl ?_
  refine .callQ rfl rfl rfl rfl @Try.call18 rfl (specInverseArrow_c) ?_
  refine .mv rfl (.q rfl (.extract rfl rfl) (.q rfl (.extract rfl rfl) (.mv rfl (.mv rfl (.nil (hK7 _ _ (.seq (fun K8 hK8 => .seq (fun K9 hK9 => .region (.mv rfl (.mv rfl (.q rfl (.cmp rfl rfl rfl) (.mv rfl ?_)))))))))))))
  refine .split (fun h37 => ?_) (fun h37 => ?_)
  ·
   simp only [sps] at h37
   exact absurd trivial h37
  try simp only [sps] at h37
  refine .qg rfl (.move rfl) (.qg rfl (.move rfl) (.qg rfl (.cmp rfl rfl rfl) (.q rfl (.pickF rfl rfl) (.nil (hK9 _ _ ?_)))))
  refine .cond rfl (fun h41 => ?_) (fun h41 => ?_)
  ·
   first | exact absurd rfl h41 | (simp only [sps] at h41; exact absurd rfl h41) | simp at h41
  try simp only [sps] at h41
  refine .skip ?_
  refine hK8 _ _ (.seq (fun K10 hK10 => .seq (fun K11 hK11 => .region (.mv rfl (.q rfl (.cmp rfl rfl rfl) (.mv rfl ?_))))))
  refine .split (fun h44 => ?_) (fun h44 => ?_)
  ·
   try simp only [sps] at h44
   refine .qg rfl (.move rfl) (.qg rfl (.cmp rfl rfl rfl) (.q rfl (.pickT rfl rfl) (.nil (hK11 _ _ ?_))))
   refine .cond rfl (fun h47 => ?_) (fun h47 => ?_)
   ·
    try simp only [sps] at h47
    refine .seq (fun K12 hK12 => .region (.mv rfl (.nil (hK12 _ _ ?_))))
    refine .ret ?_
    refine hret _ _ ?_
    refine ⟨_, rfl, ?_⟩
    first | rfl | exact congrArg Value.bool (decide_eq_true (hs.trans l4))
   try simp only [sps] at h47
   refine .skip ?_
   refine hK10 _ _ (.seq (fun K13 hK13 => .region ?_))
   have hk : c19.code [k19] = 0 := by first | exact (Cat.invC_zero h44).1 | exact Cat.invC_four h47
   have hr : codeL (c19.code [k19]) (c19.retr k19) = c19.retr k19 := codeL_ok hk
   have hs : codeL (c19.code [k19]) (c19.sect k19) = c19.sect k19 := codeL_ok hk
   obtain ⟨hI, f0, f1⟩ := Cat.code_one.1 hk
   have hp := Cat.inv_pos hk
   have hn := hI.1.n40
   have hrl : (codeL (c19.code [k19]) (c19.retr k19)).length ≤ 1048576 := by rw [hr]; have := filtN_le c19.src.length (fun g => (decide (c19.src.getD g 0 = c19.T k19) && decide (c19.tgt.getD g 0 = c19.S k19)) && decide (c19.th k19 g = c19.I (c19.S k19))); unfold Cat.retr; omega
   have hsl : (codeL (c19.code [k19]) (c19.sect k19)).length ≤ 1048576 := by rw [hs]; have := filtN_le c19.src.length (fun g => (decide (c19.src.getD g 0 = c19.T k19) && decide (c19.tgt.getD g 0 = c19.S k19)) && decide (c19.th g k19 = c19.I (c19.T k19))); unfold Cat.sect; omega
   refine .q rfl (.loadM ag_27_D rfl ⟨rfl, Mem.of_get at3006⟩) ?_
   refine .mv rfl ?_
   refine .call rfl rfl rfl rfl @Try.call19 rfl (retractionsOf_c) ?_
   rintro _ H51 ⟨le51, a51, rfl, v51⟩
   replace at3006 := le51.2 _ _ at3006
   replace lv_v19 := Keep.le lv_v19 le51
   replace v19 := bs_v19.keep lv_v19 (Nat.le_refl _)
   have bs_v51 := v51
   have lv_v51 : Keep H3006.next H51 H51 := fun _ _ _ h => h
   clear i19
   have i19 := v19.inn
   refine .mv rfl (.q rfl (.extract rfl rfl) (.q rfl (.extract rfl rfl) (.mv rfl (.mv rfl (.nil (hK13 _ _ (.seq (fun K14 hK14 => .region ?_))))))))
   refine .q rfl (.loadM ag_27_D rfl ⟨rfl, Mem.of_get at3006⟩) ?_
   refine .mv rfl ?_
   refine .call rfl rfl rfl rfl @Try.call20 rfl (sectionsOf_c) ?_
   rintro _ H57 ⟨le57, a57, rfl, v57⟩
   replace at3006 := le57.2 _ _ at3006
   replace lv_v19 := Keep.le lv_v19 le57
   replace v19 := bs_v19.keep lv_v19 (Nat.le_refl _)
   replace lv_v51 := Keep.le lv_v51 le57
   have bs_v57 := v57
   have lv_v57 : Keep H51.next H57 H57 := fun _ _ _ h => h
   clear i19
   have i19 := v19.inn
   refine .mv rfl (.q rfl (.extract rfl rfl) (.q rfl (.extract rfl rfl) (.mv rfl (.mv rfl (.nil (hK14 _ _ (.seq (fun K15 hK15 => .seq (fun K16 hK16 => .region (.mv rfl (.mv rfl ?_)))))))))))
   refine .q rfl (.add rfl rfl rfl (by omega) (by omega)) ?_
   refine .q rfl (.cmp rfl rfl rfl) (.mv rfl ?_)
   refine .split (fun h64 => ?_) (fun h64 => ?_)
   ·
    simp only [sps] at h64
    omega
   try simp only [sps] at h64
   refine .qg rfl (.move rfl) (.qg rfl (.len sl_24_A rfl) (.qg rfl (.cmp rfl rfl rfl) (.qg rfl (.move rfl) ?_)))
   refine .split (fun h68 => ?_) (fun h68 => ?_)
   ·
    try simp only [sps] at h68
    refine .qg rfl (.move rfl) (.qg rfl (.len sl_24_A rfl) (.qg rfl (.cmp rfl rfl rfl) (.qg rfl (.pickT rfl rfl) (.qg rfl (.move rfl) (.qg rfl (.cmp rfl rfl rfl) (.qg rfl (.boolNe bo_4_LFnInverses rfl rfl) (.q rfl (.pickF rfl rfl) (.nil (hK16 _ _ ?_)))))))))
    refine .cond rfl (fun h76 => ?_) (fun h76 => ?_)
    ·
     simp only [sps] at h76
     rw [hr] at h68
     rcases Classical.em (c19.invC k19 = 0) with e | e
     · exact (h76 (by rw [decide_eq_true (by rw [hs]; have := hp.2 e; omega), e]; rfl)).elim
     · exact (h76 (by rw [decide_eq_false (fun q => e (hp.1 ⟨by omega, by rw [hs] at q; omega⟩)), beq_eq_false_iff_ne.2 e])).elim
    try simp only [sps] at h76
    refine .skip ?_
    refine hK15 _ _ (.seq (fun K17 hK17 => .seq (fun K18 hK18 => .region (.mv rfl (.q rfl (.cmp rfl rfl rfl) (.nil (hK18 _ _ ?_)))))))
    refine .cond rfl (fun h78 => ?_) (fun h78 => ?_)
    ·
     try simp only [sps] at h78
     refine .seq (fun K19 hK19 => .region (.mv rfl (.nil (hK19 _ _ ?_))))
     refine .ret ?_
     refine hret _ _ ?_
     refine ⟨_, rfl, ?_⟩
     first | rfl | exact congrArg Value.bool (decide_eq_true (hs.trans l4))
    try simp only [sps] at h78
    refine .skip ?_
    refine hK17 _ _ (.seq (fun K20 hK20 => .region ?_))
    have hz : c19.invC k19 = 0 := by first | exact h78 | exact Classical.not_not.1 h78
    obtain ⟨l1, l2, l3, l4⟩ := Cat.inv_law hz
    refine .q rfl (.loadM ag_27_D rfl ⟨rfl, Mem.of_get at3006⟩) ?_
    refine .mv rfl ?_
    refine .callQ rfl rfl rfl rfl @Try.call17 rfl (inverseArrow_c) ?_
    refine .mv rfl (.q rfl (.extract rfl rfl) (.q rfl (.extract rfl rfl) (.mv rfl (.mv rfl (.nil (hK20 _ _ (.seq (fun K21 hK21 => .region (.mv rfl (.q rfl (.cmp rfl rfl rfl) (.mv rfl ?_)))))))))))
    refine .split (fun h87 => ?_) (fun h87 => ?_)
    ·
     try simp only [sps] at h87
     refine .qg rfl (.move rfl) (.qg rfl (.move rfl) (.qg rfl (.cmp rfl rfl rfl) (.q rfl (.pickT rfl rfl) (.mv rfl ?_))))
     refine .split (fun h92 => ?_) (fun h92 => ?_)
     ·
      try simp only [sps] at h92
      refine .qg rfl (.move rfl) (.qg rfl (.move rfl) ?_)
      refine .rg rfl rfl rfl rfl rfl (.litA rfl sl_24_A ze_2_L rfl rfl rfl rfl) ?_
      rintro _ H95 ⟨g95, rfl, le95, ge95, at95⟩
      replace lv_v51 := Keep.le lv_v51 le95
      replace v51 := bs_v51.keep lv_v51 (Nat.le_refl _)
      replace lv_v57 := Keep.le lv_v57 le95
      clear i19
      have i51 := v51.ints
      refine .callQg rfl rfl rfl rfl rfl rfl @Try.call21 rfl (likeInts_c (xs := codeL (c19.code [k19]) (c19.retr k19)) (ys := [c19.invR k19]) (h' := Ints.of_get (by assumption)) (hy := by simp)) ?_
      refine .q rfl (.pickT rfl rfl) (.mv rfl ?_)
      refine .split (fun h98 => ?_) (fun h98 => ?_)
      ·
       try simp only [sps] at h98
       refine .qg rfl (.move rfl) (.qg rfl (.move rfl) ?_)
       refine .rg rfl rfl rfl rfl rfl (.litA rfl sl_24_A ze_2_L rfl rfl rfl rfl) ?_
       rintro _ H101 ⟨g101, rfl, le101, ge101, at101⟩
       replace lv_v57 := Keep.le lv_v57 le101
       replace v57 := bs_v57.keep lv_v57 (Nat.le_refl _)
       clear i51
       have i57 := v57.ints
       refine .callQg rfl rfl rfl rfl rfl rfl @Try.call21 rfl (likeInts_c (xs := codeL (c19.code [k19]) (c19.sect k19)) (ys := [c19.invR k19]) (h' := Ints.of_get (by assumption)) (hy := by simp)) ?_
       refine .q rfl (.pickT rfl rfl) (.mv rfl (.nil (hK21 _ _ ?_)))
       refine .ret ?_
       refine hret _ _ ?_
       refine ⟨_, rfl, ?_⟩
       first | rfl | exact congrArg Value.bool (decide_eq_true (hs.trans l4))
      simp only [sps] at h98
      exact absurd (hr.trans l3) h98
     simp only [sps] at h92
     exact absurd l2 h92
    simp only [sps] at h87
    exact absurd l1 h87
   try simp only [sps] at h68
   refine .z rfl (.z rfl (.z rfl (.qg rfl (.pickF rfl rfl) (.qg rfl (.move rfl) (.qg rfl (.cmp rfl rfl rfl) (.qg rfl (.boolNe bo_4_LFnInverses rfl rfl) (.q rfl (.pickF rfl rfl) (.nil (hK16 _ _ ?_)))))))))
   refine .cond rfl (fun h76 => ?_) (fun h76 => ?_)
   ·
    simp only [sps] at h76
    rw [hr] at h68
    rcases Classical.em (c19.invC k19 = 0) with e | e
    · have := hp.2 e; omega
    · exact (h76 (by rw [beq_eq_false_iff_ne.2 e])).elim
   try simp only [sps] at h76
   refine .skip ?_
   refine hK15 _ _ (.seq (fun K22 hK22 => .seq (fun K23 hK23 => .region (.mv rfl (.q rfl (.cmp rfl rfl rfl) (.nil (hK23 _ _ ?_)))))))
   refine .cond rfl (fun h78 => ?_) (fun h78 => ?_)
   ·
    try simp only [sps] at h78
    refine .seq (fun K24 hK24 => .region (.mv rfl (.nil (hK24 _ _ ?_))))
    refine .ret ?_
    refine hret _ _ ?_
    refine ⟨_, rfl, ?_⟩
    first | rfl | exact congrArg Value.bool (decide_eq_true (hs.trans l4))
   simp only [sps] at h78
   rw [h78] at h76
   simp at h76
  try simp only [sps] at h44
  refine .z rfl (.z rfl (.q rfl (.pickF rfl rfl) (.nil (hK11 _ _ ?_))))
  refine .condF rfl ?_
  refine .skip ?_
  refine hK10 _ _ (.seq (fun K25 hK25 => .region ?_))
  have hk : c19.code [k19] = 0 := by first | exact (Cat.invC_zero h44).1 | exact Cat.invC_four h47
  have hr : codeL (c19.code [k19]) (c19.retr k19) = c19.retr k19 := codeL_ok hk
  have hs : codeL (c19.code [k19]) (c19.sect k19) = c19.sect k19 := codeL_ok hk
  obtain ⟨hI, f0, f1⟩ := Cat.code_one.1 hk
  have hp := Cat.inv_pos hk
  have hn := hI.1.n40
  have hrl : (codeL (c19.code [k19]) (c19.retr k19)).length ≤ 1048576 := by rw [hr]; have := filtN_le c19.src.length (fun g => (decide (c19.src.getD g 0 = c19.T k19) && decide (c19.tgt.getD g 0 = c19.S k19)) && decide (c19.th k19 g = c19.I (c19.S k19))); unfold Cat.retr; omega
  have hsl : (codeL (c19.code [k19]) (c19.sect k19)).length ≤ 1048576 := by rw [hs]; have := filtN_le c19.src.length (fun g => (decide (c19.src.getD g 0 = c19.T k19) && decide (c19.tgt.getD g 0 = c19.S k19)) && decide (c19.th g k19 = c19.I (c19.T k19))); unfold Cat.sect; omega
  refine .q rfl (.loadM ag_27_D rfl ⟨rfl, Mem.of_get at3006⟩) ?_
  refine .mv rfl ?_
  refine .call rfl rfl rfl rfl @Try.call19 rfl (retractionsOf_c) ?_
  rintro _ H51x2 ⟨le51x2, a51x2, rfl, v51x2⟩
  replace at3006 := le51x2.2 _ _ at3006
  replace lv_v19 := Keep.le lv_v19 le51x2
  replace v19 := bs_v19.keep lv_v19 (Nat.le_refl _)
  have bs_v51x2 := v51x2
  have lv_v51x2 : Keep H3006.next H51x2 H51x2 := fun _ _ _ h => h
  have i19 := v19.inn
  refine .mv rfl (.q rfl (.extract rfl rfl) (.q rfl (.extract rfl rfl) (.mv rfl (.mv rfl (.nil (hK25 _ _ (.seq (fun K26 hK26 => .region ?_))))))))
  refine .q rfl (.loadM ag_27_D rfl ⟨rfl, Mem.of_get at3006⟩) ?_
  refine .mv rfl ?_
  refine .call rfl rfl rfl rfl @Try.call20 rfl (sectionsOf_c) ?_
  rintro _ H57x2 ⟨le57x2, a57x2, rfl, v57x2⟩
  replace at3006 := le57x2.2 _ _ at3006
  replace lv_v19 := Keep.le lv_v19 le57x2
  replace v19 := bs_v19.keep lv_v19 (Nat.le_refl _)
  replace lv_v51x2 := Keep.le lv_v51x2 le57x2
  have bs_v57x2 := v57x2
  have lv_v57x2 : Keep H51x2.next H57x2 H57x2 := fun _ _ _ h => h
  clear i19
  have i19 := v19.inn
  refine .mv rfl (.q rfl (.extract rfl rfl) (.q rfl (.extract rfl rfl) (.mv rfl (.mv rfl (.nil (hK26 _ _ (.seq (fun K27 hK27 => .seq (fun K28 hK28 => .region (.mv rfl (.mv rfl ?_)))))))))))
  refine .q rfl (.add rfl rfl rfl (by omega) (by omega)) ?_
  refine .q rfl (.cmp rfl rfl rfl) (.mv rfl ?_)
  refine .split (fun h64 => ?_) (fun h64 => ?_)
  ·
   simp only [sps] at h64
   omega
  try simp only [sps] at h64
  refine .qg rfl (.move rfl) (.qg rfl (.len sl_24_A rfl) (.qg rfl (.cmp rfl rfl rfl) (.qg rfl (.move rfl) ?_)))
  refine .split (fun h68 => ?_) (fun h68 => ?_)
  ·
   try simp only [sps] at h68
   refine .qg rfl (.move rfl) (.qg rfl (.len sl_24_A rfl) (.qg rfl (.cmp rfl rfl rfl) (.qg rfl (.pickT rfl rfl) (.qg rfl (.move rfl) (.qg rfl (.cmp rfl rfl rfl) (.qg rfl (.boolNe bo_4_LFnInverses rfl rfl) (.q rfl (.pickF rfl rfl) (.nil (hK28 _ _ ?_)))))))))
   refine .cond rfl (fun h76 => ?_) (fun h76 => ?_)
   ·
    simp only [sps] at h76
    rw [hr] at h68
    rcases Classical.em (c19.invC k19 = 0) with e | e
    · exact (h76 (by rw [decide_eq_true (by rw [hs]; have := hp.2 e; omega), e]; rfl)).elim
    · exact (h76 (by rw [decide_eq_false (fun q => e (hp.1 ⟨by omega, by rw [hs] at q; omega⟩)), beq_eq_false_iff_ne.2 e])).elim
   try simp only [sps] at h76
   refine .skip ?_
   refine hK27 _ _ (.seq (fun K29 hK29 => .seq (fun K30 hK30 => .region (.mv rfl (.q rfl (.cmp rfl rfl rfl) (.nil (hK30 _ _ ?_)))))))
   refine .cond rfl (fun h78 => ?_) (fun h78 => ?_)
   ·
    try simp only [sps] at h78
    refine .seq (fun K31 hK31 => .region (.mv rfl (.nil (hK31 _ _ ?_))))
    refine .ret ?_
    refine hret _ _ ?_
    refine ⟨_, rfl, ?_⟩
    first | rfl | exact congrArg Value.bool (decide_eq_true (hs.trans l4))
   try simp only [sps] at h78
   refine .skip ?_
   refine hK29 _ _ (.seq (fun K32 hK32 => .region ?_))
   have hz : c19.invC k19 = 0 := by first | exact h78 | exact Classical.not_not.1 h78
   obtain ⟨l1, l2, l3, l4⟩ := Cat.inv_law hz
   refine .q rfl (.loadM ag_27_D rfl ⟨rfl, Mem.of_get at3006⟩) ?_
   refine .mv rfl ?_
   refine .callQ rfl rfl rfl rfl @Try.call17 rfl (inverseArrow_c) ?_
   refine .mv rfl (.q rfl (.extract rfl rfl) (.q rfl (.extract rfl rfl) (.mv rfl (.mv rfl (.nil (hK32 _ _ (.seq (fun K33 hK33 => .region (.mv rfl (.q rfl (.cmp rfl rfl rfl) (.mv rfl ?_)))))))))))
   refine .split (fun h87 => ?_) (fun h87 => ?_)
   ·
    try simp only [sps] at h87
    refine .qg rfl (.move rfl) (.qg rfl (.move rfl) (.qg rfl (.cmp rfl rfl rfl) (.q rfl (.pickT rfl rfl) (.mv rfl ?_))))
    refine .split (fun h92 => ?_) (fun h92 => ?_)
    ·
     try simp only [sps] at h92
     refine .qg rfl (.move rfl) (.qg rfl (.move rfl) ?_)
     refine .rg rfl rfl rfl rfl rfl (.litA rfl sl_24_A ze_2_L rfl rfl rfl rfl) ?_
     rintro _ H95x2 ⟨g95x2, rfl, le95x2, ge95x2, at95x2⟩
     replace lv_v51x2 := Keep.le lv_v51x2 le95x2
     replace v51x2 := bs_v51x2.keep lv_v51x2 (Nat.le_refl _)
     replace lv_v57x2 := Keep.le lv_v57x2 le95x2
     clear i19
     have i51x2 := v51x2.ints
     refine .callQg rfl rfl rfl rfl rfl rfl @Try.call21 rfl (likeInts_c (xs := codeL (c19.code [k19]) (c19.retr k19)) (ys := [c19.invR k19]) (h' := Ints.of_get (by assumption)) (hy := by simp)) ?_
     refine .q rfl (.pickT rfl rfl) (.mv rfl ?_)
     refine .split (fun h98 => ?_) (fun h98 => ?_)
     ·
      try simp only [sps] at h98
      refine .qg rfl (.move rfl) (.qg rfl (.move rfl) ?_)
      refine .rg rfl rfl rfl rfl rfl (.litA rfl sl_24_A ze_2_L rfl rfl rfl rfl) ?_
      rintro _ H101x2 ⟨g101x2, rfl, le101x2, ge101x2, at101x2⟩
      replace lv_v57x2 := Keep.le lv_v57x2 le101x2
      replace v57x2 := bs_v57x2.keep lv_v57x2 (Nat.le_refl _)
      clear i51x2
      have i57x2 := v57x2.ints
      refine .callQg rfl rfl rfl rfl rfl rfl @Try.call21 rfl (likeInts_c (xs := codeL (c19.code [k19]) (c19.sect k19)) (ys := [c19.invR k19]) (h' := Ints.of_get (by assumption)) (hy := by simp)) ?_
      refine .q rfl (.pickT rfl rfl) (.mv rfl (.nil (hK33 _ _ ?_)))
      refine .ret ?_
      refine hret _ _ ?_
      refine ⟨_, rfl, ?_⟩
      first | rfl | exact congrArg Value.bool (decide_eq_true (hs.trans l4))
     simp only [sps] at h98
     exact absurd (hr.trans l3) h98
    simp only [sps] at h92
    exact absurd l2 h92
   simp only [sps] at h87
   exact absurd l1 h87
  try simp only [sps] at h68
  refine .z rfl (.z rfl (.z rfl (.qg rfl (.pickF rfl rfl) (.qg rfl (.move rfl) (.qg rfl (.cmp rfl rfl rfl) (.qg rfl (.boolNe bo_4_LFnInverses rfl rfl) (.q rfl (.pickF rfl rfl) (.nil (hK28 _ _ ?_)))))))))
  refine .cond rfl (fun h76 => ?_) (fun h76 => ?_)
  ·
   simp only [sps] at h76
   rw [hr] at h68
   rcases Classical.em (c19.invC k19 = 0) with e | e
   · have := hp.2 e; omega
   · exact (h76 (by rw [beq_eq_false_iff_ne.2 e])).elim
  try simp only [sps] at h76
  refine .skip ?_
  refine hK27 _ _ (.seq (fun K34 hK34 => .seq (fun K35 hK35 => .region (.mv rfl (.q rfl (.cmp rfl rfl rfl) (.nil (hK35 _ _ ?_)))))))
  refine .cond rfl (fun h78 => ?_) (fun h78 => ?_)
  ·
   try simp only [sps] at h78
   refine .seq (fun K36 hK36 => .region (.mv rfl (.nil (hK36 _ _ ?_))))
   refine .ret ?_
   refine hret _ _ ?_
   refine ⟨_, rfl, ?_⟩
   first | rfl | exact congrArg Value.bool (decide_eq_true (hs.trans l4))
  simp only [sps] at h78
  rw [h78] at h76
  simp at h76
end Go.Proofs.Ytolfggcanbpknaa
