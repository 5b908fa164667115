/- The program's reader. No condition but those of each statement. -/
import Derived.Test.YtdnjnligclkkgaaDoorZ8
namespace Go.Proofs.YtdnjnligclkkgaaDoor
open Go Go.GL Go.RowKit Go.Proofs
abbrev RdP' (B : Nat) (H : GHeap) (gR gT gL : Nat) (W : List Int) (r : Rd) (rr : Nat → Option Addr) : Prop := RdP 52 21 38 2 B H gR gT gL W r rr
def RpQ (B gR gT gL : Nat) (W : List Int) (r : Rd) (x : Value) (H : GHeap) (v : Value) (H' : GHeap) : Prop := v = x ∧ St [gR, gL] H H' ∧ ∃ gL' rr', (gL' = gL ∨ H.next ≤ gL') ∧ RdP' B H' gR gT gL' W r rr'
def FormSpec (n : Nat) : Prop := ∀ {B gR gT gL : Nat} {W : List Int} {r : Rd} {rr : Nat → Option Addr} {H : GHeap} (_ : RdP' B H gR gT gL W r rr) (_ : Run W) (_ : W.length ≤ 1048576) (_ : r.L.length ≤ 40) (_ : r.u.length < n) (_ : B ≤ H.next),
    GCalls Tryd.prog 24 [.pointer (some ⟨gR, 0, none⟩)] H (RpQ B gR gT gL W (r.form n) (.tuple #[]) H)
theorem on_22_Ug : oneT Tryd.prog 22 = true := by kernel_rfl
theorem ag_38_Ug : aggT Tryd.prog 38 = some 3 := by kernel_rfl
theorem sz_38_Ug : (Tryd.prog.info? 38).map (·.size) = some 3 := by kernel_rfl
theorem fo_52_1_Ug : fieldOff Tryd.prog 52 1 = some 1 := by kernel_rfl
theorem sl_22_Ug : sliceT Tryd.prog 22 = some (38, 3) := by kernel_rfl
theorem bt_38_Ug : buildT Tryd.prog 38 = some ([.int .i64 0, .int .i64 0, .slice none 0 0], [(0, 1), (1, 1), (2, 1)]) := by kernel_rfl
theorem ze_38_Ug : zeroT Tryd.prog 38 = some ([.int .i64 0, .int .i64 0, .slice none 0 0], 3) := by kernel_rfl
theorem by_38_Ug : (Tryd.prog.info? 38).map (·.bytes) = some 40 := by kernel_rfl
theorem sz_22_Ug : (Tryd.prog.info? 22).map (·.size) = some 1 := by kernel_rfl
theorem fo_38_0_Ug : fieldOff Tryd.prog 38 0 = some 0 := by kernel_rfl
theorem sz_2_Ug : (Tryd.prog.info? 2).map (·.size) = some 1 := by kernel_rfl
set_option maxHeartbeats 8000000 in
theorem formula_step {n : Nat} (ih : FormSpec n) : FormSpec (n + 1) := by
  intro B gR gT gL W r rr H hr hW hs hl hn hB
  obtain ⟨⟨k, hk, hu, hg, hw⟩, no_0, ne, nt, tr, ag, inj⟩ := id hr
  have hlL := no_0.lt
  have hnl := length_ndV rr r.L
  refine GCalls.body (N := 97) (rs := []) Tryd.func24 rfl rfl rfl rfl (fun Qx hret hend => ?_)
  refine .fg [0] rfl ?_
  have lt_hg := GHeap.ltg hg
  have hst := St.refl [gR, gL] H
  refine .seq (fun K1 hK1 => .seq (fun K2 hK2 => .region (.mv rfl (.q rfl (.nilCheck rfl) (.q rfl (.fieldAddr fo_52_2_Ud rfl) ?_)))))
  refine .q rfl (.load on_4_Ud rfl (by first | assumption | exact Mem.of_get hg 2 _ rfl)) ?_
  refine .mv rfl ?_
  refine .split (fun h10 => ?_) (fun h10 => ?_)
  ·
   try simp only [sps] at h10
   refine .z rfl (.z rfl (.z rfl (.z rfl (.z rfl (.z rfl (.q rfl (.pickT rfl rfl) (.nil (hK2 _ _ ?_))))))))
   refine .condT rfl ?_
   refine .seq (fun K3 hK3 => .region (.mv rfl (.q rfl (.nilCheck rfl) (.q rfl (.fieldAddr fo_52_2_Ud rfl) ?_))))
   refine .r0 rfl rfl (.storeR rfl sz_4_Ud rfl rfl rfl (by assumption) (by first | exact Nat.le_of_ble_eq_true rfl | (simp; done) | (simp <;> omega))) ?_
   rintro _ H1003 ⟨rfl, st1003, at1003⟩
   have nx_H1003 := st1003.nx
   replace hst := hst.sA st1003
   have lt_at1003 := GHeap.ltg at1003
   try simp only [Nat.zero_add, List.set_cons_succ, List.set_cons_zero] at at1003
   have rkF := st1003
   have atF := at1003
   refine .nil (hK3 _ _ (.ret (hret _ _ ?_)))
   first
   | exact ⟨rfl, hst, gL, rr, .inl rfl, by rw [Rd.form_fail (by first | exact .inl h10 | exact .inr (by omega))]; exact hr.turn rkF ⟨k, hk, hu, atF, rkF.same _ _ ⟨tr, trivial⟩ hw⟩ rfl⟩
   | exact ⟨rfl, hst, gV, upd rV r.L.length a, .inr (by omega), by rw [mV.eq]; exact mV.rp.fin st29007 mV.lt mV.ag mV.far at29007⟩
  try simp only [sps] at h10
  refine .qg rfl (.move rfl) (.qg rfl (.nilCheck rfl) (.qg rfl (.fieldAddr fo_52_1_Ug rfl) ?_))
  refine .qg rfl (.load on_22_Ug rfl (by first | assumption | exact Mem.of_get hg 1 _ rfl)) ?_
  refine .qg rfl (.len sl_22_Ug rfl) (.qg rfl (.cmp rfl rfl rfl) (.q rfl (.pickF rfl rfl) (.nil (hK2 _ _ ?_))))
  refine .cond rfl ?_ ?_ <;> intro h17
  ·
   simp only [sps] at h17
   refine .seq (fun K4 hK4 => .region (.mv rfl (.q rfl (.nilCheck rfl) (.q rfl (.fieldAddr fo_52_2_Ud rfl) ?_))))
   refine .r0 rfl rfl (.storeR rfl sz_4_Ud rfl rfl rfl (by assumption) (by first | exact Nat.le_of_ble_eq_true rfl | (simp; done) | (simp <;> omega))) ?_
   rintro _ H1003x2 ⟨rfl, st1003x2, at1003x2⟩
   have nx_H1003x2 := st1003x2.nx
   replace hst := hst.sA st1003x2
   have lt_at1003x2 := GHeap.ltg at1003x2
   try simp only [Nat.zero_add, List.set_cons_succ, List.set_cons_zero] at at1003x2
   have rkF := st1003x2
   have atF := at1003x2
   refine .nil (hK4 _ _ (.ret (hret _ _ ?_)))
   first
   | exact ⟨rfl, hst, gL, rr, .inl rfl, by rw [Rd.form_fail (by first | exact .inl h10 | exact .inr (by omega))]; exact hr.turn rkF ⟨k, hk, hu, atF, rkF.same _ _ ⟨tr, trivial⟩ hw⟩ rfl⟩
   | exact ⟨rfl, hst, gV, upd rV r.L.length a, .inr (by omega), by rw [mV.eq]; exact mV.rp.fin st29007 mV.lt mV.ag mV.far at29007⟩
  simp only [sps] at h17
  refine .skip (hK1 _ _ (.seq (fun K5 hK5 => .region (.mv rfl ?_))))
  have lt_no_0 := no_0.lt
  refine .q rfl (.nilCheck rfl) (.q rfl (.fieldAddr fo_52_1_Ug rfl) ?_)
  refine .q rfl (.load on_22_Ug rfl (by first | assumption | exact Mem.of_get hg 1 _ rfl)) ?_
  refine .q rfl (.len sl_22_Ug rfl) (.mv rfl (.nil (hK5 _ _ (.seq (fun K6 hK6 => .region (.mv rfl (.mv rfl (.q rfl (.nilCheck rfl) (.q rfl (.fieldAddr fo_52_1_Ug rfl) ?_)))))))))
  refine .q rfl (.load on_22_Ug rfl (by first | assumption | exact Mem.of_get hg 1 _ rfl)) ?_
  refine .q rfl (.build bt_38_Ug rfl rfl rfl) ?_
  refine .R rfl (.litA rfl sl_22_Ug ze_38_Ug rfl rfl rfl rfl) ?_
  rintro _ H32 ⟨g32, rfl, le32, ge32, at32⟩
  have nx_H32 := le32.1
  replace hst := hst.le le32
  replace hg := le32.2 _ _ hg
  replace no_0 := no_0.le le32
  have lt_at32 := GHeap.ltg at32
  refine .R rfl (.appendNO rfl sl_22_Ug ze_38_Ug rfl by_38_Ug sl_22_Ug rfl rfl no_0 (by assumption) (by first | omega | (simp <;> omega)) rfl rfl (by omega) (by omega)) ?_
  rintro _ H33 ⟨g33, rfl, st33, ge33, at33⟩
  have nx_H33 := st33.nx
  replace hst := hst.sA st33
  replace hg := st33.s hg
  replace at32 := st33.s at32
  have lt_at33 := GHeap.ltg at33
  refine .q rfl (.nilCheck rfl) (.q rfl (.fieldAddr fo_52_1_Ug rfl) ?_)
  refine .r0 rfl rfl (.storeR rfl sz_22_Ug rfl rfl rfl (by assumption) (by first | exact Nat.le_of_ble_eq_true rfl | (simp; done) | (simp <;> omega))) ?_
  rintro _ H3010 ⟨rfl, st3010, at3010⟩
  have nx_H3010 := st3010.nx
  replace hst := hst.sA st3010
  have ne_g32_gR : NE g32 gR := .a
  replace at32 := st3010.s at32 ne_g32_gR.ne
  have ne_g33_gR : NE g33 gR := .a
  replace at33 := st3010.s at33 ne_g33_gR.ne
  have lt_at3010 := GHeap.ltg at3010
  try simp only [Nat.zero_add, List.set_cons_succ, List.set_cons_zero] at at3010
  refine .nil (hK6 _ _ (.seq (fun K7 hK7 => .region ?_)))
  have hr0 : RdP' B H3010 gR gT g33 W ⟨r.u, r.L ++ [⟨0, 0, []⟩], r.bad⟩ (upd rr r.L.length none) :=
    ⟨⟨k, hk, hu, by dsimp only; rw [List.length_append, List.length_singleton]; exact at3010, hst.same _ _ ⟨tr, Ne.symm nt, trivial⟩ hw⟩, by dsimp only; exact NO.of (by rw [ndV_snoc]; exact at33) (by simp), by omega, by have := GHeap.ltg hw; omega, tr, (ag.snoc (.inl ⟨rfl, rfl⟩)).le (hst.er2 (.inr (by omega))), by dsimp only; rw [List.length_append, List.length_singleton]; exact inj_snoc inj⟩
  obtain ⟨r0, e0⟩ : ∃ r0 : Rd, r0 = ⟨r.u, r.L ++ [⟨0, 0, []⟩], r.bad⟩ := ⟨_, rfl⟩
  rw [← e0] at hr0
  have e0L : r0.L.length = r.L.length + 1 := by rw [e0]; dsimp only; rw [List.length_append, List.length_singleton]
  have e0u : r0.u.length < n + 1 := by rw [e0]; exact hn
  have hq : ¬ (r.bad = true ∨ r.L.length = 40) := fun q => q.elim (fun q => by rw [q] at h10; cases h10) (fun q => by omega)
  have eTL := r0.take_L
  have rkA := St.refl [gR] H3010
  refine .q rfl (.build bt_38_Ug rfl rfl rfl) ?_
  refine .R rfl (.allocR rfl ze_38_Ug rfl) ?_
  rintro _ H3 ⟨g3, rfl, le3, ge3, at3⟩
  have nx_H3 := le3.1
  replace hst := hst.le le3
  replace rkA := rkA.le le3
  replace at32 := le3.2 _ _ at32
  replace at33 := le3.2 _ _ at33
  replace at3010 := le3.2 _ _ at3010
  have lt_at3 := GHeap.ltg at3
  refine .r0 rfl rfl (.fillA rfl sz_38_Ug rfl rfl rfl rfl) ?_
  rintro _ H4002 ⟨rfl, st4002, at4002⟩
  have nx_H4002 := st4002.nx
  replace hst := hst.sA st4002
  replace rkA := rkA.sA st4002
  have ne_g32_g3 : NE g32 g3 := .a
  replace at32 := st4002.s at32 ne_g32_g3.ne
  have ne_g33_g3 : NE g33 g3 := .a
  replace at33 := st4002.s at33 ne_g33_g3.ne
  have ne_gR_g3 : NE gR g3 := .a
  replace at3010 := st4002.s at3010 ne_gR_g3.ne
  have lt_at4002 := GHeap.ltg at4002
  have mm4002 : MemN _ _ _ _ _ := ⟨rfl, Mem.of_get at4002⟩
  refine .nil (hK7 _ _ ?_)
  refine .seqM (rest := [(0, some _), (2, some _), (3, some _)]) (M := fun rest fr' H' => ∃ (r2 : Rd) (gV : Nat) (rV : Nat → Option Addr) (x : Nd) (a : Option Addr), Sub rest fr' ∧ FormV 52 21 38 2 B H4002 H' gR gT g33 g3 W r.L.length (r.form (n + 1)) r2 gV rV x a) (.p rfl) ?_ ?_
  ·
   rintro fr829 H829 ⟨r2, gV, rV, x, a, hsub829, mV⟩
   have st829 := mV.st
   obtain ⟨kV, hkV, huV, aR, awV⟩ := mV.rp.rd
   rw [nz_pos (by have := mV.lt; omega)] at aR
   have a3 := mV.a3
   have aL := mV.rp.no.get (by have := mV.lt; omega)
   have orV := mV.or
   have ltV := mV.lt
   have nx_H829 := st829.nx
   replace hst := hst.sA st829
   have ne_g32_g33 : NE g32 g33 := .a
   replace at32 := st829.same _ _ ⟨ne_g32_gR.ne, ne_g32_g33.ne, ne_g32_g3.ne, trivial⟩ at32
   have lt_aR := GHeap.ltg aR
   have lt_a3 := GHeap.ltg a3
   have lt_aL := GHeap.ltg aL
   clear mm4002
   have mm4002 : MemN _ _ _ _ _ := ⟨rfl, Mem.of_get at4002⟩
   have sA := ndV_slA aL
   refine .forget hsub829 ?_
   refine .regionD mo_E (.qs [0, 1, 2, 3, 4, 5, 6] (.c 7 0 (.done))) (by kernel_rfl) ?_
   refine .mv rfl rfl (.q rfl (.nilCheck rfl) (.q rfl (.fieldAddr fo_52_1_Ug rfl) (.q rfl (.load on_22_Ug rfl (Mem.of_get aR 1 _ rfl)) (.mv rfl rfl ?_))))
   refine .q rfl (.loadM ag_38_Ug rfl ⟨rfl, Mem.of_get a3⟩) ?_
   refine .q rfl (.idx sl_22_Ug (by assumption) (by omega) rfl rfl (by omega) (by omega) rfl) ?_
   refine .r0 rfl rfl rfl (.storeNR rfl sz_38_Ug rfl rfl rfl rfl (by assumption) (by rw [length_ndV]; simp; omega)) ?_
   rintro _ H29007 ⟨rfl, st29007, at29007⟩
   have nx_H29007 := st29007.nx
   replace hst := hst.sA st29007
   replace at32 := st29007.s at32
   replace aR := st29007.s aR
   replace a3 := st29007.s a3
   have lt_at29007 := GHeap.ltg at29007
   clear mm4002
   have mm4002 : MemN _ _ _ _ _ := ⟨rfl, Mem.of_get at4002⟩
   replace at29007 : GHeap.get H29007 gV = some (.row (ndV (upd rV r.L.length a) (r2.L.set r.L.length x)) 38 true) := by
     have hx := at29007
     simp only [Int.toNat_natCast, Nat.zero_add] at hx
     rw [← ndV_set (by omega)]
     exact hx
   refine .done ?_
   refine hend _ _ ?_
   first
   | exact ⟨rfl, hst, gL, rr, .inl rfl, by rw [Rd.form_fail (by first | exact .inl h10 | exact .inr (by omega))]; exact hr.turn rkF ⟨k, hk, hu, atF, rkF.same _ _ ⟨tr, trivial⟩ hw⟩ rfl⟩
   | exact ⟨rfl, hst, gV, upd rV r.L.length a, .inr (by omega), by rw [mV.eq]; exact mV.rp.fin st29007 mV.lt mV.ag mV.far at29007⟩
  refine .seq (fun K8 hK8 => .region ?_)
  have rkM := St.refl [gR, g33, g3] H4002
  refine .mv rfl ?_
  refine .call rfl rfl rfl rfl @Tryd.call30 rfl (next_c (r := r0) (sl := .slice (nz r0.L.length g33) r0.L.length r0.L.length) ⟨k, hk, by rw [e0]; exact hu, by rw [e0L, e0]; exact at3010, hst.same _ _ ⟨tr, Ne.symm nt, trivial⟩ hw⟩) ?_
  rintro _ H38 ⟨rfl, stA, hRA⟩
  obtain ⟨kA, hkA, huA, atA, awA⟩ := hRA
  have st38 := stA
  have nx_H38 := st38.nx
  replace hst := hst.sA st38
  replace rkA := rkA.sA st38
  replace rkM := rkM.sA st38
  replace at32 := st38.s at32 ne_g32_gR.ne
  replace at33 := st38.s at33 ne_g33_gR.ne
  replace at4002 := st38.s at4002 (Ne.symm ne_gR_g3.ne)
  have lt_atA := GHeap.ltg atA
  clear mm4002
  have mm4002 : MemN _ _ _ _ _ := ⟨rfl, Mem.of_get at4002⟩
  refine .mv rfl (.nil (hK8 _ _ (.seq (fun K9 hK9 => .region ?_))))
  have hrA := hr0.turn rkA (r' := r0.take.2) ⟨kA, hkA, huA, atA, awA⟩ eTL
  refine .mv rfl (.nil (hK9 _ _ (.block (.seq (fun K10 hK10 => .region (.q rfl (.cmp rfl rfl rfl) (.mv rfl (.nil (hK10 _ _ ?_)))))))))
  refine .cond rfl ?_ ?_ <;> intro h43
  ·
   simp only [sps] at h43
   have mV := FormV.mk (i := r.L.length) (x := (⟨0, 0, []⟩ : Nd)) (a := none) hrA rkM (.inl rfl) at4002 (.inl ⟨rfl, rfl⟩) (fun q => absurd rfl q) (Rd.form_84 (n := n) hq e0 h43) (by rw [eTL]; omega)
   refine .skip ?_
   exact ⟨_, _, _, _, _, (.p rfl), mV⟩
  simp only [sps] at h43
  refine .seq (fun K11 hK11 => .region (.q rfl (.cmp rfl rfl rfl) (.mv rfl (.nil (hK11 _ _ ?_)))))
  refine .cond rfl ?_ ?_ <;> intro h45
  ·
   simp only [sps] at h45
   refine .region (.q rfl (.fieldAddr fo_38_0_Ug rfl) ?_)
   refine .r0 rfl rfl (.storeR rfl sz_2_Ug rfl rfl rfl (by assumption) (by first | exact Nat.le_of_ble_eq_true rfl | (simp; done) | (simp <;> omega))) ?_
   rintro _ H10001 ⟨rfl, st10001, at10001⟩
   have nx_H10001 := st10001.nx
   replace hst := hst.sA st10001
   replace rkA := rkA.sA st10001
   replace rkM := rkM.sA st10001
   replace at32 := st10001.s at32 ne_g32_g3.ne
   replace at33 := st10001.s at33 ne_g33_g3.ne
   replace atA := st10001.s atA ne_gR_g3.ne
   have lt_at10001 := GHeap.ltg at10001
   clear mm4002
   have mm4002 : MemN _ _ _ _ _ := ⟨rfl, Mem.of_get at4002⟩
   try simp only [Nat.zero_add, List.set_cons_succ, List.set_cons_zero] at at10001
   have mV := FormV.mk (i := r.L.length) (x := (⟨1, 0, []⟩ : Nd)) (a := none) (hr0.turn rkA (r' := r0.take.2) ⟨kA, hkA, huA, atA, hst.same _ _ ⟨tr, Ne.symm nt, trivial⟩ hw⟩ eTL) rkM (.inl rfl) at10001 (.inl ⟨rfl, rfl⟩) (fun q => absurd rfl q) (Rd.form_70 (n := n) hq e0 h45) (by rw [eTL]; omega)
   refine .nil ?_
   exact ⟨_, _, _, _, _, (.p rfl), mV⟩
  simp only [sps] at h45
  refine .seq (fun K12 hK12 => .region (.q rfl (.cmp rfl rfl rfl) (.mv rfl (.nil (hK12 _ _ ?_)))))
  refine .cond rfl ?_ ?_ <;> intro h48
  ·
   simp only [sps] at h48
   refine .region (.mv rfl ?_)
   refine .call rfl rfl rfl rfl @Tryd.call31 rfl (digitI_c (r := r0.take.2) ⟨kA, hkA, huA, atA, awA⟩) ?_
   rintro _ H51 ⟨rfl, st51, k51, hk51, hu51, at51, aw51⟩
   have nx_H51 := st51.nx
   replace hst := hst.sA st51
   replace rkA := rkA.sA st51
   replace rkM := rkM.sA st51
   replace at32 := st51.s at32 ne_g32_gR.ne
   replace at33 := st51.s at33 ne_g33_gR.ne
   replace at4002 := st51.s at4002 (Ne.symm ne_gR_g3.ne)
   have lt_at51 := GHeap.ltg at51
   clear mm4002
   have mm4002 : MemN _ _ _ _ _ := ⟨rfl, Mem.of_get at4002⟩
   refine .mv rfl ?_
   refine .call rfl rfl rfl rfl @Tryd.call32 rfl (arguments_c (r := (r0.take.2.dg 4).2) ⟨k51, hk51, hu51, at51, aw51⟩) ?_
   rintro _ H53 ⟨gX, rfl, geX, aX, st53, k53, hk53, hu53, at53, aw53⟩
   have nx_H53 := st53.nx
   replace hst := hst.sA st53
   replace rkA := rkA.sA st53
   replace rkM := rkM.sA st53
   replace at32 := st53.s at32 ne_g32_gR.ne
   replace at33 := st53.s at33 ne_g33_gR.ne
   replace at4002 := st53.s at4002 (Ne.symm ne_gR_g3.ne)
   have lt_at53 := GHeap.ltg at53
   clear mm4002
   have mm4002 : MemN _ _ _ _ _ := ⟨rfl, Mem.of_get at4002⟩
   refine .q rfl (.build bt_38_Ug rfl rfl rfl) ?_
   have lt_aX := GHeap.ltg aX
   refine .r0 rfl rfl (.fillA rfl sz_38_Ug rfl rfl rfl rfl) ?_
   rintro _ H12005 ⟨rfl, st12005, at12005⟩
   have nx_H12005 := st12005.nx
   replace hst := hst.sA st12005
   replace rkA := rkA.sA st12005
   replace rkM := rkM.sA st12005
   replace at32 := st12005.s at32 ne_g32_g3.ne
   replace at33 := st12005.s at33 ne_g33_g3.ne
   replace at53 := st12005.s at53 ne_gR_g3.ne
   replace aX := st12005.s aX
   have lt_at12005 := GHeap.ltg at12005
   clear mm4002
   have mm4002 : MemN _ _ _ _ _ := ⟨rfl, Mem.of_get at4002⟩
   have mm12005 : MemN _ _ _ _ _ := ⟨rfl, Mem.of_get at12005⟩
   have eL : (r0.take.2.dg 4).2.argu.1.L = r0.L := by rw [Rd.argu_L, Rd.dg_L, eTL]
   have mV := FormV.mk (i := r.L.length) (x := (⟨2, (r0.take.2.dg 4).1, (r0.take.2.dg 4).2.argu.2⟩ : Nd)) (a := some ⟨gX, 0, none⟩) (hr0.turn rkA (r' := (r0.take.2.dg 4).2.argu.1) ⟨k53, hk53, hu53, at53, hst.same _ _ ⟨tr, Ne.symm nt, trivial⟩ hw⟩ eL) rkM (.inl rfl) at12005 (.inr ⟨gX, rfl, by omega, GHeap.get_erase_of (GHeap.get_erase_of aX (by omega)) (by omega)⟩) (fun _ j hj => hr0.ag.far (by simp only [GHeap.next_set]; omega) j (by rw [eL] at hj; exact hj)) (Rd.form_82 (n := n) hq e0 h48) (by rw [eL]; omega)
   refine .nil ?_
   exact ⟨_, _, _, _, _, (.p rfl), mV⟩
  simp only [sps] at h48
  refine .seq (fun K13 hK13 => .region (.q rfl (.cmp rfl rfl rfl) (.mv rfl (.nil (hK13 _ _ ?_)))))
  refine .cond rfl ?_ ?_ <;> intro h55
  ·
   simp only [sps] at h55
   refine .seq (fun K14 hK14 => .region (.mv rfl ?_))
   refine .call rfl rfl rfl rfl @Tryd.call31 rfl (digitI_c (r := r0.take.2) ⟨kA, hkA, huA, atA, awA⟩) ?_
   rintro _ H58 ⟨rfl, st58, k58, hk58, hu58, at58, aw58⟩
   have nx_H58 := st58.nx
   replace hst := hst.sA st58
   replace rkA := rkA.sA st58
   replace rkM := rkM.sA st58
   replace at32 := st58.s at32 ne_g32_gR.ne
   replace at33 := st58.s at33 ne_g33_gR.ne
   replace at4002 := st58.s at4002 (Ne.symm ne_gR_g3.ne)
   have lt_at58 := GHeap.ltg at58
   clear mm4002
   have mm4002 : MemN _ _ _ _ _ := ⟨rfl, Mem.of_get at4002⟩
   refine .mv rfl (.nil (hK14 _ _ (.seq (fun K15 hK15 => .region (.mv rfl ?_)))))
   refine .call rfl rfl rfl rfl @Tryd.call33 rfl (need_c (r := (r0.take.2.dg 4).2) ⟨k58, hk58, hu58, at58, aw58⟩) ?_
   rintro _ H60 ⟨rfl, st60, k60, hk60, hu60, at60, aw60⟩
   have nx_H60 := st60.nx
   replace hst := hst.sA st60
   replace rkA := rkA.sA st60
   replace rkM := rkM.sA st60
   replace at32 := st60.s at32 ne_g32_gR.ne
   replace at33 := st60.s at33 ne_g33_gR.ne
   replace at4002 := st60.s at4002 (Ne.symm ne_gR_g3.ne)
   have lt_at60 := GHeap.ltg at60
   clear mm4002
   have mm4002 : MemN _ _ _ _ _ := ⟨rfl, Mem.of_get at4002⟩
   refine .nil (hK15 _ _ (.region (.mv rfl (.mv rfl ?_))))
   refine .call rfl rfl rfl rfl @Tryd.call34 rfl (variableI_c (r := (r0.take.2.dg 4).2.want 61) ⟨k60, hk60, hu60, at60, aw60⟩) ?_
   rintro _ H63 ⟨rfl, st63, k63, hk63, hu63, at63, aw63⟩
   have nx_H63 := st63.nx
   replace hst := hst.sA st63
   replace rkA := rkA.sA st63
   replace rkM := rkM.sA st63
   replace at32 := st63.s at32 ne_g32_gR.ne
   replace at33 := st63.s at33 ne_g33_gR.ne
   replace at4002 := st63.s at4002 (Ne.symm ne_gR_g3.ne)
   have lt_at63 := GHeap.ltg at63
   clear mm4002
   have mm4002 : MemN _ _ _ _ _ := ⟨rfl, Mem.of_get at4002⟩
   refine .R rfl (.litA rfl sl_36_A ze_2_Ud rfl rfl rfl rfl) ?_
   rintro _ H64 ⟨g64, rfl, le64, ge64, at64⟩
   have nx_H64 := le64.1
   replace hst := hst.le le64
   replace rkA := rkA.le le64
   replace rkM := rkM.le le64
   replace at32 := le64.2 _ _ at32
   replace at33 := le64.2 _ _ at33
   replace at4002 := le64.2 _ _ at4002
   replace at63 := le64.2 _ _ at63
   have lt_at64 := GHeap.ltg at64
   clear mm4002
   have mm4002 : MemN _ _ _ _ _ := ⟨rfl, Mem.of_get at4002⟩
   refine .q rfl (.build bt_38_Ug rfl rfl rfl) ?_
   refine .r0 rfl rfl (.fillA rfl sz_38_Ug rfl rfl rfl rfl) ?_
   rintro _ H16005 ⟨rfl, st16005, at16005⟩
   have nx_H16005 := st16005.nx
   replace hst := hst.sA st16005
   replace rkA := rkA.sA st16005
   replace rkM := rkM.sA st16005
   replace at32 := st16005.s at32 ne_g32_g3.ne
   replace at33 := st16005.s at33 ne_g33_g3.ne
   replace at63 := st16005.s at63 ne_gR_g3.ne
   replace at64 := st16005.s at64
   have lt_at16005 := GHeap.ltg at16005
   clear mm4002
   have mm4002 : MemN _ _ _ _ _ := ⟨rfl, Mem.of_get at4002⟩
   have mm16005 : MemN _ _ _ _ _ := ⟨rfl, Mem.of_get at16005⟩
   have eL : ((r0.take.2.dg 4).2.want 61).var.2.L = r0.L := by rw [Rd.var_L, Rd.want_L, Rd.dg_L, eTL]
   have mV := FormV.mk (i := r.L.length) (x := (⟨3, 0, [(r0.take.2.dg 4).1, ((r0.take.2.dg 4).2.want 61).var.1]⟩ : Nd)) (a := some ⟨g64, 0, none⟩) (hr0.turn rkA (r' := ((r0.take.2.dg 4).2.want 61).var.2) ⟨k63, hk63, hu63, at63, hst.same _ _ ⟨tr, Ne.symm nt, trivial⟩ hw⟩ eL) rkM (.inl rfl) at16005 (.inr ⟨g64, rfl, by omega, GHeap.get_erase_of (GHeap.get_erase_of at64 (by omega)) (by omega)⟩) (fun _ j hj => hr0.ag.far (by simp only [GHeap.next_set]; omega) j (by rw [eL] at hj; exact hj)) (Rd.form_118 (n := n) hq e0 h55) (by rw [eL]; omega)
   refine .nil ?_
   exact ⟨_, _, _, _, _, (.p rfl), mV⟩
  simp only [sps] at h55
  refine .seq (fun K16 hK16 => .seq (fun K17 hK17 => .region (.q rfl (.cmp rfl rfl rfl) (.mv rfl (.nil (hK17 _ _ ?_))))))
  refine .cond rfl ?_ ?_ <;> intro h66
  ·
   simp only [sps] at h66
   refine .skip (hK16 _ _ ?_)
   refine .cond rfl ?_ ?_ <;> intro h66
   ·
    simp only [sps] at h66
    refine .seq (fun K18 hK18 => .region (.mv rfl ?_))
    refine .call rfl rfl rfl rfl @Tryd.call31 rfl (digitI_c (r := r0.take.2) ⟨kA, hkA, huA, atA, awA⟩) ?_
    rintro _ H70 ⟨rfl, st70, kQ, hkQ, huQ, atQ, awQ⟩
    have nx_H70 := st70.nx
    replace hst := hst.sA st70
    replace rkA := rkA.sA st70
    replace rkM := rkM.sA st70
    replace at32 := st70.s at32 ne_g32_gR.ne
    replace at33 := st70.s at33 ne_g33_gR.ne
    replace at4002 := st70.s at4002 (Ne.symm ne_gR_g3.ne)
    have lt_atQ := GHeap.ltg atQ
    clear mm4002
    have mm4002 : MemN _ _ _ _ _ := ⟨rfl, Mem.of_get at4002⟩
    refine .q rfl (.build bt_38_Ug rfl rfl rfl) ?_
    refine .r0 rfl rfl (.fillA rfl sz_38_Ug rfl rfl rfl rfl) ?_
    rintro _ H19003 ⟨rfl, st19003, at19003⟩
    have nx_H19003 := st19003.nx
    replace hst := hst.sA st19003
    replace rkA := rkA.sA st19003
    replace rkM := rkM.sA st19003
    replace at32 := st19003.s at32 ne_g32_g3.ne
    replace at33 := st19003.s at33 ne_g33_g3.ne
    replace atQ := st19003.s atQ ne_gR_g3.ne
    have lt_at19003 := GHeap.ltg at19003
    clear mm4002
    have mm4002 : MemN _ _ _ _ _ := ⟨rfl, Mem.of_get at4002⟩
    have mm19003 : MemN _ _ _ _ _ := ⟨rfl, Mem.of_get at19003⟩
    have a3Q : ∀ y : Nd, y = ⟨7, (r0.take.2.dg 3).1, []⟩ → GHeap.get H19003 g3 = some (.row (y.cells none) 38 true) := fun y hy => by rw [hy]; exact at19003
    refine .nil (hK18 _ _ (.seq (fun K19 hK19 => .seq (fun K20 hK20 => .region (.mv rfl (.q rfl (.cmp rfl rfl rfl) (.nil (hK20 _ _ ?_))))))))
    refine .cond rfl ?_ ?_ <;> intro h73
    ·
     simp only [sps] at h73
     have huE := Rd.take_lt (Rd.take_ne h73 (by decide))
     obtain ⟨xE, exE⟩ : ∃ x : Nd, x = ⟨8, (r0.take.2.dg 3).1, []⟩ := ⟨_, rfl⟩
     have hfm : r.form (n + 1) = (Rd.form n ((r0.take.2.dg 3).2.want 46)).fin r.L.length xE := by rw [exE]; exact Rd.form_65 hq e0 h73
     refine .region (.q rfl (.fieldAddr fo_38_0_Ug rfl) ?_)
     refine .r0 rfl rfl (.storeR rfl sz_2_Ug rfl rfl rfl (by assumption) (by first | exact Nat.le_of_ble_eq_true rfl | (simp; done) | (simp <;> omega))) ?_
     rintro _ H21001 ⟨rfl, st21001, at21001⟩
     have nx_H21001 := st21001.nx
     replace hst := hst.sA st21001
     replace rkA := rkA.sA st21001
     replace rkM := rkM.sA st21001
     replace at32 := st21001.s at32 ne_g32_g3.ne
     replace at33 := st21001.s at33 ne_g33_g3.ne
     replace atQ := st21001.s atQ ne_gR_g3.ne
     have lt_at21001 := GHeap.ltg at21001
     clear mm4002
     have mm4002 : MemN _ _ _ _ _ := ⟨rfl, Mem.of_get at4002⟩
     clear mm19003
     have mm19003 : MemN _ _ _ _ _ := ⟨rfl, Mem.of_get at19003⟩
     try simp only [Nat.zero_add, List.set_cons_succ, List.set_cons_zero] at at21001
     have a3E : GHeap.get H21001 g3 = some (.row (xE.cells none) 38 true) := by rw [exE]; exact at21001
     refine .nil (hK19 _ _ (.seq (fun K21 hK21 => .region (.mv rfl ?_))))
     have lt_a3E := GHeap.ltg a3E
     refine .call rfl rfl rfl rfl @Tryd.call33 rfl (need_c (r := (r0.take.2.dg 3).2) ⟨kQ, hkQ, huQ, atQ, hst.same _ _ ⟨tr, Ne.symm nt, trivial⟩ hw⟩) ?_
     rintro _ H76 ⟨rfl, st76, kN, hkN, huN, atN, awN⟩
     have nx_H76 := st76.nx
     replace hst := hst.sA st76
     replace rkA := rkA.sA st76
     replace rkM := rkM.sA st76
     replace at32 := st76.s at32 ne_g32_gR.ne
     replace at33 := st76.s at33 ne_g33_gR.ne
     replace at21001 := st76.s at21001 (Ne.symm ne_gR_g3.ne)
     replace a3E := st76.s a3E (Ne.symm ne_gR_g3.ne)
     have lt_atN := GHeap.ltg atN
     clear mm4002
     have mm4002 : MemN _ _ _ _ _ := ⟨rfl, Mem.of_get at4002⟩
     clear mm19003
     have mm19003 : MemN _ _ _ _ _ := ⟨rfl, Mem.of_get at19003⟩
     refine .nil (hK21 _ _ (.region (.mv rfl ?_)))
     refine .call rfl rfl rfl rfl @Tryd.call24 rfl (ih (hr0.turn rkA (r' := (r0.take.2.dg 3).2.want 46) ⟨kN, hkN, huN, atN, awN⟩ (by rw [Rd.want_L, Rd.dg_L, eTL])) hW hs (by rw [Rd.want_L, Rd.dg_L, eTL]; omega) (by have q1 := Rd.want_len (r0.take.2.dg 3).2 46; have q2 := Rd.dg_len r0.take.2 3; omega) (by omega)) ?_
     rintro _ H78 ⟨rfl, st78, gD, rD, orD, hrD⟩
     have nx_H78 := st78.nx
     replace hst := hst.sA st78
     replace rkM := rkM.sA st78
     have ne_g32_g33 : NE g32 g33 := .a
     replace at32 := st78.same _ _ ⟨ne_g32_gR.ne, ne_g32_g33.ne, trivial⟩ at32
     replace at21001 := st78.same _ _ ⟨(Ne.symm ne_gR_g3.ne), (Ne.symm ne_g33_g3.ne), trivial⟩ at21001
     replace a3E := st78.same _ _ ⟨(Ne.symm ne_gR_g3.ne), (Ne.symm ne_g33_g3.ne), trivial⟩ a3E
     clear mm4002
     have mm4002 : MemN _ _ _ _ _ := ⟨rfl, Mem.of_get at4002⟩
     clear mm19003
     have mm19003 : MemN _ _ _ _ _ := ⟨rfl, Mem.of_get at19003⟩
     have q4 := (Rd.form_40 n ((r0.take.2.dg 3).2.want 46) (by rw [Rd.want_L, Rd.dg_L, eTL]; omega)).1
     rw [Rd.want_L, Rd.dg_L, eTL] at q4
     have mV := FormV.mk (i := r.L.length) (x := xE) (a := none) hrD rkM (by omega) a3E (.inl ⟨rfl, by rw [exE]⟩) (fun q => absurd rfl q) hfm (by omega)
     refine .nil ?_
     exact ⟨_, _, _, _, _, (.p rfl), mV⟩
    simp only [sps] at h73
    have h69 : r0.take.1 = 69 := by omega
    have huE := Rd.take_lt (Rd.take_ne h69 (by decide))
    obtain ⟨xE, exE⟩ : ∃ x : Nd, x = ⟨7, (r0.take.2.dg 3).1, []⟩ := ⟨_, rfl⟩
    have hfm : r.form (n + 1) = (Rd.form n ((r0.take.2.dg 3).2.want 46)).fin r.L.length xE := by rw [exE]; exact Rd.form_69 hq e0 h69
    have a3E := a3Q xE exE
    refine .skip (hK19 _ _ (.seq (fun K22 hK22 => .region (.mv rfl ?_))))
    have lt_a3E := GHeap.ltg a3E
    refine .call rfl rfl rfl rfl @Tryd.call33 rfl (need_c (r := (r0.take.2.dg 3).2) ⟨kQ, hkQ, huQ, atQ, hst.same _ _ ⟨tr, Ne.symm nt, trivial⟩ hw⟩) ?_
    rintro _ H76x2 ⟨rfl, st76x2, kN, hkN, huN, atN, awN⟩
    have nx_H76x2 := st76x2.nx
    replace hst := hst.sA st76x2
    replace rkA := rkA.sA st76x2
    replace rkM := rkM.sA st76x2
    replace at32 := st76x2.s at32 ne_g32_gR.ne
    replace at33 := st76x2.s at33 ne_g33_gR.ne
    replace at19003 := st76x2.s at19003 (Ne.symm ne_gR_g3.ne)
    replace a3E := st76x2.s a3E (Ne.symm ne_gR_g3.ne)
    have lt_atN := GHeap.ltg atN
    clear mm4002
    have mm4002 : MemN _ _ _ _ _ := ⟨rfl, Mem.of_get at4002⟩
    clear mm19003
    have mm19003 : MemN _ _ _ _ _ := ⟨rfl, Mem.of_get at19003⟩
    refine .nil (hK22 _ _ (.region (.mv rfl ?_)))
    refine .call rfl rfl rfl rfl @Tryd.call24 rfl (ih (hr0.turn rkA (r' := (r0.take.2.dg 3).2.want 46) ⟨kN, hkN, huN, atN, awN⟩ (by rw [Rd.want_L, Rd.dg_L, eTL])) hW hs (by rw [Rd.want_L, Rd.dg_L, eTL]; omega) (by have q1 := Rd.want_len (r0.take.2.dg 3).2 46; have q2 := Rd.dg_len r0.take.2 3; omega) (by omega)) ?_
    rintro _ H78x2 ⟨rfl, st78x2, gD, rD, orD, hrD⟩
    have nx_H78x2 := st78x2.nx
    replace hst := hst.sA st78x2
    replace rkM := rkM.sA st78x2
    have ne_g32_g33 : NE g32 g33 := .a
    replace at32 := st78x2.same _ _ ⟨ne_g32_gR.ne, ne_g32_g33.ne, trivial⟩ at32
    replace at19003 := st78x2.same _ _ ⟨(Ne.symm ne_gR_g3.ne), (Ne.symm ne_g33_g3.ne), trivial⟩ at19003
    replace a3E := st78x2.same _ _ ⟨(Ne.symm ne_gR_g3.ne), (Ne.symm ne_g33_g3.ne), trivial⟩ a3E
    clear mm4002
    have mm4002 : MemN _ _ _ _ _ := ⟨rfl, Mem.of_get at4002⟩
    clear mm19003
    have mm19003 : MemN _ _ _ _ _ := ⟨rfl, Mem.of_get at19003⟩
    have q4 := (Rd.form_40 n ((r0.take.2.dg 3).2.want 46) (by rw [Rd.want_L, Rd.dg_L, eTL]; omega)).1
    rw [Rd.want_L, Rd.dg_L, eTL] at q4
    have mV := FormV.mk (i := r.L.length) (x := xE) (a := none) hrD rkM (by omega) a3E (.inl ⟨rfl, by rw [exE]⟩) (fun q => absurd rfl q) hfm (by omega)
    refine .nil ?_
    exact ⟨_, _, _, _, _, (.p rfl), mV⟩
   simp only [sps] at h66; omega
  simp only [sps] at h66
  refine .region (.q rfl (.cmp rfl rfl rfl) (.mv rfl (.nil (hK16 _ _ ?_))))
  refine .cond rfl ?_ ?_ <;> intro h66
  ·
   simp only [sps] at h66
   refine .seq (fun K23 hK23 => .region (.mv rfl ?_))
   refine .call rfl rfl rfl rfl @Tryd.call31 rfl (digitI_c (r := r0.take.2) ⟨kA, hkA, huA, atA, awA⟩) ?_
   rintro _ H70x2 ⟨rfl, st70x2, kQ, hkQ, huQ, atQ, awQ⟩
   have nx_H70x2 := st70x2.nx
   replace hst := hst.sA st70x2
   replace rkA := rkA.sA st70x2
   replace rkM := rkM.sA st70x2
   replace at32 := st70x2.s at32 ne_g32_gR.ne
   replace at33 := st70x2.s at33 ne_g33_gR.ne
   replace at4002 := st70x2.s at4002 (Ne.symm ne_gR_g3.ne)
   have lt_atQ := GHeap.ltg atQ
   clear mm4002
   have mm4002 : MemN _ _ _ _ _ := ⟨rfl, Mem.of_get at4002⟩
   refine .q rfl (.build bt_38_Ug rfl rfl rfl) ?_
   refine .r0 rfl rfl (.fillA rfl sz_38_Ug rfl rfl rfl rfl) ?_
   rintro _ H19003x2 ⟨rfl, st19003x2, at19003x2⟩
   have nx_H19003x2 := st19003x2.nx
   replace hst := hst.sA st19003x2
   replace rkA := rkA.sA st19003x2
   replace rkM := rkM.sA st19003x2
   replace at32 := st19003x2.s at32 ne_g32_g3.ne
   replace at33 := st19003x2.s at33 ne_g33_g3.ne
   replace atQ := st19003x2.s atQ ne_gR_g3.ne
   have lt_at19003x2 := GHeap.ltg at19003x2
   clear mm4002
   have mm4002 : MemN _ _ _ _ _ := ⟨rfl, Mem.of_get at4002⟩
   have mm19003x2 : MemN _ _ _ _ _ := ⟨rfl, Mem.of_get at19003x2⟩
   have a3Q : ∀ y : Nd, y = ⟨7, (r0.take.2.dg 3).1, []⟩ → GHeap.get H19003x2 g3 = some (.row (y.cells none) 38 true) := fun y hy => by rw [hy]; exact at19003x2
   refine .nil (hK23 _ _ (.seq (fun K24 hK24 => .seq (fun K25 hK25 => .region (.mv rfl (.q rfl (.cmp rfl rfl rfl) (.nil (hK25 _ _ ?_))))))))
   refine .cond rfl ?_ ?_ <;> intro h73
   ·
    simp only [sps] at h73
    have huE := Rd.take_lt (Rd.take_ne h73 (by decide))
    obtain ⟨xE, exE⟩ : ∃ x : Nd, x = ⟨8, (r0.take.2.dg 3).1, []⟩ := ⟨_, rfl⟩
    have hfm : r.form (n + 1) = (Rd.form n ((r0.take.2.dg 3).2.want 46)).fin r.L.length xE := by rw [exE]; exact Rd.form_65 hq e0 h73
    refine .region (.q rfl (.fieldAddr fo_38_0_Ug rfl) ?_)
    refine .r0 rfl rfl (.storeR rfl sz_2_Ug rfl rfl rfl (by assumption) (by first | exact Nat.le_of_ble_eq_true rfl | (simp; done) | (simp <;> omega))) ?_
    rintro _ H21001x2 ⟨rfl, st21001x2, at21001x2⟩
    have nx_H21001x2 := st21001x2.nx
    replace hst := hst.sA st21001x2
    replace rkA := rkA.sA st21001x2
    replace rkM := rkM.sA st21001x2
    replace at32 := st21001x2.s at32 ne_g32_g3.ne
    replace at33 := st21001x2.s at33 ne_g33_g3.ne
    replace atQ := st21001x2.s atQ ne_gR_g3.ne
    have lt_at21001x2 := GHeap.ltg at21001x2
    clear mm4002
    have mm4002 : MemN _ _ _ _ _ := ⟨rfl, Mem.of_get at4002⟩
    clear mm19003x2
    have mm19003x2 : MemN _ _ _ _ _ := ⟨rfl, Mem.of_get at19003x2⟩
    try simp only [Nat.zero_add, List.set_cons_succ, List.set_cons_zero] at at21001x2
    have a3E : GHeap.get H21001x2 g3 = some (.row (xE.cells none) 38 true) := by rw [exE]; exact at21001x2
    refine .nil (hK24 _ _ (.seq (fun K26 hK26 => .region (.mv rfl ?_))))
    have lt_a3E := GHeap.ltg a3E
    refine .call rfl rfl rfl rfl @Tryd.call33 rfl (need_c (r := (r0.take.2.dg 3).2) ⟨kQ, hkQ, huQ, atQ, hst.same _ _ ⟨tr, Ne.symm nt, trivial⟩ hw⟩) ?_
    rintro _ H76x3 ⟨rfl, st76x3, kN, hkN, huN, atN, awN⟩
    have nx_H76x3 := st76x3.nx
    replace hst := hst.sA st76x3
    replace rkA := rkA.sA st76x3
    replace rkM := rkM.sA st76x3
    replace at32 := st76x3.s at32 ne_g32_gR.ne
    replace at33 := st76x3.s at33 ne_g33_gR.ne
    replace at21001x2 := st76x3.s at21001x2 (Ne.symm ne_gR_g3.ne)
    replace a3E := st76x3.s a3E (Ne.symm ne_gR_g3.ne)
    have lt_atN := GHeap.ltg atN
    clear mm4002
    have mm4002 : MemN _ _ _ _ _ := ⟨rfl, Mem.of_get at4002⟩
    clear mm19003x2
    have mm19003x2 : MemN _ _ _ _ _ := ⟨rfl, Mem.of_get at19003x2⟩
    refine .nil (hK26 _ _ (.region (.mv rfl ?_)))
    refine .call rfl rfl rfl rfl @Tryd.call24 rfl (ih (hr0.turn rkA (r' := (r0.take.2.dg 3).2.want 46) ⟨kN, hkN, huN, atN, awN⟩ (by rw [Rd.want_L, Rd.dg_L, eTL])) hW hs (by rw [Rd.want_L, Rd.dg_L, eTL]; omega) (by have q1 := Rd.want_len (r0.take.2.dg 3).2 46; have q2 := Rd.dg_len r0.take.2 3; omega) (by omega)) ?_
    rintro _ H78x3 ⟨rfl, st78x3, gD, rD, orD, hrD⟩
    have nx_H78x3 := st78x3.nx
    replace hst := hst.sA st78x3
    replace rkM := rkM.sA st78x3
    have ne_g32_g33 : NE g32 g33 := .a
    replace at32 := st78x3.same _ _ ⟨ne_g32_gR.ne, ne_g32_g33.ne, trivial⟩ at32
    replace at21001x2 := st78x3.same _ _ ⟨(Ne.symm ne_gR_g3.ne), (Ne.symm ne_g33_g3.ne), trivial⟩ at21001x2
    replace a3E := st78x3.same _ _ ⟨(Ne.symm ne_gR_g3.ne), (Ne.symm ne_g33_g3.ne), trivial⟩ a3E
    clear mm4002
    have mm4002 : MemN _ _ _ _ _ := ⟨rfl, Mem.of_get at4002⟩
    clear mm19003x2
    have mm19003x2 : MemN _ _ _ _ _ := ⟨rfl, Mem.of_get at19003x2⟩
    have q4 := (Rd.form_40 n ((r0.take.2.dg 3).2.want 46) (by rw [Rd.want_L, Rd.dg_L, eTL]; omega)).1
    rw [Rd.want_L, Rd.dg_L, eTL] at q4
    have mV := FormV.mk (i := r.L.length) (x := xE) (a := none) hrD rkM (by omega) a3E (.inl ⟨rfl, by rw [exE]⟩) (fun q => absurd rfl q) hfm (by omega)
    refine .nil ?_
    exact ⟨_, _, _, _, _, (.p rfl), mV⟩
   simp only [sps] at h73
   have h69 : r0.take.1 = 69 := by omega
   have huE := Rd.take_lt (Rd.take_ne h69 (by decide))
   obtain ⟨xE, exE⟩ : ∃ x : Nd, x = ⟨7, (r0.take.2.dg 3).1, []⟩ := ⟨_, rfl⟩
   have hfm : r.form (n + 1) = (Rd.form n ((r0.take.2.dg 3).2.want 46)).fin r.L.length xE := by rw [exE]; exact Rd.form_69 hq e0 h69
   have a3E := a3Q xE exE
   refine .skip (hK24 _ _ (.seq (fun K27 hK27 => .region (.mv rfl ?_))))
   have lt_a3E := GHeap.ltg a3E
   refine .call rfl rfl rfl rfl @Tryd.call33 rfl (need_c (r := (r0.take.2.dg 3).2) ⟨kQ, hkQ, huQ, atQ, hst.same _ _ ⟨tr, Ne.symm nt, trivial⟩ hw⟩) ?_
   rintro _ H76x4 ⟨rfl, st76x4, kN, hkN, huN, atN, awN⟩
   have nx_H76x4 := st76x4.nx
   replace hst := hst.sA st76x4
   replace rkA := rkA.sA st76x4
   replace rkM := rkM.sA st76x4
   replace at32 := st76x4.s at32 ne_g32_gR.ne
   replace at33 := st76x4.s at33 ne_g33_gR.ne
   replace at19003x2 := st76x4.s at19003x2 (Ne.symm ne_gR_g3.ne)
   replace a3E := st76x4.s a3E (Ne.symm ne_gR_g3.ne)
   have lt_atN := GHeap.ltg atN
   clear mm4002
   have mm4002 : MemN _ _ _ _ _ := ⟨rfl, Mem.of_get at4002⟩
   clear mm19003x2
   have mm19003x2 : MemN _ _ _ _ _ := ⟨rfl, Mem.of_get at19003x2⟩
   refine .nil (hK27 _ _ (.region (.mv rfl ?_)))
   refine .call rfl rfl rfl rfl @Tryd.call24 rfl (ih (hr0.turn rkA (r' := (r0.take.2.dg 3).2.want 46) ⟨kN, hkN, huN, atN, awN⟩ (by rw [Rd.want_L, Rd.dg_L, eTL])) hW hs (by rw [Rd.want_L, Rd.dg_L, eTL]; omega) (by have q1 := Rd.want_len (r0.take.2.dg 3).2 46; have q2 := Rd.dg_len r0.take.2 3; omega) (by omega)) ?_
   rintro _ H78x4 ⟨rfl, st78x4, gD, rD, orD, hrD⟩
   have nx_H78x4 := st78x4.nx
   replace hst := hst.sA st78x4
   replace rkM := rkM.sA st78x4
   have ne_g32_g33 : NE g32 g33 := .a
   replace at32 := st78x4.same _ _ ⟨ne_g32_gR.ne, ne_g32_g33.ne, trivial⟩ at32
   replace at19003x2 := st78x4.same _ _ ⟨(Ne.symm ne_gR_g3.ne), (Ne.symm ne_g33_g3.ne), trivial⟩ at19003x2
   replace a3E := st78x4.same _ _ ⟨(Ne.symm ne_gR_g3.ne), (Ne.symm ne_g33_g3.ne), trivial⟩ a3E
   clear mm4002
   have mm4002 : MemN _ _ _ _ _ := ⟨rfl, Mem.of_get at4002⟩
   clear mm19003x2
   have mm19003x2 : MemN _ _ _ _ _ := ⟨rfl, Mem.of_get at19003x2⟩
   have q4 := (Rd.form_40 n ((r0.take.2.dg 3).2.want 46) (by rw [Rd.want_L, Rd.dg_L, eTL]; omega)).1
   rw [Rd.want_L, Rd.dg_L, eTL] at q4
   have mV := FormV.mk (i := r.L.length) (x := xE) (a := none) hrD rkM (by omega) a3E (.inl ⟨rfl, by rw [exE]⟩) (fun q => absurd rfl q) hfm (by omega)
   refine .nil ?_
   exact ⟨_, _, _, _, _, (.p rfl), mV⟩
  simp only [sps] at h66
  refine .seq (fun K28 hK28 => .region (.q rfl (.cmp rfl rfl rfl) (.mv rfl (.nil (hK28 _ _ ?_)))))
  refine .cond rfl ?_ ?_ <;> intro h79
  ·
   simp only [sps] at h79
   refine .seq (fun K29 hK29 => .region ?_)
   have huE := Rd.take_lt (Rd.take_ne h79 (by decide))
   refine .mv rfl ?_
   refine .call rfl rfl rfl rfl @Tryd.call24 rfl (ih hrA hW hs (by rw [eTL]; omega) (by omega) (by omega)) ?_
   rintro _ H82 ⟨rfl, st82, gD, rD, orD, hrD⟩
   have rkD := St.refl [gR, g3] H82
   have nx_H82 := st82.nx
   replace hst := hst.sA st82
   replace rkM := rkM.sA st82
   have ne_g32_g33 : NE g32 g33 := .a
   replace at32 := st82.same _ _ ⟨ne_g32_gR.ne, ne_g32_g33.ne, trivial⟩ at32
   replace at4002 := st82.same _ _ ⟨(Ne.symm ne_gR_g3.ne), (Ne.symm ne_g33_g3.ne), trivial⟩ at4002
   clear mm4002
   have mm4002 : MemN _ _ _ _ _ := ⟨rfl, Mem.of_get at4002⟩
   have a3D := at4002
   have q4 := Rd.form_40 n r0.take.2 (by rw [eTL]; omega)
   rw [eTL] at q4
   refine .nil (hK29 _ _ (.seq (fun K30 hK30 => .region (.mv rfl ?_))))
   refine .call rfl rfl rfl rfl @Tryd.call35 rfl (connective_c (r := Rd.form n r0.take.2) hrD.rd) ?_
   rintro _ H84 ⟨rfl, st84, k84, hk84, hu84, at84, aw84⟩
   have nx_H84 := st84.nx
   replace hst := hst.sA st84
   replace rkM := rkM.sA st84
   replace rkD := rkD.sA st84
   replace at32 := st84.s at32 ne_g32_gR.ne
   replace at4002 := st84.s at4002 (Ne.symm ne_gR_g3.ne)
   have lt_at84 := GHeap.ltg at84
   clear mm4002
   have mm4002 : MemN _ _ _ _ _ := ⟨rfl, Mem.of_get at4002⟩
   refine .q rfl (.fieldAddr fo_38_0_Ug rfl) ?_
   refine .r0 rfl rfl (.storeR rfl sz_2_Ug rfl rfl rfl (by assumption) (by first | exact Nat.le_of_ble_eq_true rfl | (simp; done) | (simp <;> omega))) ?_
   rintro _ H26003 ⟨rfl, st26003, at26003⟩
   have nx_H26003 := st26003.nx
   replace hst := hst.sA st26003
   replace rkM := rkM.sA st26003
   replace rkD := rkD.sA st26003
   replace at32 := st26003.s at32 ne_g32_g3.ne
   replace at84 := st26003.s at84 ne_gR_g3.ne
   have lt_at26003 := GHeap.ltg at26003
   clear mm4002
   have mm4002 : MemN _ _ _ _ _ := ⟨rfl, Mem.of_get at4002⟩
   try simp only [Nat.zero_add, List.set_cons_succ, List.set_cons_zero] at at26003
   refine .nil (hK30 _ _ (.seq (fun K31 hK31 => .region (.mv rfl ?_))))
   refine .call rfl rfl rfl rfl @Tryd.call24 rfl (ih (hrD.turn3 rkD (r' := (Rd.form n r0.take.2).conn.2) a3D rfl (by omega) ⟨k84, hk84, hu84, at84, hst.same _ _ ⟨tr, Ne.symm nt, trivial⟩ hw⟩ (Rd.conn_L _)) hW hs (by rw [Rd.conn_L]; exact q4.2) (by have q1 := Rd.conn_len (Rd.form n r0.take.2); have q2 := Rd.form_len n r0.take.2; omega) (by omega)) ?_
   rintro _ H87 ⟨rfl, st87, gG, rG, orG, hrG⟩
   have nx_H87 := st87.nx
   replace hst := hst.sA st87
   replace rkM := rkM.sA st87
   replace at32 := st87.same _ _ ⟨ne_g32_gR.ne, (by first | assumption | omega), trivial⟩ at32
   replace at26003 := st87.same _ _ ⟨(Ne.symm ne_gR_g3.ne), (by first | assumption | omega), trivial⟩ at26003
   clear mm4002
   have mm4002 : MemN _ _ _ _ _ := ⟨rfl, Mem.of_get at4002⟩
   refine .nil (hK31 _ _ (.region (.mv rfl ?_)))
   refine .call rfl rfl rfl rfl @Tryd.call33 rfl (need_c (r := Rd.form n (Rd.form n r0.take.2).conn.2) hrG.rd) ?_
   rintro _ H89 ⟨rfl, st89, k89, hk89, hu89, at89, aw89⟩
   have nx_H89 := st89.nx
   replace hst := hst.sA st89
   replace rkM := rkM.sA st89
   replace at32 := st89.s at32 ne_g32_gR.ne
   replace at26003 := st89.s at26003 (Ne.symm ne_gR_g3.ne)
   have lt_at89 := GHeap.ltg at89
   clear mm4002
   have mm4002 : MemN _ _ _ _ _ := ⟨rfl, Mem.of_get at4002⟩
   have q5 := (Rd.form_40 n (Rd.form n r0.take.2).conn.2 (by rw [Rd.conn_L]; exact q4.2)).1
   rw [Rd.conn_L] at q5
   have mV := FormV.mk (i := r.L.length) (x := (⟨(Rd.form n r0.take.2).conn.1, 0, []⟩ : Nd)) (a := none) (hrG.turn st89 (r' := (Rd.form n (Rd.form n r0.take.2).conn.2).want 41) ⟨k89, hk89, hu89, at89, aw89⟩ (Rd.want_L _ _)) rkM (by omega) at26003 (.inl ⟨rfl, rfl⟩) (fun q => absurd rfl q) (Rd.form_40c (n := n) hq e0 h79) (by rw [Rd.want_L]; omega)
   refine .nil ?_
   exact ⟨_, _, _, _, _, (.p rfl), mV⟩
  simp only [sps] at h79
  refine .region (.mv rfl (.q rfl (.nilCheck rfl) (.q rfl (.fieldAddr fo_52_2_Ud rfl) ?_)))
  refine .r0 rfl rfl (.storeR rfl sz_4_Ud rfl rfl rfl (by assumption) (by first | exact Nat.le_of_ble_eq_true rfl | (simp; done) | (simp <;> omega))) ?_
  rintro _ H7003 ⟨rfl, st7003, at7003⟩
  have nx_H7003 := st7003.nx
  replace hst := hst.sA st7003
  replace rkA := rkA.sA st7003
  replace rkM := rkM.sA st7003
  replace at32 := st7003.s at32 ne_g32_gR.ne
  replace at33 := st7003.s at33 ne_g33_gR.ne
  replace at4002 := st7003.s at4002 (Ne.symm ne_gR_g3.ne)
  have lt_at7003 := GHeap.ltg at7003
  clear mm4002
  have mm4002 : MemN _ _ _ _ _ := ⟨rfl, Mem.of_get at4002⟩
  try simp only [Nat.zero_add, List.set_cons_succ, List.set_cons_zero] at at7003
  have mV := FormV.mk (i := r.L.length) (x := (⟨0, 0, []⟩ : Nd)) (a := none) (hr0.turn rkA (r' := r0.take.2.fail) ⟨kA, hkA, huA, at7003, hst.same _ _ ⟨tr, Ne.symm nt, trivial⟩ hw⟩ eTL) rkM (.inl rfl) at4002 (.inl ⟨rfl, rfl⟩) (fun q => absurd rfl q) (Rd.form_no (n := n) hq e0 (by omega)) (by show _ < r0.take.2.L.length; rw [eTL]; omega)
  refine .nil ?_
  exact ⟨_, _, _, _, _, (.p rfl), mV⟩
end Go.Proofs.YtdnjnligclkkgaaDoor
namespace Go.Proofs.YtdnjnligclkkgaaDoor
open Go Go.GL Go.RowKit Go.Proofs
theorem fo_38_0_Ub : fieldOff Tryd.prog 38 0 = some 0 := by kernel_rfl
theorem fo_38_2_Ub : fieldOff Tryd.prog 38 2 = some 2 := by kernel_rfl
theorem on_36_Ub : oneT Tryd.prog 36 = true := by kernel_rfl
theorem fo_38_1_Ub : fieldOff Tryd.prog 38 1 = some 1 := by kernel_rfl
theorem sz_38_Ub : (Tryd.prog.info? 38).map (·.size) = some 3 := by kernel_rfl
theorem sl_22_Ub : sliceT Tryd.prog 22 = some (38, 3) := by kernel_rfl
theorem ag_38_Ub : aggT Tryd.prog 38 = some 3 := by kernel_rfl
theorem l29Parts_c {k : Int} {H : GHeap} : GCalls Tryd.prog 29 [.int .i64 k] H (Ret (.int .i64 (prt k : Int)) H) := by
  refine GCalls.body (N := 11) (rs := [.tmp 2]) Tryd.func29 rfl rfl rfl rfl (fun Qx a hend => ?_)
  refine .fg [0] rfl ?_
  refine .seq (fun K1 a2 => .region (.mv rfl (.nil (a2 _ _ (.seq (fun K2 b => .seq (fun K3 a3 => .region (.mv rfl (.nil (a3 _ _ (.block (.seq (fun K4 r => .seq (fun K5 z => .region (.q rfl (.cmp rfl rfl rfl) ?_)))))))))))))))
  refine .mv rfl (.nil (z _ _ ?_))
  refine .cond rfl ?_ ?_ <;> intro h4
  ·
   try simp only [sps] at h4
   refine .skip (r _ _ ?_)
   refine .cond rfl ?_ ?_ <;> intro h4
   ·
    try simp only [sps] at h4
    refine .seq (fun K6 a0 => .region (.mv rfl (.nil (a0 _ _ (.ret (a _ _ (⟨_, rfl, ?_⟩)))))))
    first
    | exact .of (congrArg _ (by unfold prt; rw [if_pos (by omega)]; rfl))
    | exact .of (congrArg _ (by unfold prt; rw [if_neg (by omega), if_pos (by omega)]; rfl))
    | exact .of (congrArg _ (by unfold prt; rw [if_neg (by omega), if_neg (by omega)]; rfl))
   try simp only [sps] at h4
   refine .seq (fun K7 x => .seq (fun K8 y => .region (.q rfl (.cmp rfl rfl rfl) (.mv rfl (.nil (y _ _ ?_))))))
   refine .cond rfl ?_ ?_ <;> intro h8
   ·
    try simp only [sps] at h8
    refine .skip (x _ _ ?_)
    refine .cond rfl ?_ ?_ <;> intro h8
    ·
     try simp only [sps] at h8
     refine .seq (fun K9 a1 => .region (.mv rfl (.nil (a1 _ _ (.ret (a _ _ (⟨_, rfl, ?_⟩)))))))
     first
     | exact .of (congrArg _ (by unfold prt; rw [if_pos (by omega)]; rfl))
     | exact .of (congrArg _ (by unfold prt; rw [if_neg (by omega), if_pos (by omega)]; rfl))
     | exact .of (congrArg _ (by unfold prt; rw [if_neg (by omega), if_neg (by omega)]; rfl))
    try simp only [sps] at h8
    refine .skip (b _ _ (.seq (fun K10 f => .region (.mv rfl (.nil (f _ _ (.ret (a _ _ (⟨_, rfl, ?_⟩)))))))))
    first
    | exact .of (congrArg _ (by unfold prt; rw [if_pos (by omega)]; rfl))
    | exact .of (congrArg _ (by unfold prt; rw [if_neg (by omega), if_pos (by omega)]; rfl))
    | exact .of (congrArg _ (by unfold prt; rw [if_neg (by omega), if_neg (by omega)]; rfl))
   try simp only [sps] at h8
   refine .region (.q rfl (.cmp rfl rfl rfl) (.mv rfl (.nil (x _ _ ?_))))
   refine .cond rfl ?_ ?_ <;> intro h8
   ·
    try simp only [sps] at h8
    refine .seq (fun K11 v => .region (.mv rfl (.nil (v _ _ (.ret (a _ _ (⟨_, rfl, ?_⟩)))))))
    first
    | exact .of (congrArg _ (by unfold prt; rw [if_pos (by omega)]; rfl))
    | exact .of (congrArg _ (by unfold prt; rw [if_neg (by omega), if_pos (by omega)]; rfl))
    | exact .of (congrArg _ (by unfold prt; rw [if_neg (by omega), if_neg (by omega)]; rfl))
   try simp only [sps] at h8
   refine .skip (b _ _ (.seq (fun K12 l => .region (.mv rfl (.nil (l _ _ (.ret (a _ _ (⟨_, rfl, ?_⟩)))))))))
   first
   | exact .of (congrArg _ (by unfold prt; rw [if_pos (by omega)]; rfl))
   | exact .of (congrArg _ (by unfold prt; rw [if_neg (by omega), if_pos (by omega)]; rfl))
   | exact .of (congrArg _ (by unfold prt; rw [if_neg (by omega), if_neg (by omega)]; rfl))
  try simp only [sps] at h4
  refine .seq (fun K13 p => .region (.q rfl (.cmp rfl rfl rfl) (.mv rfl (.nil (p _ _ ?_)))))
  refine .cond rfl ?_ ?_ <;> intro h4
  ·
   try simp only [sps] at h4
   refine .skip (r _ _ ?_)
   refine .cond rfl ?_ ?_ <;> intro h4
   ·
    try simp only [sps] at h4
    refine .seq (fun K14 e => .region (.mv rfl (.nil (e _ _ (.ret (a _ _ (⟨_, rfl, ?_⟩)))))))
    first
    | exact .of (congrArg _ (by unfold prt; rw [if_pos (by omega)]; rfl))
    | exact .of (congrArg _ (by unfold prt; rw [if_neg (by omega), if_pos (by omega)]; rfl))
    | exact .of (congrArg _ (by unfold prt; rw [if_neg (by omega), if_neg (by omega)]; rfl))
   try simp only [sps] at h4
   refine .seq (fun K15 d => .seq (fun K16 w => .region (.q rfl (.cmp rfl rfl rfl) (.mv rfl (.nil (w _ _ ?_))))))
   refine .cond rfl ?_ ?_ <;> intro h8
   ·
    try simp only [sps] at h8
    refine .skip (d _ _ ?_)
    refine .cond rfl ?_ ?_ <;> intro h8
    ·
     try simp only [sps] at h8
     refine .seq (fun K17 g => .region (.mv rfl (.nil (g _ _ (.ret (a _ _ (⟨_, rfl, ?_⟩)))))))
     first
     | exact .of (congrArg _ (by unfold prt; rw [if_pos (by omega)]; rfl))
     | exact .of (congrArg _ (by unfold prt; rw [if_neg (by omega), if_pos (by omega)]; rfl))
     | exact .of (congrArg _ (by unfold prt; rw [if_neg (by omega), if_neg (by omega)]; rfl))
    try simp only [sps] at h8
    refine .skip (b _ _ (.seq (fun K18 m => .region (.mv rfl (.nil (m _ _ (.ret (a _ _ (⟨_, rfl, ?_⟩)))))))))
    first
    | exact .of (congrArg _ (by unfold prt; rw [if_pos (by omega)]; rfl))
    | exact .of (congrArg _ (by unfold prt; rw [if_neg (by omega), if_pos (by omega)]; rfl))
    | exact .of (congrArg _ (by unfold prt; rw [if_neg (by omega), if_neg (by omega)]; rfl))
   try simp only [sps] at h8
   refine .region (.q rfl (.cmp rfl rfl rfl) (.mv rfl (.nil (d _ _ ?_))))
   refine .cond rfl ?_ ?_ <;> intro h8
   ·
    try simp only [sps] at h8
    refine .seq (fun K19 n => .region (.mv rfl (.nil (n _ _ (.ret (a _ _ (⟨_, rfl, ?_⟩)))))))
    first
    | exact .of (congrArg _ (by unfold prt; rw [if_pos (by omega)]; rfl))
    | exact .of (congrArg _ (by unfold prt; rw [if_neg (by omega), if_pos (by omega)]; rfl))
    | exact .of (congrArg _ (by unfold prt; rw [if_neg (by omega), if_neg (by omega)]; rfl))
   try simp only [sps] at h8
   refine .skip (b _ _ (.seq (fun K20 t => .region (.mv rfl (.nil (t _ _ (.ret (a _ _ (⟨_, rfl, ?_⟩)))))))))
   first
   | exact .of (congrArg _ (by unfold prt; rw [if_pos (by omega)]; rfl))
   | exact .of (congrArg _ (by unfold prt; rw [if_neg (by omega), if_pos (by omega)]; rfl))
   | exact .of (congrArg _ (by unfold prt; rw [if_neg (by omega), if_neg (by omega)]; rfl))
  try simp only [sps] at h4
  refine .region (.q rfl (.cmp rfl rfl rfl) (.mv rfl (.nil (r _ _ ?_))))
  refine .cond rfl ?_ ?_ <;> intro h4
  ·
   try simp only [sps] at h4
   refine .seq (fun K21 i => .region (.mv rfl (.nil (i _ _ (.ret (a _ _ (⟨_, rfl, ?_⟩)))))))
   first
   | exact .of (congrArg _ (by unfold prt; rw [if_pos (by omega)]; rfl))
   | exact .of (congrArg _ (by unfold prt; rw [if_neg (by omega), if_pos (by omega)]; rfl))
   | exact .of (congrArg _ (by unfold prt; rw [if_neg (by omega), if_neg (by omega)]; rfl))
  try simp only [sps] at h4
  refine .seq (fun K22 c => .seq (fun K23 s => .region (.q rfl (.cmp rfl rfl rfl) (.mv rfl (.nil (s _ _ ?_))))))
  refine .cond rfl ?_ ?_ <;> intro h8
  ·
   try simp only [sps] at h8
   refine .skip (c _ _ ?_)
   refine .cond rfl ?_ ?_ <;> intro h8
   ·
    try simp only [sps] at h8
    refine .seq (fun K24 o => .region (.mv rfl (.nil (o _ _ (.ret (a _ _ (⟨_, rfl, ?_⟩)))))))
    first
    | exact .of (congrArg _ (by unfold prt; rw [if_pos (by omega)]; rfl))
    | exact .of (congrArg _ (by unfold prt; rw [if_neg (by omega), if_pos (by omega)]; rfl))
    | exact .of (congrArg _ (by unfold prt; rw [if_neg (by omega), if_neg (by omega)]; rfl))
   try simp only [sps] at h8
   refine .skip (b _ _ (.seq (fun K25 j => .region (.mv rfl (.nil (j _ _ (.ret (a _ _ (⟨_, rfl, ?_⟩)))))))))
   first
   | exact .of (congrArg _ (by unfold prt; rw [if_pos (by omega)]; rfl))
   | exact .of (congrArg _ (by unfold prt; rw [if_neg (by omega), if_pos (by omega)]; rfl))
   | exact .of (congrArg _ (by unfold prt; rw [if_neg (by omega), if_neg (by omega)]; rfl))
  try simp only [sps] at h8
  refine .region (.q rfl (.cmp rfl rfl rfl) (.mv rfl (.nil (c _ _ ?_))))
  refine .cond rfl ?_ ?_ <;> intro h8
  ·
   try simp only [sps] at h8
   refine .seq (fun K26 h => .region (.mv rfl (.nil (h _ _ (.ret (a _ _ (⟨_, rfl, ?_⟩)))))))
   first
   | exact .of (congrArg _ (by unfold prt; rw [if_pos (by omega)]; rfl))
   | exact .of (congrArg _ (by unfold prt; rw [if_neg (by omega), if_pos (by omega)]; rfl))
   | exact .of (congrArg _ (by unfold prt; rw [if_neg (by omega), if_neg (by omega)]; rfl))
  try simp only [sps] at h8
  refine .skip (b _ _ (.seq (fun K27 u => .region (.mv rfl (.nil (u _ _ (.ret (a _ _ (⟨_, rfl, ?_⟩)))))))))
  first
  | exact .of (congrArg _ (by unfold prt; rw [if_pos (by omega)]; rfl))
  | exact .of (congrArg _ (by unfold prt; rw [if_neg (by omega), if_pos (by omega)]; rfl))
  | exact .of (congrArg _ (by unfold prt; rw [if_neg (by omega), if_neg (by omega)]; rfl))
theorem parts_c {g o : Nat} {x : Nd} {a : Option Addr} {H : GHeap} (h : Mem H g o (x.cells a)) : GCalls Tryd.prog 41 [.pointer (some ⟨g, o, none⟩)] H (Ret (.int .i64 (prt x.k : Int)) H) := by
  have _ : H.cell g o = some (.int .i64 x.k) := h 0 _ rfl
  refine GCalls.body (N := 14) (rs := [.tmp 2]) Tryd.func41 rfl rfl rfl rfl (fun Qx b hend => ?_)
  refine .fg [0] rfl ?_
  refine .seq (fun K1 a8 => .region (.mv rfl (.nil (a8 _ _ (.seq (fun K2 d => .seq (fun K3 a9 => .region (.mv rfl (.q rfl (.nilCheck rfl) (.q rfl (.fieldAddr fo_38_0_Ub rfl) (.q rfl (.lA on_2_A rfl) (.nil (a9 _ _ (.block (.seq (fun K4 w => ?_))))))))))))))))
  refine .seq (fun K5 a5 => .region (.q rfl (.cmp rfl rfl rfl) (.mv rfl (.nil (a5 _ _ ?_)))))
  refine .cond rfl ?_ ?_ <;> intro h7
  ·
   try simp only [sps] at h7
   refine .skip (w _ _ ?_)
   refine .cond rfl ?_ ?_ <;> intro h7
   ·
    try simp only [sps] at h7
    refine .seq (fun K6 a6 => .region (.mv rfl (.nil (a6 _ _ (.ret (b _ _ (⟨_, rfl, ?_⟩)))))))
    first
    | exact .of (congrArg _ (by unfold prt; rw [if_pos (by omega)]; rfl))
    | exact .of (congrArg _ (by unfold prt; rw [if_neg (by omega), if_pos (by omega)]; rfl))
    | exact .of (congrArg _ (by unfold prt; rw [if_neg (by omega), if_neg (by omega)]; rfl))
   try simp only [sps] at h7
   refine .seq (fun K7 a3 => .seq (fun K8 a4 => .region (.q rfl (.cmp rfl rfl rfl) (.mv rfl (.nil (a4 _ _ ?_))))))
   refine .cond rfl ?_ ?_ <;> intro c
   ·
    try simp only [sps] at c
    refine .skip (a3 _ _ ?_)
    refine .cond rfl ?_ ?_ <;> intro c
    ·
     try simp only [sps] at c
     refine .seq (fun K9 a7 => .region (.mv rfl (.nil (a7 _ _ (.ret (b _ _ (⟨_, rfl, ?_⟩)))))))
     first
     | exact .of (congrArg _ (by unfold prt; rw [if_pos (by omega)]; rfl))
     | exact .of (congrArg _ (by unfold prt; rw [if_neg (by omega), if_pos (by omega)]; rfl))
     | exact .of (congrArg _ (by unfold prt; rw [if_neg (by omega), if_neg (by omega)]; rfl))
    try simp only [sps] at c
    refine .skip (d _ _ (.seq (fun K10 j => .region (.mv rfl (.nil (j _ _ (.ret (b _ _ (⟨_, rfl, ?_⟩)))))))))
    first
    | exact .of (congrArg _ (by unfold prt; rw [if_pos (by omega)]; rfl))
    | exact .of (congrArg _ (by unfold prt; rw [if_neg (by omega), if_pos (by omega)]; rfl))
    | exact .of (congrArg _ (by unfold prt; rw [if_neg (by omega), if_neg (by omega)]; rfl))
   try simp only [sps] at c
   refine .region (.q rfl (.cmp rfl rfl rfl) (.mv rfl (.nil (a3 _ _ ?_))))
   refine .cond rfl ?_ ?_ <;> intro c
   ·
    try simp only [sps] at c
    refine .seq (fun K11 a1 => .region (.mv rfl (.nil (a1 _ _ (.ret (b _ _ (⟨_, rfl, ?_⟩)))))))
    first
    | exact .of (congrArg _ (by unfold prt; rw [if_pos (by omega)]; rfl))
    | exact .of (congrArg _ (by unfold prt; rw [if_neg (by omega), if_pos (by omega)]; rfl))
    | exact .of (congrArg _ (by unfold prt; rw [if_neg (by omega), if_neg (by omega)]; rfl))
   try simp only [sps] at c
   refine .skip (d _ _ (.seq (fun K12 r => .region (.mv rfl (.nil (r _ _ (.ret (b _ _ (⟨_, rfl, ?_⟩)))))))))
   first
   | exact .of (congrArg _ (by unfold prt; rw [if_pos (by omega)]; rfl))
   | exact .of (congrArg _ (by unfold prt; rw [if_neg (by omega), if_pos (by omega)]; rfl))
   | exact .of (congrArg _ (by unfold prt; rw [if_neg (by omega), if_neg (by omega)]; rfl))
  try simp only [sps] at h7
  refine .seq (fun K13 v => .region (.q rfl (.cmp rfl rfl rfl) (.mv rfl (.nil (v _ _ ?_)))))
  refine .cond rfl ?_ ?_ <;> intro h7
  ·
   try simp only [sps] at h7
   refine .skip (w _ _ ?_)
   refine .cond rfl ?_ ?_ <;> intro h7
   ·
    try simp only [sps] at h7
    refine .seq (fun K14 i => .region (.mv rfl (.nil (i _ _ (.ret (b _ _ (⟨_, rfl, ?_⟩)))))))
    first
    | exact .of (congrArg _ (by unfold prt; rw [if_pos (by omega)]; rfl))
    | exact .of (congrArg _ (by unfold prt; rw [if_neg (by omega), if_pos (by omega)]; rfl))
    | exact .of (congrArg _ (by unfold prt; rw [if_neg (by omega), if_neg (by omega)]; rfl))
   try simp only [sps] at h7
   refine .seq (fun K15 f => .seq (fun K16 a2 => .region (.q rfl (.cmp rfl rfl rfl) (.mv rfl (.nil (a2 _ _ ?_))))))
   refine .cond rfl ?_ ?_ <;> intro c
   ·
    try simp only [sps] at c
    refine .skip (f _ _ ?_)
    refine .cond rfl ?_ ?_ <;> intro c
    ·
     try simp only [sps] at c
     refine .seq (fun K17 l => .region (.mv rfl (.nil (l _ _ (.ret (b _ _ (⟨_, rfl, ?_⟩)))))))
     first
     | exact .of (congrArg _ (by unfold prt; rw [if_pos (by omega)]; rfl))
     | exact .of (congrArg _ (by unfold prt; rw [if_neg (by omega), if_pos (by omega)]; rfl))
     | exact .of (congrArg _ (by unfold prt; rw [if_neg (by omega), if_neg (by omega)]; rfl))
    try simp only [sps] at c
    refine .skip (d _ _ (.seq (fun K18 s => .region (.mv rfl (.nil (s _ _ (.ret (b _ _ (⟨_, rfl, ?_⟩)))))))))
    first
    | exact .of (congrArg _ (by unfold prt; rw [if_pos (by omega)]; rfl))
    | exact .of (congrArg _ (by unfold prt; rw [if_neg (by omega), if_pos (by omega)]; rfl))
    | exact .of (congrArg _ (by unfold prt; rw [if_neg (by omega), if_neg (by omega)]; rfl))
   try simp only [sps] at c
   refine .region (.q rfl (.cmp rfl rfl rfl) (.mv rfl (.nil (f _ _ ?_))))
   refine .cond rfl ?_ ?_ <;> intro c
   ·
    try simp only [sps] at c
    refine .seq (fun K19 t => .region (.mv rfl (.nil (t _ _ (.ret (b _ _ (⟨_, rfl, ?_⟩)))))))
    first
    | exact .of (congrArg _ (by unfold prt; rw [if_pos (by omega)]; rfl))
    | exact .of (congrArg _ (by unfold prt; rw [if_neg (by omega), if_pos (by omega)]; rfl))
    | exact .of (congrArg _ (by unfold prt; rw [if_neg (by omega), if_neg (by omega)]; rfl))
   try simp only [sps] at c
   refine .skip (d _ _ (.seq (fun K20 z => .region (.mv rfl (.nil (z _ _ (.ret (b _ _ (⟨_, rfl, ?_⟩)))))))))
   first
   | exact .of (congrArg _ (by unfold prt; rw [if_pos (by omega)]; rfl))
   | exact .of (congrArg _ (by unfold prt; rw [if_neg (by omega), if_pos (by omega)]; rfl))
   | exact .of (congrArg _ (by unfold prt; rw [if_neg (by omega), if_neg (by omega)]; rfl))
  try simp only [sps] at h7
  refine .region (.q rfl (.cmp rfl rfl rfl) (.mv rfl (.nil (w _ _ ?_))))
  refine .cond rfl ?_ ?_ <;> intro h7
  ·
   try simp only [sps] at h7
   refine .seq (fun K21 n => .region (.mv rfl (.nil (n _ _ (.ret (b _ _ (⟨_, rfl, ?_⟩)))))))
   first
   | exact .of (congrArg _ (by unfold prt; rw [if_pos (by omega)]; rfl))
   | exact .of (congrArg _ (by unfold prt; rw [if_neg (by omega), if_pos (by omega)]; rfl))
   | exact .of (congrArg _ (by unfold prt; rw [if_neg (by omega), if_neg (by omega)]; rfl))
  try simp only [sps] at h7
  refine .seq (fun K22 e => .seq (fun K23 y => .region (.q rfl (.cmp rfl rfl rfl) (.mv rfl (.nil (y _ _ ?_))))))
  refine .cond rfl ?_ ?_ <;> intro c
  ·
   try simp only [sps] at c
   refine .skip (e _ _ ?_)
   refine .cond rfl ?_ ?_ <;> intro c
   ·
    try simp only [sps] at c
    refine .seq (fun K24 u => .region (.mv rfl (.nil (u _ _ (.ret (b _ _ (⟨_, rfl, ?_⟩)))))))
    first
    | exact .of (congrArg _ (by unfold prt; rw [if_pos (by omega)]; rfl))
    | exact .of (congrArg _ (by unfold prt; rw [if_neg (by omega), if_pos (by omega)]; rfl))
    | exact .of (congrArg _ (by unfold prt; rw [if_neg (by omega), if_neg (by omega)]; rfl))
   try simp only [sps] at c
   refine .skip (d _ _ (.seq (fun K25 p => .region (.mv rfl (.nil (p _ _ (.ret (b _ _ (⟨_, rfl, ?_⟩)))))))))
   first
   | exact .of (congrArg _ (by unfold prt; rw [if_pos (by omega)]; rfl))
   | exact .of (congrArg _ (by unfold prt; rw [if_neg (by omega), if_pos (by omega)]; rfl))
   | exact .of (congrArg _ (by unfold prt; rw [if_neg (by omega), if_neg (by omega)]; rfl))
  try simp only [sps] at c
  refine .region (.q rfl (.cmp rfl rfl rfl) (.mv rfl (.nil (e _ _ ?_))))
  refine .cond rfl ?_ ?_ <;> intro c
  ·
   try simp only [sps] at c
   refine .seq (fun K26 m => .region (.mv rfl (.nil (m _ _ (.ret (b _ _ (⟨_, rfl, ?_⟩)))))))
   first
   | exact .of (congrArg _ (by unfold prt; rw [if_pos (by omega)]; rfl))
   | exact .of (congrArg _ (by unfold prt; rw [if_neg (by omega), if_pos (by omega)]; rfl))
   | exact .of (congrArg _ (by unfold prt; rw [if_neg (by omega), if_neg (by omega)]; rfl))
  try simp only [sps] at c
  refine .skip (d _ _ (.seq (fun K27 a0 => .region (.mv rfl (.nil (a0 _ _ (.ret (b _ _ (⟨_, rfl, ?_⟩)))))))))
  first
  | exact .of (congrArg _ (by unfold prt; rw [if_pos (by omega)]; rfl))
  | exact .of (congrArg _ (by unfold prt; rw [if_neg (by omega), if_pos (by omega)]; rfl))
  | exact .of (congrArg _ (by unfold prt; rw [if_neg (by omega), if_neg (by omega)]; rfl))
theorem isNode_c {g o : Nat} {x : Nd} {a : Option Addr} {H : GHeap} (h : Mem H g o (x.cells a)) (hx : Ints H a x.az) (hl : x.az.length ≤ 1048576) : GCalls Tryd.prog 37 [.pointer (some ⟨g, o, none⟩)] H (Ret (.bool (B x.Ok)) H) := by
  have _ : H.cell g o = some (.int .i64 x.k) := h 0 _ rfl
  have _ : H.cell g (o + 1) = some (.int .i64 x.s) := h 1 _ rfl
  have _ : H.cell g (o + 2) = some (.slice a x.az.length x.az.length) := h 2 _ rfl
  refine GCalls.body (N := 69) (rs := [.tmp 2]) Tryd.func37 rfl rfl rfl rfl (fun Qx b hend => ?_)
  refine .fg [0] rfl ?_
  refine .seq (fun K1 a7 => .region (.mv rfl (.nil (a7 _ _ (.seq (fun K2 a3 => .seq (fun K3 a8 => .region (.mv rfl (.q rfl (.nilCheck rfl) (.q rfl (.fieldAddr fo_38_2_Ub rfl) (.q rfl (.lA on_36_Ub rfl) ?_)))))))))))
  refine .callQ rfl rfl rfl rfl @Tryd.call40 rfl (within_c) ?_
  refine .q rfl (.not rfl) (.nil (a8 _ _ ?_))
  refine .cond rfl ?_ ?_ <;> intro h9
  ·
   have hn : ¬ ∀ v ∈ x.az, Sm v := fun q => absurd ((Nd.ok_as x).2 q) (by simpa using h9)
   refine .seq (fun K4 a6 => .region (.mv rfl (.nil (a6 _ _ (.ret (b _ _ (⟨_, rfl, ?_⟩)))))))
   first
   | exact .of (congrArg _ (B_false (Nd.ok_no hn)))
   | exact .of (congrArg Value.bool (B_as (by rw [Nd.ok_2 hn (by omega)]; first | (rw [decide_eq_true_iff]; omega) | (rw [beq_iff_eq]; omega) | (simp only [Bool.false_eq_true, false_iff]; omega))))
   | exact .of (congrArg Value.bool (B_as (by rw [Nd.ok_3 hn (by omega)]; first | (rw [decide_eq_true_iff]; omega) | (rw [beq_iff_eq]; omega) | (simp only [Bool.false_eq_true, false_iff]; omega))))
   | exact .of (congrArg Value.bool (B_as (by rw [Nd.ok_7 hn (by omega)]; first | (rw [decide_eq_true_iff]; omega) | (rw [beq_iff_eq]; omega) | (simp only [Bool.false_eq_true, false_iff]; omega))))
   | exact .of (congrArg Value.bool (B_as (by rw [Nd.ok_0 hn (by omega)]; first | (rw [decide_eq_true_iff]; omega) | (rw [beq_iff_eq]; omega) | (simp only [Bool.false_eq_true, false_iff]; omega))))
  have hn := (Nd.ok_as x).1 (by simpa using h9)
  refine .skip (a3 _ _ (.seq (fun K5 a5 => .region (.mv rfl (.q rfl (.nilCheck rfl) (.q rfl (.fieldAddr fo_38_2_Ub rfl) (.q rfl (.lA on_36_Ub rfl) (.q rfl (.len sl_36_A rfl) (.mv rfl (.nil (a5 _ _ (.seq (fun K6 a0 => .seq (fun K7 a9 => .region (.mv rfl ?_)))))))))))))))
  refine .q rfl (.nilCheck rfl) (.q rfl (.fieldAddr fo_38_0_Ub rfl) (.q rfl (.lA on_2_A rfl) (.nil (a9 _ _ (.block (.seq (fun K8 a4 => .region (.q rfl (.cmp rfl rfl rfl) (.mv rfl (.nil (a4 _ _ ?_)))))))))))
  refine .cond rfl ?_ ?_ <;> intro y
  ·
   try simp only [sps] at y
   refine .seq (fun K9 a1 => .region (.mv rfl (.q rfl (.nilCheck rfl) (.q rfl (.fieldAddr fo_38_1_Ub rfl) (.q rfl (.lA on_2_A rfl) ?_)))))
   refine .callQ rfl rfl rfl rfl @Tryd.call36 rfl (inRange_c) ?_
   refine .mv rfl ?_
   refine .split (fun w => ?_) (fun w => ?_)
   ·
    try simp only [sps] at w
    refine .qg rfl (.move rfl) (.qg rfl (.cmp rfl rfl rfl) (.q rfl (.pickT rfl rfl) (.mv rfl (.nil (a1 _ _ (.ret (b _ _ (⟨_, rfl, ?_⟩))))))))
    first
    | exact .of (congrArg _ (B_false (Nd.ok_no hn)))
    | exact .of (congrArg Value.bool (B_as (by rw [Nd.ok_2 hn (by omega)]; first | (rw [decide_eq_true_iff]; omega) | (rw [beq_iff_eq]; omega) | (simp only [Bool.false_eq_true, false_iff]; omega))))
    | exact .of (congrArg Value.bool (B_as (by rw [Nd.ok_3 hn (by omega)]; first | (rw [decide_eq_true_iff]; omega) | (rw [beq_iff_eq]; omega) | (simp only [Bool.false_eq_true, false_iff]; omega))))
    | exact .of (congrArg Value.bool (B_as (by rw [Nd.ok_7 hn (by omega)]; first | (rw [decide_eq_true_iff]; omega) | (rw [beq_iff_eq]; omega) | (simp only [Bool.false_eq_true, false_iff]; omega))))
    | exact .of (congrArg Value.bool (B_as (by rw [Nd.ok_0 hn (by omega)]; first | (rw [decide_eq_true_iff]; omega) | (rw [beq_iff_eq]; omega) | (simp only [Bool.false_eq_true, false_iff]; omega))))
   try simp only [sps] at w
   refine .z rfl (.z rfl (.q rfl (.pickF rfl rfl) (.mv rfl (.nil (a1 _ _ (.ret (b _ _ (⟨_, rfl, ?_⟩))))))))
   first
   | exact .of (congrArg _ (B_false (Nd.ok_no hn)))
   | exact .of (congrArg Value.bool (B_as (by rw [Nd.ok_2 hn (by omega)]; first | (rw [decide_eq_true_iff]; omega) | (rw [beq_iff_eq]; omega) | (simp only [Bool.false_eq_true, false_iff]; omega))))
   | exact .of (congrArg Value.bool (B_as (by rw [Nd.ok_3 hn (by omega)]; first | (rw [decide_eq_true_iff]; omega) | (rw [beq_iff_eq]; omega) | (simp only [Bool.false_eq_true, false_iff]; omega))))
   | exact .of (congrArg Value.bool (B_as (by rw [Nd.ok_7 hn (by omega)]; first | (rw [decide_eq_true_iff]; omega) | (rw [beq_iff_eq]; omega) | (simp only [Bool.false_eq_true, false_iff]; omega))))
   | exact .of (congrArg Value.bool (B_as (by rw [Nd.ok_0 hn (by omega)]; first | (rw [decide_eq_true_iff]; omega) | (rw [beq_iff_eq]; omega) | (simp only [Bool.false_eq_true, false_iff]; omega))))
  try simp only [sps] at y
  refine .seq (fun K10 r => .region (.q rfl (.cmp rfl rfl rfl) (.mv rfl (.nil (r _ _ ?_)))))
  refine .cond rfl ?_ ?_ <;> intro a2
  ·
   try simp only [sps] at a2
   refine .seq (fun K11 n => .region (.mv rfl (.q rfl (.nilCheck rfl) (.q rfl (.fieldAddr fo_38_1_Ub rfl) (.q rfl (.lA on_2_A rfl) (.q rfl (.cmp rfl rfl rfl) (.mv rfl ?_)))))))
   refine .split (fun t => ?_) (fun t => ?_)
   ·
    try simp only [sps] at t
    refine .qg rfl (.move rfl) (.qg rfl (.cmp rfl rfl rfl) (.q rfl (.pickT rfl rfl) (.mv rfl (.nil (n _ _ (.ret (b _ _ (⟨_, rfl, ?_⟩))))))))
    first
    | exact .of (congrArg _ (B_false (Nd.ok_no hn)))
    | exact .of (congrArg Value.bool (B_as (by rw [Nd.ok_2 hn (by omega)]; first | (rw [decide_eq_true_iff]; omega) | (rw [beq_iff_eq]; omega) | (simp only [Bool.false_eq_true, false_iff]; omega))))
    | exact .of (congrArg Value.bool (B_as (by rw [Nd.ok_3 hn (by omega)]; first | (rw [decide_eq_true_iff]; omega) | (rw [beq_iff_eq]; omega) | (simp only [Bool.false_eq_true, false_iff]; omega))))
    | exact .of (congrArg Value.bool (B_as (by rw [Nd.ok_7 hn (by omega)]; first | (rw [decide_eq_true_iff]; omega) | (rw [beq_iff_eq]; omega) | (simp only [Bool.false_eq_true, false_iff]; omega))))
    | exact .of (congrArg Value.bool (B_as (by rw [Nd.ok_0 hn (by omega)]; first | (rw [decide_eq_true_iff]; omega) | (rw [beq_iff_eq]; omega) | (simp only [Bool.false_eq_true, false_iff]; omega))))
   try simp only [sps] at t
   refine .z rfl (.z rfl (.q rfl (.pickF rfl rfl) (.mv rfl (.nil (n _ _ (.ret (b _ _ (⟨_, rfl, ?_⟩))))))))
   first
   | exact .of (congrArg _ (B_false (Nd.ok_no hn)))
   | exact .of (congrArg Value.bool (B_as (by rw [Nd.ok_2 hn (by omega)]; first | (rw [decide_eq_true_iff]; omega) | (rw [beq_iff_eq]; omega) | (simp only [Bool.false_eq_true, false_iff]; omega))))
   | exact .of (congrArg Value.bool (B_as (by rw [Nd.ok_3 hn (by omega)]; first | (rw [decide_eq_true_iff]; omega) | (rw [beq_iff_eq]; omega) | (simp only [Bool.false_eq_true, false_iff]; omega))))
   | exact .of (congrArg Value.bool (B_as (by rw [Nd.ok_7 hn (by omega)]; first | (rw [decide_eq_true_iff]; omega) | (rw [beq_iff_eq]; omega) | (simp only [Bool.false_eq_true, false_iff]; omega))))
   | exact .of (congrArg Value.bool (B_as (by rw [Nd.ok_0 hn (by omega)]; first | (rw [decide_eq_true_iff]; omega) | (rw [beq_iff_eq]; omega) | (simp only [Bool.false_eq_true, false_iff]; omega))))
  try simp only [sps] at a2
  refine .seq (fun K12 m => .seq (fun K13 u => .region (.q rfl (.cmp rfl rfl rfl) (.mv rfl (.nil (u _ _ ?_))))))
  refine .cond rfl ?_ ?_ <;> intro c
  ·
   try simp only [sps] at c
   refine .skip (m _ _ ?_)
   refine .cond rfl ?_ ?_ <;> intro c
   ·
    try simp only [sps] at c
    refine .seq (fun K14 l => .region (.mv rfl (.q rfl (.nilCheck rfl) (.q rfl (.fieldAddr fo_38_1_Ub rfl) (.q rfl (.lA on_2_A rfl) ?_)))))
    refine .callQ rfl rfl rfl rfl @Tryd.call36 rfl (inRange_c) ?_
    refine .mv rfl ?_
    refine .split (fun f => ?_) (fun f => ?_)
    ·
     try simp only [sps] at f
     refine .qg rfl (.move rfl) (.qg rfl (.cmp rfl rfl rfl) (.q rfl (.pickT rfl rfl) (.mv rfl (.nil (l _ _ (.ret (b _ _ (⟨_, rfl, ?_⟩))))))))
     first
     | exact .of (congrArg _ (B_false (Nd.ok_no hn)))
     | exact .of (congrArg Value.bool (B_as (by rw [Nd.ok_2 hn (by omega)]; first | (rw [decide_eq_true_iff]; omega) | (rw [beq_iff_eq]; omega) | (simp only [Bool.false_eq_true, false_iff]; omega))))
     | exact .of (congrArg Value.bool (B_as (by rw [Nd.ok_3 hn (by omega)]; first | (rw [decide_eq_true_iff]; omega) | (rw [beq_iff_eq]; omega) | (simp only [Bool.false_eq_true, false_iff]; omega))))
     | exact .of (congrArg Value.bool (B_as (by rw [Nd.ok_7 hn (by omega)]; first | (rw [decide_eq_true_iff]; omega) | (rw [beq_iff_eq]; omega) | (simp only [Bool.false_eq_true, false_iff]; omega))))
     | exact .of (congrArg Value.bool (B_as (by rw [Nd.ok_0 hn (by omega)]; first | (rw [decide_eq_true_iff]; omega) | (rw [beq_iff_eq]; omega) | (simp only [Bool.false_eq_true, false_iff]; omega))))
    try simp only [sps] at f
    refine .z rfl (.z rfl (.q rfl (.pickF rfl rfl) (.mv rfl (.nil (l _ _ (.ret (b _ _ (⟨_, rfl, ?_⟩))))))))
    first
    | exact .of (congrArg _ (B_false (Nd.ok_no hn)))
    | exact .of (congrArg Value.bool (B_as (by rw [Nd.ok_2 hn (by omega)]; first | (rw [decide_eq_true_iff]; omega) | (rw [beq_iff_eq]; omega) | (simp only [Bool.false_eq_true, false_iff]; omega))))
    | exact .of (congrArg Value.bool (B_as (by rw [Nd.ok_3 hn (by omega)]; first | (rw [decide_eq_true_iff]; omega) | (rw [beq_iff_eq]; omega) | (simp only [Bool.false_eq_true, false_iff]; omega))))
    | exact .of (congrArg Value.bool (B_as (by rw [Nd.ok_7 hn (by omega)]; first | (rw [decide_eq_true_iff]; omega) | (rw [beq_iff_eq]; omega) | (simp only [Bool.false_eq_true, false_iff]; omega))))
    | exact .of (congrArg Value.bool (B_as (by rw [Nd.ok_0 hn (by omega)]; first | (rw [decide_eq_true_iff]; omega) | (rw [beq_iff_eq]; omega) | (simp only [Bool.false_eq_true, false_iff]; omega))))
   try simp only [sps] at c
   refine .skip (a0 _ _ (.seq (fun K15 i => .region (.mv rfl (.q rfl (.nilCheck rfl) (.q rfl (.fieldAddr fo_38_0_Ub rfl) (.q rfl (.lA on_2_A rfl) ?_)))))))
   refine .callQ rfl rfl rfl rfl @Tryd.call36 rfl (inRange_c) ?_
   refine .mv rfl ?_
   refine .split (fun j => ?_) (fun j => ?_)
   ·
    try simp only [sps] at j
    refine .qg rfl (.move rfl) (.qg rfl (.nilCheck rfl) (.qg rfl (.fieldAddr fo_38_1_Ub rfl) (.qg rfl (.lA on_2_A rfl) (.qg rfl (.cmp rfl rfl rfl) (.q rfl (.pickT rfl rfl) (.mv rfl ?_))))))
    refine .split (fun d => ?_) (fun d => ?_)
    ·
     try simp only [sps] at d
     refine .qg rfl (.move rfl) (.qg rfl (.cmp rfl rfl rfl) (.q rfl (.pickT rfl rfl) (.mv rfl (.nil (i _ _ (.ret (b _ _ (⟨_, rfl, ?_⟩))))))))
     first
     | exact .of (congrArg _ (B_false (Nd.ok_no hn)))
     | exact .of (congrArg Value.bool (B_as (by rw [Nd.ok_2 hn (by omega)]; first | (rw [decide_eq_true_iff]; omega) | (rw [beq_iff_eq]; omega) | (simp only [Bool.false_eq_true, false_iff]; omega))))
     | exact .of (congrArg Value.bool (B_as (by rw [Nd.ok_3 hn (by omega)]; first | (rw [decide_eq_true_iff]; omega) | (rw [beq_iff_eq]; omega) | (simp only [Bool.false_eq_true, false_iff]; omega))))
     | exact .of (congrArg Value.bool (B_as (by rw [Nd.ok_7 hn (by omega)]; first | (rw [decide_eq_true_iff]; omega) | (rw [beq_iff_eq]; omega) | (simp only [Bool.false_eq_true, false_iff]; omega))))
     | exact .of (congrArg Value.bool (B_as (by rw [Nd.ok_0 hn (by omega)]; first | (rw [decide_eq_true_iff]; omega) | (rw [beq_iff_eq]; omega) | (simp only [Bool.false_eq_true, false_iff]; omega))))
    try simp only [sps] at d
    refine .z rfl (.z rfl (.q rfl (.pickF rfl rfl) (.mv rfl (.nil (i _ _ (.ret (b _ _ (⟨_, rfl, ?_⟩))))))))
    first
    | exact .of (congrArg _ (B_false (Nd.ok_no hn)))
    | exact .of (congrArg Value.bool (B_as (by rw [Nd.ok_2 hn (by omega)]; first | (rw [decide_eq_true_iff]; omega) | (rw [beq_iff_eq]; omega) | (simp only [Bool.false_eq_true, false_iff]; omega))))
    | exact .of (congrArg Value.bool (B_as (by rw [Nd.ok_3 hn (by omega)]; first | (rw [decide_eq_true_iff]; omega) | (rw [beq_iff_eq]; omega) | (simp only [Bool.false_eq_true, false_iff]; omega))))
    | exact .of (congrArg Value.bool (B_as (by rw [Nd.ok_7 hn (by omega)]; first | (rw [decide_eq_true_iff]; omega) | (rw [beq_iff_eq]; omega) | (simp only [Bool.false_eq_true, false_iff]; omega))))
    | exact .of (congrArg Value.bool (B_as (by rw [Nd.ok_0 hn (by omega)]; first | (rw [decide_eq_true_iff]; omega) | (rw [beq_iff_eq]; omega) | (simp only [Bool.false_eq_true, false_iff]; omega))))
   try simp only [sps] at j
   refine .z rfl (.z rfl (.z rfl (.z rfl (.z rfl (.q rfl (.pickF rfl rfl) (.mv rfl (.z rfl (.z rfl (.q rfl (.pickF rfl rfl) (.mv rfl (.nil (i _ _ (.ret (b _ _ (⟨_, rfl, ?_⟩)))))))))))))))
   first
   | exact .of (congrArg _ (B_false (Nd.ok_no hn)))
   | exact .of (congrArg Value.bool (B_as (by rw [Nd.ok_2 hn (by omega)]; first | (rw [decide_eq_true_iff]; omega) | (rw [beq_iff_eq]; omega) | (simp only [Bool.false_eq_true, false_iff]; omega))))
   | exact .of (congrArg Value.bool (B_as (by rw [Nd.ok_3 hn (by omega)]; first | (rw [decide_eq_true_iff]; omega) | (rw [beq_iff_eq]; omega) | (simp only [Bool.false_eq_true, false_iff]; omega))))
   | exact .of (congrArg Value.bool (B_as (by rw [Nd.ok_7 hn (by omega)]; first | (rw [decide_eq_true_iff]; omega) | (rw [beq_iff_eq]; omega) | (simp only [Bool.false_eq_true, false_iff]; omega))))
   | exact .of (congrArg Value.bool (B_as (by rw [Nd.ok_0 hn (by omega)]; first | (rw [decide_eq_true_iff]; omega) | (rw [beq_iff_eq]; omega) | (simp only [Bool.false_eq_true, false_iff]; omega))))
  try simp only [sps] at c
  refine .region (.q rfl (.cmp rfl rfl rfl) (.mv rfl (.nil (m _ _ ?_))))
  refine .cond rfl ?_ ?_ <;> intro c
  ·
   try simp only [sps] at c
   refine .seq (fun K16 p => .region (.mv rfl (.q rfl (.nilCheck rfl) (.q rfl (.fieldAddr fo_38_1_Ub rfl) (.q rfl (.lA on_2_A rfl) ?_)))))
   refine .callQ rfl rfl rfl rfl @Tryd.call36 rfl (inRange_c) ?_
   refine .mv rfl ?_
   refine .split (fun f => ?_) (fun f => ?_)
   ·
    try simp only [sps] at f
    refine .qg rfl (.move rfl) (.qg rfl (.cmp rfl rfl rfl) (.q rfl (.pickT rfl rfl) (.mv rfl (.nil (p _ _ (.ret (b _ _ (⟨_, rfl, ?_⟩))))))))
    first
    | exact .of (congrArg _ (B_false (Nd.ok_no hn)))
    | exact .of (congrArg Value.bool (B_as (by rw [Nd.ok_2 hn (by omega)]; first | (rw [decide_eq_true_iff]; omega) | (rw [beq_iff_eq]; omega) | (simp only [Bool.false_eq_true, false_iff]; omega))))
    | exact .of (congrArg Value.bool (B_as (by rw [Nd.ok_3 hn (by omega)]; first | (rw [decide_eq_true_iff]; omega) | (rw [beq_iff_eq]; omega) | (simp only [Bool.false_eq_true, false_iff]; omega))))
    | exact .of (congrArg Value.bool (B_as (by rw [Nd.ok_7 hn (by omega)]; first | (rw [decide_eq_true_iff]; omega) | (rw [beq_iff_eq]; omega) | (simp only [Bool.false_eq_true, false_iff]; omega))))
    | exact .of (congrArg Value.bool (B_as (by rw [Nd.ok_0 hn (by omega)]; first | (rw [decide_eq_true_iff]; omega) | (rw [beq_iff_eq]; omega) | (simp only [Bool.false_eq_true, false_iff]; omega))))
   try simp only [sps] at f
   refine .z rfl (.z rfl (.q rfl (.pickF rfl rfl) (.mv rfl (.nil (p _ _ (.ret (b _ _ (⟨_, rfl, ?_⟩))))))))
   first
   | exact .of (congrArg _ (B_false (Nd.ok_no hn)))
   | exact .of (congrArg Value.bool (B_as (by rw [Nd.ok_2 hn (by omega)]; first | (rw [decide_eq_true_iff]; omega) | (rw [beq_iff_eq]; omega) | (simp only [Bool.false_eq_true, false_iff]; omega))))
   | exact .of (congrArg Value.bool (B_as (by rw [Nd.ok_3 hn (by omega)]; first | (rw [decide_eq_true_iff]; omega) | (rw [beq_iff_eq]; omega) | (simp only [Bool.false_eq_true, false_iff]; omega))))
   | exact .of (congrArg Value.bool (B_as (by rw [Nd.ok_7 hn (by omega)]; first | (rw [decide_eq_true_iff]; omega) | (rw [beq_iff_eq]; omega) | (simp only [Bool.false_eq_true, false_iff]; omega))))
   | exact .of (congrArg Value.bool (B_as (by rw [Nd.ok_0 hn (by omega)]; first | (rw [decide_eq_true_iff]; omega) | (rw [beq_iff_eq]; omega) | (simp only [Bool.false_eq_true, false_iff]; omega))))
  try simp only [sps] at c
  refine .skip (a0 _ _ (.seq (fun K17 e => .region (.mv rfl (.q rfl (.nilCheck rfl) (.q rfl (.fieldAddr fo_38_0_Ub rfl) (.q rfl (.lA on_2_A rfl) ?_)))))))
  refine .callQ rfl rfl rfl rfl @Tryd.call36 rfl (inRange_c) ?_
  refine .mv rfl ?_
  refine .split (fun j => ?_) (fun j => ?_)
  ·
   try simp only [sps] at j
   refine .qg rfl (.move rfl) (.qg rfl (.nilCheck rfl) (.qg rfl (.fieldAddr fo_38_1_Ub rfl) (.qg rfl (.lA on_2_A rfl) (.qg rfl (.cmp rfl rfl rfl) (.q rfl (.pickT rfl rfl) (.mv rfl ?_))))))
   refine .split (fun d => ?_) (fun d => ?_)
   ·
    try simp only [sps] at d
    refine .qg rfl (.move rfl) (.qg rfl (.cmp rfl rfl rfl) (.q rfl (.pickT rfl rfl) (.mv rfl (.nil (e _ _ (.ret (b _ _ (⟨_, rfl, ?_⟩))))))))
    first
    | exact .of (congrArg _ (B_false (Nd.ok_no hn)))
    | exact .of (congrArg Value.bool (B_as (by rw [Nd.ok_2 hn (by omega)]; first | (rw [decide_eq_true_iff]; omega) | (rw [beq_iff_eq]; omega) | (simp only [Bool.false_eq_true, false_iff]; omega))))
    | exact .of (congrArg Value.bool (B_as (by rw [Nd.ok_3 hn (by omega)]; first | (rw [decide_eq_true_iff]; omega) | (rw [beq_iff_eq]; omega) | (simp only [Bool.false_eq_true, false_iff]; omega))))
    | exact .of (congrArg Value.bool (B_as (by rw [Nd.ok_7 hn (by omega)]; first | (rw [decide_eq_true_iff]; omega) | (rw [beq_iff_eq]; omega) | (simp only [Bool.false_eq_true, false_iff]; omega))))
    | exact .of (congrArg Value.bool (B_as (by rw [Nd.ok_0 hn (by omega)]; first | (rw [decide_eq_true_iff]; omega) | (rw [beq_iff_eq]; omega) | (simp only [Bool.false_eq_true, false_iff]; omega))))
   try simp only [sps] at d
   refine .z rfl (.z rfl (.q rfl (.pickF rfl rfl) (.mv rfl (.nil (e _ _ (.ret (b _ _ (⟨_, rfl, ?_⟩))))))))
   first
   | exact .of (congrArg _ (B_false (Nd.ok_no hn)))
   | exact .of (congrArg Value.bool (B_as (by rw [Nd.ok_2 hn (by omega)]; first | (rw [decide_eq_true_iff]; omega) | (rw [beq_iff_eq]; omega) | (simp only [Bool.false_eq_true, false_iff]; omega))))
   | exact .of (congrArg Value.bool (B_as (by rw [Nd.ok_3 hn (by omega)]; first | (rw [decide_eq_true_iff]; omega) | (rw [beq_iff_eq]; omega) | (simp only [Bool.false_eq_true, false_iff]; omega))))
   | exact .of (congrArg Value.bool (B_as (by rw [Nd.ok_7 hn (by omega)]; first | (rw [decide_eq_true_iff]; omega) | (rw [beq_iff_eq]; omega) | (simp only [Bool.false_eq_true, false_iff]; omega))))
   | exact .of (congrArg Value.bool (B_as (by rw [Nd.ok_0 hn (by omega)]; first | (rw [decide_eq_true_iff]; omega) | (rw [beq_iff_eq]; omega) | (simp only [Bool.false_eq_true, false_iff]; omega))))
  try simp only [sps] at j
  refine .z rfl (.z rfl (.z rfl (.z rfl (.z rfl (.q rfl (.pickF rfl rfl) (.mv rfl (.z rfl (.z rfl (.q rfl (.pickF rfl rfl) (.mv rfl (.nil (e _ _ (.ret (b _ _ (⟨_, rfl, ?_⟩)))))))))))))))
  first
  | exact .of (congrArg _ (B_false (Nd.ok_no hn)))
  | exact .of (congrArg Value.bool (B_as (by rw [Nd.ok_2 hn (by omega)]; first | (rw [decide_eq_true_iff]; omega) | (rw [beq_iff_eq]; omega) | (simp only [Bool.false_eq_true, false_iff]; omega))))
  | exact .of (congrArg Value.bool (B_as (by rw [Nd.ok_3 hn (by omega)]; first | (rw [decide_eq_true_iff]; omega) | (rw [beq_iff_eq]; omega) | (simp only [Bool.false_eq_true, false_iff]; omega))))
  | exact .of (congrArg Value.bool (B_as (by rw [Nd.ok_7 hn (by omega)]; first | (rw [decide_eq_true_iff]; omega) | (rw [beq_iff_eq]; omega) | (simp only [Bool.false_eq_true, false_iff]; omega))))
  | exact .of (congrArg Value.bool (B_as (by rw [Nd.ok_0 hn (by omega)]; first | (rw [decide_eq_true_iff]; omega) | (rw [beq_iff_eq]; omega) | (simp only [Bool.false_eq_true, false_iff]; omega))))
theorem l29Node_c {x : Nd} {a : Option Addr} {H : GHeap} (hx : Ints H a x.az := by assumption) (hl : x.az.length ≤ 1048576) : GCalls Tryd.prog 22 [.agg (x.cells a).toArray] H (Ret (.bool (B x.Ok)) H) := by
  refine GCalls.ret rfl ?_
  refine GCalls.body (N := 57) (rs := [.tmp 2]) Tryd.func22 rfl rfl rfl rfl (fun Qx c hend => ?_)
  refine .fg [0] rfl ?_
  have b := GHeap.Le.refl H
  have e := hx
  refine .seq (fun K1 a4 => .region ?_)
  refine .R rfl (.boxR rfl sz_38_Ub rfl) ?_
  rintro _ _ ⟨_, rfl, y, _, d⟩
  have _ := y.1
  replace b := b.trans y
  have _ := GHeap.ltg d
  replace hx := e.mono b
  have _ : MemN _ _ _ _ _ := ⟨rfl, Mem.of_get d⟩
  refine .mv rfl (.nil (a4 _ _ (.seq (fun K2 a0 => .seq (fun K3 a5 => .region (.q rfl (.fieldAddr fo_38_2_Ub rfl) ?_))))))
  refine .q rfl (.load on_36_Ub rfl (by first | assumption | exact Mem.of_get d 2 _ rfl)) ?_
  refine .callQ rfl rfl rfl rfl @Tryd.call28 rfl (l01Map_c) ?_
  refine .q rfl (.not rfl) (.nil (a5 _ _ ?_))
  refine .cond rfl ?_ ?_ <;> intro h6
  ·
   have hn : ¬ ∀ v ∈ x.az, Sm v := fun q => absurd ((Nd.ok_as x).2 q) (by simpa using h6)
   refine .seq (fun K4 a1 => .region (.mv rfl (.nil (a1 _ _ (.ret (c _ _ (⟨_, rfl, ?_⟩)))))))
   first
   | exact ⟨congrArg _ (B_false (Nd.ok_no hn)), b⟩
   | exact ⟨congrArg Value.bool (B_as (by rw [Nd.ok_2 hn (by omega)]; first | (rw [decide_eq_true_iff]; omega) | (rw [beq_iff_eq]; omega) | (simp only [Bool.false_eq_true, false_iff]; omega))), b⟩
   | exact ⟨congrArg Value.bool (B_as (by rw [Nd.ok_3 hn (by omega)]; first | (rw [decide_eq_true_iff]; omega) | (rw [beq_iff_eq]; omega) | (simp only [Bool.false_eq_true, false_iff]; omega))), b⟩
   | exact ⟨congrArg Value.bool (B_as (by rw [Nd.ok_7 hn (by omega)]; first | (rw [decide_eq_true_iff]; omega) | (rw [beq_iff_eq]; omega) | (simp only [Bool.false_eq_true, false_iff]; omega))), b⟩
   | exact ⟨congrArg Value.bool (B_as (by rw [Nd.ok_0 hn (by omega)]; first | (rw [decide_eq_true_iff]; omega) | (rw [beq_iff_eq]; omega) | (simp only [Bool.false_eq_true, false_iff]; omega))), b⟩
  have hn := (Nd.ok_as x).1 (by simpa using h6)
  refine .skip (a0 _ _ (.seq (fun K5 u => .seq (fun K6 a2 => .region (.q rfl (.fieldAddr fo_38_0_Ub rfl) ?_)))))
  refine .q rfl (.load on_2_A rfl (by first | assumption | exact Mem.of_get d 0 _ rfl)) ?_
  refine .nil (a2 _ _ (.block (.seq (fun K7 a6 => .region (.q rfl (.cmp rfl rfl rfl) (.mv rfl (.nil (a6 _ _ ?_))))))))
  refine .cond rfl ?_ ?_ <;> intro h9
  ·
   try simp only [sps] at h9
   refine .seq (fun K8 t => .region (.q rfl (.fieldAddr fo_38_1_Ub rfl) ?_))
   refine .q rfl (.load on_2_A rfl (by first | assumption | exact Mem.of_get d 1 _ rfl)) ?_
   refine .callQ rfl rfl rfl rfl @Tryd.call21 rfl (l01In_c) ?_
   refine .mv rfl ?_
   refine .split (fun p => ?_) (fun p => ?_)
   ·
    try simp only [sps] at p
    refine .qg rfl (.fieldAddr fo_38_2_Ub rfl) ?_
    refine .qg rfl (.load on_36_Ub rfl (by first | assumption | exact Mem.of_get d 2 _ rfl)) ?_
    refine .qg rfl (.len sl_36_A rfl) (.qg rfl (.cmp rfl rfl rfl) (.q rfl (.pickT rfl rfl) (.mv rfl (.nil (t _ _ (.ret (c _ _ (⟨_, rfl, ?_⟩))))))))
    first
    | exact ⟨congrArg _ (B_false (Nd.ok_no hn)), b⟩
    | exact ⟨congrArg Value.bool (B_as (by rw [Nd.ok_2 hn (by omega)]; first | (rw [decide_eq_true_iff]; omega) | (rw [beq_iff_eq]; omega) | (simp only [Bool.false_eq_true, false_iff]; omega))), b⟩
    | exact ⟨congrArg Value.bool (B_as (by rw [Nd.ok_3 hn (by omega)]; first | (rw [decide_eq_true_iff]; omega) | (rw [beq_iff_eq]; omega) | (simp only [Bool.false_eq_true, false_iff]; omega))), b⟩
    | exact ⟨congrArg Value.bool (B_as (by rw [Nd.ok_7 hn (by omega)]; first | (rw [decide_eq_true_iff]; omega) | (rw [beq_iff_eq]; omega) | (simp only [Bool.false_eq_true, false_iff]; omega))), b⟩
    | exact ⟨congrArg Value.bool (B_as (by rw [Nd.ok_0 hn (by omega)]; first | (rw [decide_eq_true_iff]; omega) | (rw [beq_iff_eq]; omega) | (simp only [Bool.false_eq_true, false_iff]; omega))), b⟩
   try simp only [sps] at p
   refine .z rfl (.z rfl (.z rfl (.z rfl (.q rfl (.pickF rfl rfl) (.mv rfl (.nil (t _ _ (.ret (c _ _ (⟨_, rfl, ?_⟩))))))))))
   first
   | exact ⟨congrArg _ (B_false (Nd.ok_no hn)), b⟩
   | exact ⟨congrArg Value.bool (B_as (by rw [Nd.ok_2 hn (by omega)]; first | (rw [decide_eq_true_iff]; omega) | (rw [beq_iff_eq]; omega) | (simp only [Bool.false_eq_true, false_iff]; omega))), b⟩
   | exact ⟨congrArg Value.bool (B_as (by rw [Nd.ok_3 hn (by omega)]; first | (rw [decide_eq_true_iff]; omega) | (rw [beq_iff_eq]; omega) | (simp only [Bool.false_eq_true, false_iff]; omega))), b⟩
   | exact ⟨congrArg Value.bool (B_as (by rw [Nd.ok_7 hn (by omega)]; first | (rw [decide_eq_true_iff]; omega) | (rw [beq_iff_eq]; omega) | (simp only [Bool.false_eq_true, false_iff]; omega))), b⟩
   | exact ⟨congrArg Value.bool (B_as (by rw [Nd.ok_0 hn (by omega)]; first | (rw [decide_eq_true_iff]; omega) | (rw [beq_iff_eq]; omega) | (simp only [Bool.false_eq_true, false_iff]; omega))), b⟩
  try simp only [sps] at h9
  refine .seq (fun K9 a3 => .region (.q rfl (.cmp rfl rfl rfl) (.mv rfl (.nil (a3 _ _ ?_)))))
  refine .cond rfl ?_ ?_ <;> intro w
  ·
   try simp only [sps] at w
   refine .seq (fun K10 l => .region (.q rfl (.fieldAddr fo_38_1_Ub rfl) ?_))
   refine .q rfl (.load on_2_A rfl (by first | assumption | exact Mem.of_get d 1 _ rfl)) ?_
   refine .q rfl (.cmp rfl rfl rfl) (.mv rfl ?_)
   refine .split (fun s => ?_) (fun s => ?_)
   ·
    try simp only [sps] at s
    refine .qg rfl (.fieldAddr fo_38_2_Ub rfl) ?_
    refine .qg rfl (.load on_36_Ub rfl (by first | assumption | exact Mem.of_get d 2 _ rfl)) ?_
    refine .qg rfl (.len sl_36_A rfl) (.qg rfl (.cmp rfl rfl rfl) (.q rfl (.pickT rfl rfl) (.mv rfl (.nil (l _ _ (.ret (c _ _ (⟨_, rfl, ?_⟩))))))))
    first
    | exact ⟨congrArg _ (B_false (Nd.ok_no hn)), b⟩
    | exact ⟨congrArg Value.bool (B_as (by rw [Nd.ok_2 hn (by omega)]; first | (rw [decide_eq_true_iff]; omega) | (rw [beq_iff_eq]; omega) | (simp only [Bool.false_eq_true, false_iff]; omega))), b⟩
    | exact ⟨congrArg Value.bool (B_as (by rw [Nd.ok_3 hn (by omega)]; first | (rw [decide_eq_true_iff]; omega) | (rw [beq_iff_eq]; omega) | (simp only [Bool.false_eq_true, false_iff]; omega))), b⟩
    | exact ⟨congrArg Value.bool (B_as (by rw [Nd.ok_7 hn (by omega)]; first | (rw [decide_eq_true_iff]; omega) | (rw [beq_iff_eq]; omega) | (simp only [Bool.false_eq_true, false_iff]; omega))), b⟩
    | exact ⟨congrArg Value.bool (B_as (by rw [Nd.ok_0 hn (by omega)]; first | (rw [decide_eq_true_iff]; omega) | (rw [beq_iff_eq]; omega) | (simp only [Bool.false_eq_true, false_iff]; omega))), b⟩
   try simp only [sps] at s
   refine .z rfl (.z rfl (.z rfl (.z rfl (.q rfl (.pickF rfl rfl) (.mv rfl (.nil (l _ _ (.ret (c _ _ (⟨_, rfl, ?_⟩))))))))))
   first
   | exact ⟨congrArg _ (B_false (Nd.ok_no hn)), b⟩
   | exact ⟨congrArg Value.bool (B_as (by rw [Nd.ok_2 hn (by omega)]; first | (rw [decide_eq_true_iff]; omega) | (rw [beq_iff_eq]; omega) | (simp only [Bool.false_eq_true, false_iff]; omega))), b⟩
   | exact ⟨congrArg Value.bool (B_as (by rw [Nd.ok_3 hn (by omega)]; first | (rw [decide_eq_true_iff]; omega) | (rw [beq_iff_eq]; omega) | (simp only [Bool.false_eq_true, false_iff]; omega))), b⟩
   | exact ⟨congrArg Value.bool (B_as (by rw [Nd.ok_7 hn (by omega)]; first | (rw [decide_eq_true_iff]; omega) | (rw [beq_iff_eq]; omega) | (simp only [Bool.false_eq_true, false_iff]; omega))), b⟩
   | exact ⟨congrArg Value.bool (B_as (by rw [Nd.ok_0 hn (by omega)]; first | (rw [decide_eq_true_iff]; omega) | (rw [beq_iff_eq]; omega) | (simp only [Bool.false_eq_true, false_iff]; omega))), b⟩
  try simp only [sps] at w
  refine .seq (fun K11 o => .seq (fun K12 r => .region (.q rfl (.cmp rfl rfl rfl) (.mv rfl (.nil (r _ _ ?_))))))
  refine .cond rfl ?_ ?_ <;> intro f
  ·
   try simp only [sps] at f
   refine .skip (o _ _ ?_)
   refine .cond rfl ?_ ?_ <;> intro f
   ·
    try simp only [sps] at f
    refine .seq (fun K13 n => .region (.q rfl (.fieldAddr fo_38_1_Ub rfl) ?_))
    refine .q rfl (.load on_2_A rfl (by first | assumption | exact Mem.of_get d 1 _ rfl)) ?_
    refine .callQ rfl rfl rfl rfl @Tryd.call21 rfl (l01In_c) ?_
    refine .mv rfl ?_
    refine .split (fun h => ?_) (fun h => ?_)
    ·
     try simp only [sps] at h
     refine .qg rfl (.fieldAddr fo_38_2_Ub rfl) ?_
     refine .qg rfl (.load on_36_Ub rfl (by first | assumption | exact Mem.of_get d 2 _ rfl)) ?_
     refine .qg rfl (.len sl_36_A rfl) (.qg rfl (.cmp rfl rfl rfl) (.q rfl (.pickT rfl rfl) (.mv rfl (.nil (n _ _ (.ret (c _ _ (⟨_, rfl, ?_⟩))))))))
     first
     | exact ⟨congrArg _ (B_false (Nd.ok_no hn)), b⟩
     | exact ⟨congrArg Value.bool (B_as (by rw [Nd.ok_2 hn (by omega)]; first | (rw [decide_eq_true_iff]; omega) | (rw [beq_iff_eq]; omega) | (simp only [Bool.false_eq_true, false_iff]; omega))), b⟩
     | exact ⟨congrArg Value.bool (B_as (by rw [Nd.ok_3 hn (by omega)]; first | (rw [decide_eq_true_iff]; omega) | (rw [beq_iff_eq]; omega) | (simp only [Bool.false_eq_true, false_iff]; omega))), b⟩
     | exact ⟨congrArg Value.bool (B_as (by rw [Nd.ok_7 hn (by omega)]; first | (rw [decide_eq_true_iff]; omega) | (rw [beq_iff_eq]; omega) | (simp only [Bool.false_eq_true, false_iff]; omega))), b⟩
     | exact ⟨congrArg Value.bool (B_as (by rw [Nd.ok_0 hn (by omega)]; first | (rw [decide_eq_true_iff]; omega) | (rw [beq_iff_eq]; omega) | (simp only [Bool.false_eq_true, false_iff]; omega))), b⟩
    try simp only [sps] at h
    refine .z rfl (.z rfl (.z rfl (.z rfl (.q rfl (.pickF rfl rfl) (.mv rfl (.nil (n _ _ (.ret (c _ _ (⟨_, rfl, ?_⟩))))))))))
    first
    | exact ⟨congrArg _ (B_false (Nd.ok_no hn)), b⟩
    | exact ⟨congrArg Value.bool (B_as (by rw [Nd.ok_2 hn (by omega)]; first | (rw [decide_eq_true_iff]; omega) | (rw [beq_iff_eq]; omega) | (simp only [Bool.false_eq_true, false_iff]; omega))), b⟩
    | exact ⟨congrArg Value.bool (B_as (by rw [Nd.ok_3 hn (by omega)]; first | (rw [decide_eq_true_iff]; omega) | (rw [beq_iff_eq]; omega) | (simp only [Bool.false_eq_true, false_iff]; omega))), b⟩
    | exact ⟨congrArg Value.bool (B_as (by rw [Nd.ok_7 hn (by omega)]; first | (rw [decide_eq_true_iff]; omega) | (rw [beq_iff_eq]; omega) | (simp only [Bool.false_eq_true, false_iff]; omega))), b⟩
    | exact ⟨congrArg Value.bool (B_as (by rw [Nd.ok_0 hn (by omega)]; first | (rw [decide_eq_true_iff]; omega) | (rw [beq_iff_eq]; omega) | (simp only [Bool.false_eq_true, false_iff]; omega))), b⟩
   try simp only [sps] at f
   refine .skip (u _ _ (.seq (fun K14 g => .region (.q rfl (.fieldAddr fo_38_0_Ub rfl) ?_))))
   refine .q rfl (.load on_2_A rfl (by first | assumption | exact Mem.of_get d 0 _ rfl)) ?_
   refine .callQ rfl rfl rfl rfl @Tryd.call21 rfl (l01In_c) ?_
   refine .mv rfl ?_
   refine .split (fun i => ?_) (fun i => ?_)
   ·
    try simp only [sps] at i
    refine .qg rfl (.fieldAddr fo_38_1_Ub rfl) ?_
    refine .qg rfl (.load on_2_A rfl (by first | assumption | exact Mem.of_get d 1 _ rfl)) ?_
    refine .qg rfl (.cmp rfl rfl rfl) (.q rfl (.pickT rfl rfl) (.mv rfl ?_))
    refine .split (fun k => ?_) (fun k => ?_)
    ·
     try simp only [sps] at k
     refine .qg rfl (.fieldAddr fo_38_2_Ub rfl) ?_
     refine .qg rfl (.load on_36_Ub rfl (by first | assumption | exact Mem.of_get d 2 _ rfl)) ?_
     refine .qg rfl (.len sl_36_A rfl) (.qg rfl (.cmp rfl rfl rfl) (.q rfl (.pickT rfl rfl) (.mv rfl (.nil (g _ _ (.ret (c _ _ (⟨_, rfl, ?_⟩))))))))
     first
     | exact ⟨congrArg _ (B_false (Nd.ok_no hn)), b⟩
     | exact ⟨congrArg Value.bool (B_as (by rw [Nd.ok_2 hn (by omega)]; first | (rw [decide_eq_true_iff]; omega) | (rw [beq_iff_eq]; omega) | (simp only [Bool.false_eq_true, false_iff]; omega))), b⟩
     | exact ⟨congrArg Value.bool (B_as (by rw [Nd.ok_3 hn (by omega)]; first | (rw [decide_eq_true_iff]; omega) | (rw [beq_iff_eq]; omega) | (simp only [Bool.false_eq_true, false_iff]; omega))), b⟩
     | exact ⟨congrArg Value.bool (B_as (by rw [Nd.ok_7 hn (by omega)]; first | (rw [decide_eq_true_iff]; omega) | (rw [beq_iff_eq]; omega) | (simp only [Bool.false_eq_true, false_iff]; omega))), b⟩
     | exact ⟨congrArg Value.bool (B_as (by rw [Nd.ok_0 hn (by omega)]; first | (rw [decide_eq_true_iff]; omega) | (rw [beq_iff_eq]; omega) | (simp only [Bool.false_eq_true, false_iff]; omega))), b⟩
    try simp only [sps] at k
    refine .z rfl (.z rfl (.z rfl (.z rfl (.q rfl (.pickF rfl rfl) (.mv rfl (.nil (g _ _ (.ret (c _ _ (⟨_, rfl, ?_⟩))))))))))
    first
    | exact ⟨congrArg _ (B_false (Nd.ok_no hn)), b⟩
    | exact ⟨congrArg Value.bool (B_as (by rw [Nd.ok_2 hn (by omega)]; first | (rw [decide_eq_true_iff]; omega) | (rw [beq_iff_eq]; omega) | (simp only [Bool.false_eq_true, false_iff]; omega))), b⟩
    | exact ⟨congrArg Value.bool (B_as (by rw [Nd.ok_3 hn (by omega)]; first | (rw [decide_eq_true_iff]; omega) | (rw [beq_iff_eq]; omega) | (simp only [Bool.false_eq_true, false_iff]; omega))), b⟩
    | exact ⟨congrArg Value.bool (B_as (by rw [Nd.ok_7 hn (by omega)]; first | (rw [decide_eq_true_iff]; omega) | (rw [beq_iff_eq]; omega) | (simp only [Bool.false_eq_true, false_iff]; omega))), b⟩
    | exact ⟨congrArg Value.bool (B_as (by rw [Nd.ok_0 hn (by omega)]; first | (rw [decide_eq_true_iff]; omega) | (rw [beq_iff_eq]; omega) | (simp only [Bool.false_eq_true, false_iff]; omega))), b⟩
   try simp only [sps] at i
   refine .z rfl (.z rfl (.z rfl (.q rfl (.pickF rfl rfl) (.mv rfl (.z rfl (.z rfl (.z rfl (.z rfl (.q rfl (.pickF rfl rfl) (.mv rfl (.nil (g _ _ (.ret (c _ _ (⟨_, rfl, ?_⟩)))))))))))))))
   first
   | exact ⟨congrArg _ (B_false (Nd.ok_no hn)), b⟩
   | exact ⟨congrArg Value.bool (B_as (by rw [Nd.ok_2 hn (by omega)]; first | (rw [decide_eq_true_iff]; omega) | (rw [beq_iff_eq]; omega) | (simp only [Bool.false_eq_true, false_iff]; omega))), b⟩
   | exact ⟨congrArg Value.bool (B_as (by rw [Nd.ok_3 hn (by omega)]; first | (rw [decide_eq_true_iff]; omega) | (rw [beq_iff_eq]; omega) | (simp only [Bool.false_eq_true, false_iff]; omega))), b⟩
   | exact ⟨congrArg Value.bool (B_as (by rw [Nd.ok_7 hn (by omega)]; first | (rw [decide_eq_true_iff]; omega) | (rw [beq_iff_eq]; omega) | (simp only [Bool.false_eq_true, false_iff]; omega))), b⟩
   | exact ⟨congrArg Value.bool (B_as (by rw [Nd.ok_0 hn (by omega)]; first | (rw [decide_eq_true_iff]; omega) | (rw [beq_iff_eq]; omega) | (simp only [Bool.false_eq_true, false_iff]; omega))), b⟩
  try simp only [sps] at f
  refine .region (.q rfl (.cmp rfl rfl rfl) (.mv rfl (.nil (o _ _ ?_))))
  refine .cond rfl ?_ ?_ <;> intro f
  ·
   try simp only [sps] at f
   refine .seq (fun K15 m => .region (.q rfl (.fieldAddr fo_38_1_Ub rfl) ?_))
   refine .q rfl (.load on_2_A rfl (by first | assumption | exact Mem.of_get d 1 _ rfl)) ?_
   refine .callQ rfl rfl rfl rfl @Tryd.call21 rfl (l01In_c) ?_
   refine .mv rfl ?_
   refine .split (fun h => ?_) (fun h => ?_)
   ·
    try simp only [sps] at h
    refine .qg rfl (.fieldAddr fo_38_2_Ub rfl) ?_
    refine .qg rfl (.load on_36_Ub rfl (by first | assumption | exact Mem.of_get d 2 _ rfl)) ?_
    refine .qg rfl (.len sl_36_A rfl) (.qg rfl (.cmp rfl rfl rfl) (.q rfl (.pickT rfl rfl) (.mv rfl (.nil (m _ _ (.ret (c _ _ (⟨_, rfl, ?_⟩))))))))
    first
    | exact ⟨congrArg _ (B_false (Nd.ok_no hn)), b⟩
    | exact ⟨congrArg Value.bool (B_as (by rw [Nd.ok_2 hn (by omega)]; first | (rw [decide_eq_true_iff]; omega) | (rw [beq_iff_eq]; omega) | (simp only [Bool.false_eq_true, false_iff]; omega))), b⟩
    | exact ⟨congrArg Value.bool (B_as (by rw [Nd.ok_3 hn (by omega)]; first | (rw [decide_eq_true_iff]; omega) | (rw [beq_iff_eq]; omega) | (simp only [Bool.false_eq_true, false_iff]; omega))), b⟩
    | exact ⟨congrArg Value.bool (B_as (by rw [Nd.ok_7 hn (by omega)]; first | (rw [decide_eq_true_iff]; omega) | (rw [beq_iff_eq]; omega) | (simp only [Bool.false_eq_true, false_iff]; omega))), b⟩
    | exact ⟨congrArg Value.bool (B_as (by rw [Nd.ok_0 hn (by omega)]; first | (rw [decide_eq_true_iff]; omega) | (rw [beq_iff_eq]; omega) | (simp only [Bool.false_eq_true, false_iff]; omega))), b⟩
   try simp only [sps] at h
   refine .z rfl (.z rfl (.z rfl (.z rfl (.q rfl (.pickF rfl rfl) (.mv rfl (.nil (m _ _ (.ret (c _ _ (⟨_, rfl, ?_⟩))))))))))
   first
   | exact ⟨congrArg _ (B_false (Nd.ok_no hn)), b⟩
   | exact ⟨congrArg Value.bool (B_as (by rw [Nd.ok_2 hn (by omega)]; first | (rw [decide_eq_true_iff]; omega) | (rw [beq_iff_eq]; omega) | (simp only [Bool.false_eq_true, false_iff]; omega))), b⟩
   | exact ⟨congrArg Value.bool (B_as (by rw [Nd.ok_3 hn (by omega)]; first | (rw [decide_eq_true_iff]; omega) | (rw [beq_iff_eq]; omega) | (simp only [Bool.false_eq_true, false_iff]; omega))), b⟩
   | exact ⟨congrArg Value.bool (B_as (by rw [Nd.ok_7 hn (by omega)]; first | (rw [decide_eq_true_iff]; omega) | (rw [beq_iff_eq]; omega) | (simp only [Bool.false_eq_true, false_iff]; omega))), b⟩
   | exact ⟨congrArg Value.bool (B_as (by rw [Nd.ok_0 hn (by omega)]; first | (rw [decide_eq_true_iff]; omega) | (rw [beq_iff_eq]; omega) | (simp only [Bool.false_eq_true, false_iff]; omega))), b⟩
  try simp only [sps] at f
  refine .skip (u _ _ (.seq (fun K16 j => .region (.q rfl (.fieldAddr fo_38_0_Ub rfl) ?_))))
  refine .q rfl (.load on_2_A rfl (by first | assumption | exact Mem.of_get d 0 _ rfl)) ?_
  refine .callQ rfl rfl rfl rfl @Tryd.call21 rfl (l01In_c) ?_
  refine .mv rfl ?_
  refine .split (fun i => ?_) (fun i => ?_)
  ·
   try simp only [sps] at i
   refine .qg rfl (.fieldAddr fo_38_1_Ub rfl) ?_
   refine .qg rfl (.load on_2_A rfl (by first | assumption | exact Mem.of_get d 1 _ rfl)) ?_
   refine .qg rfl (.cmp rfl rfl rfl) (.q rfl (.pickT rfl rfl) (.mv rfl ?_))
   refine .split (fun k => ?_) (fun k => ?_)
   ·
    try simp only [sps] at k
    refine .qg rfl (.fieldAddr fo_38_2_Ub rfl) ?_
    refine .qg rfl (.load on_36_Ub rfl (by first | assumption | exact Mem.of_get d 2 _ rfl)) ?_
    refine .qg rfl (.len sl_36_A rfl) (.qg rfl (.cmp rfl rfl rfl) (.q rfl (.pickT rfl rfl) (.mv rfl (.nil (j _ _ (.ret (c _ _ (⟨_, rfl, ?_⟩))))))))
    first
    | exact ⟨congrArg _ (B_false (Nd.ok_no hn)), b⟩
    | exact ⟨congrArg Value.bool (B_as (by rw [Nd.ok_2 hn (by omega)]; first | (rw [decide_eq_true_iff]; omega) | (rw [beq_iff_eq]; omega) | (simp only [Bool.false_eq_true, false_iff]; omega))), b⟩
    | exact ⟨congrArg Value.bool (B_as (by rw [Nd.ok_3 hn (by omega)]; first | (rw [decide_eq_true_iff]; omega) | (rw [beq_iff_eq]; omega) | (simp only [Bool.false_eq_true, false_iff]; omega))), b⟩
    | exact ⟨congrArg Value.bool (B_as (by rw [Nd.ok_7 hn (by omega)]; first | (rw [decide_eq_true_iff]; omega) | (rw [beq_iff_eq]; omega) | (simp only [Bool.false_eq_true, false_iff]; omega))), b⟩
    | exact ⟨congrArg Value.bool (B_as (by rw [Nd.ok_0 hn (by omega)]; first | (rw [decide_eq_true_iff]; omega) | (rw [beq_iff_eq]; omega) | (simp only [Bool.false_eq_true, false_iff]; omega))), b⟩
   try simp only [sps] at k
   refine .z rfl (.z rfl (.z rfl (.z rfl (.q rfl (.pickF rfl rfl) (.mv rfl (.nil (j _ _ (.ret (c _ _ (⟨_, rfl, ?_⟩))))))))))
   first
   | exact ⟨congrArg _ (B_false (Nd.ok_no hn)), b⟩
   | exact ⟨congrArg Value.bool (B_as (by rw [Nd.ok_2 hn (by omega)]; first | (rw [decide_eq_true_iff]; omega) | (rw [beq_iff_eq]; omega) | (simp only [Bool.false_eq_true, false_iff]; omega))), b⟩
   | exact ⟨congrArg Value.bool (B_as (by rw [Nd.ok_3 hn (by omega)]; first | (rw [decide_eq_true_iff]; omega) | (rw [beq_iff_eq]; omega) | (simp only [Bool.false_eq_true, false_iff]; omega))), b⟩
   | exact ⟨congrArg Value.bool (B_as (by rw [Nd.ok_7 hn (by omega)]; first | (rw [decide_eq_true_iff]; omega) | (rw [beq_iff_eq]; omega) | (simp only [Bool.false_eq_true, false_iff]; omega))), b⟩
   | exact ⟨congrArg Value.bool (B_as (by rw [Nd.ok_0 hn (by omega)]; first | (rw [decide_eq_true_iff]; omega) | (rw [beq_iff_eq]; omega) | (simp only [Bool.false_eq_true, false_iff]; omega))), b⟩
  try simp only [sps] at i
  refine .z rfl (.z rfl (.z rfl (.q rfl (.pickF rfl rfl) (.mv rfl (.z rfl (.z rfl (.z rfl (.z rfl (.q rfl (.pickF rfl rfl) (.mv rfl (.nil (j _ _ (.ret (c _ _ (⟨_, rfl, ?_⟩)))))))))))))))
  first
  | exact ⟨congrArg _ (B_false (Nd.ok_no hn)), b⟩
  | exact ⟨congrArg Value.bool (B_as (by rw [Nd.ok_2 hn (by omega)]; first | (rw [decide_eq_true_iff]; omega) | (rw [beq_iff_eq]; omega) | (simp only [Bool.false_eq_true, false_iff]; omega))), b⟩
  | exact ⟨congrArg Value.bool (B_as (by rw [Nd.ok_3 hn (by omega)]; first | (rw [decide_eq_true_iff]; omega) | (rw [beq_iff_eq]; omega) | (simp only [Bool.false_eq_true, false_iff]; omega))), b⟩
  | exact ⟨congrArg Value.bool (B_as (by rw [Nd.ok_7 hn (by omega)]; first | (rw [decide_eq_true_iff]; omega) | (rw [beq_iff_eq]; omega) | (simp only [Bool.false_eq_true, false_iff]; omega))), b⟩
  | exact ⟨congrArg Value.bool (B_as (by rw [Nd.ok_0 hn (by omega)]; first | (rw [decide_eq_true_iff]; omega) | (rw [beq_iff_eq]; omega) | (simp only [Bool.false_eq_true, false_iff]; omega))), b⟩
theorem partEnd_c {g : Nat} {L : List Nd} {r : Nat → Option Addr} {H : GHeap} (hg : H.get g = some (.row (ndV r L) 38 true) := by assumption) (hl : L.length ≤ 1048576 := by omega) :
    GCalls Tryd.prog 38 [.slice (some ⟨g, 0, none⟩) L.length L.length, .int .i64 0] H (Ret (.int .i64 (endV L)) H) := by
  have _ := ndV_slA hg
  refine GCalls.body (N := 23) (rs := [.tmp 4]) Tryd.func38 rfl rfl rfl rfl (fun Qx a hend => ?_)
  refine .fg [0, 1] rfl ?_
  refine .seq (fun K1 f => .region (.mv rfl (.nil (f _ _ (.seq (fun K2 h => .seq (fun K3 l => .region (.mv rfl (.nil (l _ _ (.block ?_)))))))))))
  refine .loopF (σ := Nat × Nat) [0] (fun (o, i) => [(5, some (.int .i64 (o : Int))), (1, some (.int .i64 (i : Int)))]) (fun (o, i) H' => H = H' ∧ eat 1 L = (eat o (L.drop i)).map (· + i) ∧ i ≤ L.length ∧ o ≤ i + 1) (fun (o, i) => L.length - i) ((1, 0)) rfl (.p rfl) ?_ ?_
  ·
   refine ⟨rfl, ?_⟩
   exact ⟨by simp, by omega, by omega⟩
  rintro ⟨o, i⟩ _ ⟨rfl, hI⟩ _ c
  dsimp only [cA, nA]
  obtain ⟨he, _, _⟩ := hI
  refine .seq (fun K4 n => .seq (fun K5 m => .region (.mv rfl (.q rfl (.cmp rfl rfl rfl) (.nil (m _ _ ?_))))))
  refine .cond rfl ?_ ?_ <;> intro h7
  ·
   simp only [sps] at h7
   obtain ⟨q, rfl⟩ : ∃ q, o = q + 1 := ⟨o - 1, by omega⟩
   refine .skip (n _ _ (.seq (fun K6 s => .block (.seq (fun K7 u => .seq (fun K8 j => .region (.mv rfl (.mv rfl (.q rfl (.len sl_22_Ub rfl) (.q rfl (.cmp rfl rfl rfl) (.nil (j _ _ ?_))))))))))))
   refine .cond rfl ?_ ?_ <;> intro e
   ·
    simp only [sps] at e
    refine .seq (fun K9 t => .region (.mv rfl (.nil (t _ _ (.ret (a _ _ (⟨_, rfl, ?_⟩)))))))
    first
    | exact .of (congrArg _ (endV_none (by omega) he))
    | exact .of (congrArg _ (endV_some he))
   simp only [sps] at e
   have _ := prt_le (L.getD i ndz).k
   have hm := ndV_mem hg (i := i) (by omega)
   refine .skip (u _ _ (.seq (fun K10 d => .region (.mv rfl (.mv rfl (.mv rfl ?_))))))
   refine .q rfl (.idx sl_22_Ub (by assumption) (by omega) rfl rfl (by omega) (by omega) rfl) ?_
   refine .callQ rfl rfl rfl rfl @Tryd.call41 rfl (parts_c hm.2) ?_
   refine .q rfl (.aD rfl rfl rfl) (.mv rfl (.nil (d _ _ (.region (.mv rfl (.q rfl (.aD rfl rfl rfl) (.mv rfl (.nil (s _ _ (.region (.mv rfl ?_)))))))))))
   refine .q rfl (.sub (r := ((q + prt (L.getD i ndz).k : Nat) : Int)) rfl rfl (by omega) (by omega) (by omega)) ?_
   refine .mv rfl (.nil ?_)
   refine c ((q + prt (L.getD i ndz).k, i + 1)) _ _ ?_ ?_ (.p rfl)
   ·
    refine ⟨rfl, ?_⟩
    exact ⟨eat_next (by omega) he, by omega, by omega⟩
   (dsimp only; omega)
  simp only [sps] at h7
  obtain rfl : o = 0 := by omega
  refine .exit (h _ _ (.seq (fun K11 b => .region (.mv rfl (.mv rfl (.nil (b _ _ (.ret (a _ _ (⟨_, rfl, ?_⟩))))))))))
  first
  | exact .of (congrArg _ (endV_none (by omega) he))
  | exact .of (congrArg _ (endV_some he))
theorem l29End_c {g : Nat} {L : List Nd} {r : Nat → Option Addr} {H : GHeap} (hg : H.get g = some (.row (ndV r L) 38 true) := by assumption) (hl : L.length ≤ 1048576 := by omega) :
    GCalls Tryd.prog 23 [.slice (some ⟨g, 0, none⟩) L.length L.length, .int .i64 0] H (Ret (.int .i64 (endV L)) H) := by
  have _ := ndV_slA hg
  refine GCalls.body (N := 24) (rs := [.tmp 4]) Tryd.func23 rfl rfl rfl rfl (fun Qx a hend => ?_)
  refine .fg [0, 1] rfl ?_
  refine .seq (fun K1 e => .region (.mv rfl (.nil (e _ _ (.seq (fun K2 f => .region (.mv rfl (.nil (f _ _ (.seq (fun K3 j => .block ?_)))))))))))
  refine .loopF (σ := Nat × Nat) [0] (fun (o, i) => [(5, some (.int .i64 (o : Int))), (1, some (.int .i64 (i : Int)))]) (fun (o, i) H' => H = H' ∧ eat 1 L = (eat o (L.drop i)).map (· + i) ∧ i ≤ L.length ∧ o ≤ i + 1) (fun (o, i) => L.length - i) ((1, 0)) rfl (.p rfl) ?_ ?_
  ·
   refine ⟨rfl, ?_⟩
   exact ⟨by simp, by omega, by omega⟩
  rintro ⟨o, i⟩ _ ⟨rfl, hI⟩ _ b
  dsimp only [cA, nA]
  obtain ⟨he, _, _⟩ := hI
  refine .seq (fun K4 m => .seq (fun K5 l => .region (.mv rfl (.q rfl (.cmp rfl rfl rfl) (.nil (l _ _ ?_))))))
  refine .cond rfl ?_ ?_ <;> intro h7
  ·
   simp only [sps] at h7
   obtain ⟨q, rfl⟩ : ∃ q, o = q + 1 := ⟨o - 1, by omega⟩
   refine .skip (m _ _ (.block (.seq (fun K6 n => .seq (fun K7 t => .region (.mv rfl (.mv rfl (.q rfl (.len sl_22_Ub rfl) (.q rfl (.cmp rfl rfl rfl) (.nil (t _ _ ?_)))))))))))
   refine .cond rfl ?_ ?_ <;> intro d
   ·
    simp only [sps] at d
    refine .seq (fun K8 h => .region (.mv rfl (.nil (h _ _ (.ret (a _ _ (⟨_, rfl, ?_⟩)))))))
    first
    | exact .of (congrArg _ (endV_none (by omega) he))
    | exact .of (congrArg _ (endV_some he))
   simp only [sps] at d
   have _ := prt_le (L.getD i ndz).k
   have hm := ndV_mem hg (i := i) (by omega)
   have hc := hm.2 0 _ rfl
   refine .skip (n _ _ (.seq (fun K9 s => .region (.mv rfl ?_))))
   refine .q rfl (.sub (r := (q : Int)) rfl rfl (by omega) (by omega) (by omega)) ?_
   refine .mv rfl (.mv rfl ?_)
   refine .q rfl (.idx sl_22_Ub (by assumption) (by omega) rfl rfl (by omega) (by omega) rfl) ?_
   refine .q rfl (.fieldAddr fo_38_0_Ub rfl) (.q rfl (.load on_2_A rfl hc) ?_)
   refine .callQ rfl rfl rfl rfl @Tryd.call29 rfl (l29Parts_c) ?_
   refine .q rfl (.add (r := ((q + prt (L.getD i ndz).k : Nat) : Int)) rfl rfl (by omega) (by omega) (by omega)) ?_
   refine .mv rfl (.nil (s _ _ (.region (.mv rfl (.q rfl (.aD rfl rfl rfl) (.mv rfl (.nil ?_)))))))
   refine b ((q + prt (L.getD i ndz).k, i + 1)) _ _ ?_ ?_ (.p rfl)
   ·
    refine ⟨rfl, ?_⟩
    exact ⟨eat_next (by omega) he, by omega, by omega⟩
   (dsimp only; omega)
  simp only [sps] at h7
  obtain rfl : o = 0 := by omega
  refine .exit (j _ _ (.seq (fun K10 c => .region (.mv rfl (.mv rfl (.nil (c _ _ (.ret (a _ _ (⟨_, rfl, ?_⟩))))))))))
  first
  | exact .of (congrArg _ (endV_none (by omega) he))
  | exact .of (congrArg _ (endV_some he))
theorem isFormula_c {g : Nat} {L : List Nd} {r : Nat → Option Addr} {H : GHeap} (hg : H.get g = some (.row (ndV r L) 38 true) := by assumption) (hA : ∀ i, i < L.length → Ints H (r i) (L.getD i ndz).az) (hB : ∀ i, i < L.length → (L.getD i ndz).az.length ≤ 1048576) (hl : L.length ≤ 1048576 := by omega) :
    GCalls Tryd.prog 25 [.slice (some ⟨g, 0, none⟩) L.length L.length] H (Ret (.bool (B (IsF L))) H) := by
  have _ := ndV_slA hg
  refine GCalls.body (N := 24) (rs := [.tmp 2]) Tryd.func25 rfl rfl rfl rfl (fun Qx a hend => ?_)
  refine .fg [0] rfl ?_
  refine .seq (fun K1 o => .region (.mv rfl (.nil (o _ _ (.seq (fun K2 m => .seq (fun K3 s => .region (.mv rfl (.q rfl (.len sl_22_Ub rfl) ?_)))))))))
  refine .callQ rfl rfl rfl rfl @Tryd.call36 rfl (inRange_c) ?_
  refine .q rfl (.not rfl) (.nil (s _ _ ?_))
  refine .cond rfl ?_ ?_ <;> intro h7
  ·
   simp only [inR, sps] at h7
   refine .seq (fun K4 u => .region (.mv rfl (.nil (u _ _ (.ret (a _ _ (⟨_, rfl, ?_⟩)))))))
   first
   | exact .of (congrArg _ (B_false (IsF.no (by omega))))
   | exact .of (congrArg _ (B_false (IsF.nd (i := k) (by omega) b)))
   | exact .of (congrArg Value.bool (B_as (by rw [IsF.of (by omega) (fun i hi => c i (by omega)), beq_iff_eq])))
  simp only [inR, sps] at h7
  refine .skip (m _ _ (.seq (fun K5 t => .seq (fun K6 v => .region (.mv rfl (.q rfl (.len sl_22_Ub rfl) (.mv rfl (.nil (v _ _ (.block ?_))))))))))
  refine .loopF (σ := Nat) [0, 9] (fun k => [(10, some (.int .i64 (k : Int)))]) (fun k H' => H = H' ∧ (k : Int) ≤ L.length ∧ ∀ i, i < k → (L.getD i ndz).Ok) (fun k => (L.length - k : Int).toNat) (0) rfl (.p rfl) ?_ ?_
  ·
   refine ⟨rfl, ?_⟩
   exact ⟨by omega, fun _ _ => by omega⟩
  rintro k _ ⟨rfl, hI⟩ _ h
  dsimp only [cA, nA]
  obtain ⟨_, c⟩ := hI
  refine .seq (fun K7 x => .region (.q rfl (.cmp rfl rfl rfl) (.nil (x _ _ (.seq (fun K8 n => ?_))))))
  refine .cond rfl ?_ ?_ <;> intro l
  ·
   simp only [sps] at l
   have hm := ndV_mem hg (i := k) (by omega)
   refine .skip (n _ _ (.seq (fun K9 w => .block (.seq (fun K10 j => .region (.mv rfl (.mv rfl (.nil (j _ _ (.seq (fun K11 d => .region (.mv rfl (.mv rfl ?_)))))))))))))
   refine .q rfl (.idx sl_22_Ub (by assumption) (by omega) rfl rfl (by omega) (by omega) rfl) ?_
   refine .callQ rfl rfl rfl rfl @Tryd.call37 rfl (isNode_c hm.2 (hA k (by omega)) (hB k (by omega))) ?_
   refine .q rfl (.not rfl) (.nil (d _ _ ?_))
   refine .cond rfl ?_ ?_ <;> intro b
   ·
    simp only [sps] at b
    refine .seq (fun K12 e => .region (.mv rfl (.nil (e _ _ (.ret (a _ _ (⟨_, rfl, ?_⟩)))))))
    first
    | exact .of (congrArg _ (B_false (IsF.no (by omega))))
    | exact .of (congrArg _ (B_false (IsF.nd (i := k) (by omega) b)))
    | exact .of (congrArg Value.bool (B_as (by rw [IsF.of (by omega) (fun i hi => c i (by omega)), beq_iff_eq])))
   simp only [sps] at b
   refine .skip (w _ _ (.region (.q rfl (.aD rfl rfl rfl) (.mv rfl (.nil ?_)))))
   refine h (k + 1) _ _ ?_ ?_ (.p rfl)
   ·
    refine ⟨rfl, ?_⟩
    refine ⟨by omega, fun i hx => ?_⟩
    by_cases hltq : i < k
    · exact c i hltq
    · obtain rfl : i = k := by omega
      first | assumption | omega | simp_all
   omega
  try simp only [sps] at l
  refine .exit (t _ _ (.seq (fun K13 f => .region (.mv rfl ?_))))
  refine .callQ rfl rfl rfl rfl @Tryd.call38 rfl (partEnd_c) ?_
  refine .mv rfl (.q rfl (.len sl_22_Ub rfl) (.q rfl (.cmp rfl rfl rfl) (.mv rfl (.nil (f _ _ (.ret (a _ _ (⟨_, rfl, ?_⟩))))))))
  first
  | exact .of (congrArg _ (B_false (IsF.no (by omega))))
  | exact .of (congrArg _ (B_false (IsF.nd (i := k) (by omega) b)))
  | exact .of (congrArg Value.bool (B_as (by rw [IsF.of (by omega) (fun i hi => c i (by omega)), beq_iff_eq])))
theorem specIsFormula_c {g : Nat} {L : List Nd} {r : Nat → Option Addr} {H : GHeap} (hg : H.get g = some (.row (ndV r L) 38 true) := by assumption) (hA : ∀ i, i < L.length → Ints H (r i) (L.getD i ndz).az) (hB : ∀ i, i < L.length → (L.getD i ndz).az.length ≤ 1048576) (hl : L.length ≤ 1048576 := by omega) :
    GCalls Tryd.prog 10 [.slice (some ⟨g, 0, none⟩) L.length L.length] H (Ret (.bool (B (IsF L))) H) := by
  have _ := ndV_slA hg
  refine GCalls.body (N := 25) (rs := [.tmp 2]) Tryd.func10 rfl rfl rfl rfl (fun Qx a hend => ?_)
  refine .fg [0] rfl ?_
  refine .seq (fun K1 l => .region (.mv rfl (.nil (l _ _ (.seq (fun K2 m => .seq (fun K3 o => .region (.mv rfl (.q rfl (.len sl_22_Ub rfl) ?_)))))))))
  refine .callQ rfl rfl rfl rfl @Tryd.call21 rfl (l01In_c) ?_
  refine .q rfl (.not rfl) (.nil (o _ _ ?_))
  refine .cond rfl ?_ ?_ <;> intro h7
  ·
   simp only [inR, sps] at h7
   refine .seq (fun K4 t => .region (.mv rfl (.nil (t _ _ (.ret (a _ _ (⟨_, rfl, ?_⟩)))))))
   first
   | exact .of (congrArg _ (B_false (IsF.no (by omega))))
   | exact .of (congrArg _ (B_false (IsF.nd (i := k) (by omega) b)))
   | exact .of (congrArg Value.bool (B_as (by rw [IsF.of (by omega) (fun i hi => c i (by omega)), beq_iff_eq])))
  simp only [inR, sps] at h7
  refine .skip (m _ _ (.seq (fun K5 s => .seq (fun K6 u => .region (.mv rfl (.nil (u _ _ (.block ?_))))))))
  refine .loopF (σ := Nat) [0] (fun k => [(3, some (.int .i64 (k : Int)))]) (fun k H' => H = H' ∧ (k : Int) ≤ L.length ∧ ∀ i, i < k → (L.getD i ndz).Ok) (fun k => (L.length - k : Int).toNat) (0) rfl (.p rfl) ?_ ?_
  ·
   refine ⟨rfl, ?_⟩
   exact ⟨by omega, fun _ _ => by omega⟩
  rintro k _ ⟨rfl, hI⟩ _ f
  dsimp only [cA, nA]
  obtain ⟨_, c⟩ := hI
  refine .seq (fun K7 w => .seq (fun K8 n => .region (.mv rfl (.mv rfl (.q rfl (.len sl_22_Ub rfl) (.q rfl (.cmp rfl rfl rfl) (.nil (n _ _ ?_))))))))
  refine .cond rfl ?_ ?_ <;> intro j
  ·
   simp only [sps] at j
   have hm := ndV_mem hg (i := k) (by omega)
   refine .skip (w _ _ (.seq (fun K9 v => .block (.seq (fun K10 h => .region (.mv rfl (.mv rfl ?_)))))))
   refine .q rfl (.idx sl_22_Ub (by assumption) (by omega) rfl rfl (by omega) (by omega) rfl) ?_
   refine .q rfl (.loadM ag_38_Ub rfl hm) ?_
   refine .callQ rfl rfl rfl rfl @Tryd.call22 rfl (l29Node_c (hA k (by omega)) (hB k (by omega))) ?_
   refine .q rfl (.not rfl) (.nil (h _ _ ?_))
   refine .cond rfl ?_ ?_ <;> intro b
   ·
    simp only [sps] at b
    refine .seq (fun K11 d => .region (.mv rfl (.nil (d _ _ (.ret (a _ _ (⟨_, rfl, ?_⟩)))))))
    first
    | exact .of (congrArg _ (B_false (IsF.no (by omega))))
    | exact .of (congrArg _ (B_false (IsF.nd (i := k) (by omega) b)))
    | exact .of (congrArg Value.bool (B_as (by rw [IsF.of (by omega) (fun i hi => c i (by omega)), beq_iff_eq])))
   simp only [sps] at b
   refine .skip (v _ _ (.region (.mv rfl (.q rfl (.aD rfl rfl rfl) (.mv rfl (.nil ?_))))))
   refine f (k + 1) _ _ ?_ ?_ (.p rfl)
   ·
    refine ⟨rfl, ?_⟩
    refine ⟨by omega, fun i hx => ?_⟩
    by_cases hltq : i < k
    · exact c i hltq
    · obtain rfl : i = k := by omega
      first | assumption | omega | simp_all
   omega
  try simp only [sps] at j
  refine .exit (s _ _ (.seq (fun K12 e => .region (.mv rfl ?_))))
  refine .callQ rfl rfl rfl rfl @Tryd.call23 rfl (l29End_c) ?_
  refine .mv rfl (.q rfl (.len sl_22_Ub rfl) (.q rfl (.cmp rfl rfl rfl) (.mv rfl (.nil (e _ _ (.ret (a _ _ (⟨_, rfl, ?_⟩))))))))
  first
  | exact .of (congrArg _ (B_false (IsF.no (by omega))))
  | exact .of (congrArg _ (B_false (IsF.nd (i := k) (by omega) b)))
  | exact .of (congrArg Value.bool (B_as (by rw [IsF.of (by omega) (fun i hi => c i (by omega)), beq_iff_eq])))
end Go.Proofs.YtdnjnligclkkgaaDoor
namespace Go.Proofs.YtdnjnligclkkgaaDoor
open Go Go.GL Go.RowKit Go.Proofs
theorem st_9_Tm : isStringT Tryd.prog 9 = true := by kernel_rfl
theorem smallS_c {n : Nat} {H : GHeap} (hn : n < 100) :
    GCalls Tryd.prog 45 [.int .i64 (n : Int)] H (Ret (.string (decB n)) H) := by
  refine GCalls.body (N := 15) (rs := [.tmp 2]) Tryd.func45 rfl rfl rfl rfl (fun Qx a hend => ?_)
  refine .fg [0] rfl ?_
  have _ := GHeap.Le.refl H
  refine .seq (fun K1 b => .region (.mv rfl (.nil (b _ _ (.seq (fun K2 c => .seq (fun K3 d => .region (.mv rfl (.q rfl (.cmp rfl rfl rfl) (.nil (d _ _ ?_)))))))))))
  refine .cond rfl ?_ ?_ <;> intro h4
  ·
   simp only [sps] at h4
   refine .seq (fun K4 f => .region (.mv rfl (.mv rfl (.q rfl (.aD rfl rfl rfl) ?_))))
   refine .q rfl (.substr (s := digB) st_9_Tm rfl rfl rfl (by omega) (by omega) (by rw [digB_size]; omega)) ?_
   refine .mv rfl (.nil (f _ _ (.ret (a _ _ (⟨_, rfl, ?_⟩)))))
   exact .of (congrArg Value.string (by rw [← digB_ex (i := n) (by omega)]; congr 1))
  simp only [sps] at h4
  refine .skip (c _ _ (.seq (fun K5 e => .region (.mv rfl ?_))))
  refine .q rfl (.mul rfl rfl rfl (by omega) (by omega)) ?_
  refine .mv rfl ?_
  refine .q rfl (.mul rfl rfl rfl (by omega) (by omega)) ?_
  refine .q rfl (.aD rfl rfl rfl) ?_
  refine .q rfl (.substr (s := smlB) st_9_Tm rfl rfl rfl (by omega) (by omega) (by rw [smlB_size]; omega)) ?_
  refine .mv rfl (.nil (e _ _ (.ret (a _ _ (⟨_, rfl, ?_⟩)))))
  exact .of (congrArg Value.string (by rw [← smlB_ex (i := n) (by omega) hn]; congr 1))
theorem fmtI_c {n : Nat} {H : GHeap} (hn : n < 100) :
    GCalls Tryd.prog 44 [.int .i64 (n : Int), .int .i64 10] H (Ret (.string (decB n)) H) := by
  refine GCalls.body (N := 54) (rs := [.tmp 4]) Tryd.func44 rfl rfl rfl rfl (fun Qx b hend => ?_)
  refine .fg [0, 1] rfl ?_
  have _ := GHeap.Le.refl H
  refine .seq (fun K1 e => .region (.mv rfl (.nil (e _ _ (.seq (fun K2 hK2 => .seq (fun K3 f => .region (.mv rfl (.q rfl (.cmp rfl rfl rfl) (.nil (f _ _ ?_)))))))))))
  refine .cond rfl ?_ ?_ <;> intro d
  ·
   try simp only [sps] at d
   refine .seq (fun K4 hK4 => .seq (fun K5 g => .region (.mv rfl (.q rfl (.cmp rfl rfl rfl) (.mv rfl ?_)))))
   refine .split (fun a => ?_) (fun a => ?_)
   ·
    try simp only [sps] at a
    refine .qg rfl (.move rfl) (.qg rfl (.cmp rfl rfl rfl) (.q rfl (.pickT rfl rfl) (.nil (g _ _ ?_))))
    refine .cond rfl ?_ ?_ <;> intro c
    ·
     try simp only [sps] at c
     refine .seq (fun K6 h => .region (.mv rfl ?_))
     refine .callQ rfl rfl rfl rfl @Tryd.call45 rfl (smallS_c hn) ?_
     refine .mv rfl (.nil (h _ _ (.ret (b _ _ (⟨_, rfl, ?_⟩)))))
     exact .of rfl
    simp only [sps] at c
    omega
   simp only [sps] at a
   omega
  simp at d
theorem fmt_c {n : Nat} {H : GHeap} (hn : n < 100) :
    GCalls Tryd.prog 42 [.int .i64 (n : Int), .int .i64 10] H (Ret (.string (decB n)) H) := by
  refine GCalls.body (N := 8) (rs := [.tmp 4]) Tryd.func42 rfl rfl rfl rfl (fun Qx a hend => ?_)
  refine .fg [0, 1] rfl ?_
  have _ := GHeap.Le.refl H
  refine .seq (fun K1 b => .region (.mv rfl (.nil (b _ _ (.seq (fun K2 c => .region (.mv rfl (.mv rfl ?_))))))))
  refine .callQ rfl rfl rfl rfl @Tryd.call44 rfl (fmtI_c hn) ?_
  refine .mv rfl (.nil (c _ _ (.ret (a _ _ (⟨_, rfl, ?_⟩)))))
  exact .of rfl
theorem fmtZ_c {z : Int} {H : GHeap} (h0 : 0 ≤ z := by omega) (h1 : z < 100 := by omega) :
    GCalls Tryd.prog 42 [.int .i64 z, .int .i64 10] H (Ret (.string (decB z.toNat)) H) := by
  have h := fmt_c (n := z.toNat) (H := H) (by omega)
  rwa [Int.toNat_of_nonneg h0] at h
end Go.Proofs.YtdnjnligclkkgaaDoor
