/- The paths of a graph. No condition but those of each statement. -/
import Derived.Test.YtolfggcanbpknaaZ9
namespace Go.Proofs.Ytolfggcanbpknaa
open Go Go.GL Go.RowKit Go.Proofs
theorem sl_115_Di : sliceT Try.prog 115 = some (118, 3) := by kernel_rfl
theorem ze_118_Di : zeroT Try.prog 118 = some ([.int .i64 0, .int .i64 0, .slice none 0 0], 3) := by kernel_rfl
theorem bt_118_Di : buildT Try.prog 118 = some ([.int .i64 0, .int .i64 0, .slice none 0 0], [(0, 1), (1, 1), (2, 1)]) := by kernel_rfl
theorem by_118_Di : (Try.prog.info? 118).map (·.bytes) = some 40 := by kernel_rfl
theorem ag_118_Di : aggT Try.prog 118 = some 3 := by kernel_rfl
set_option maxHeartbeats 8000000 in
theorem l03All_c {a b : Option Addr} {xs ys : List Int} {n : Nat} {H : GHeap} (ha : Ints H a xs := by assumption) (hb : Ints H b ys := by assumption) (hl : ys.length = xs.length) (hx : xs.length ≤ 3) (hn : n ≤ 3) (hy : Bd 0 ((n : Int) - 1) ys) (hup : ∀ e, e < xs.length → xs.getD e 0 < ys.getD e 0) :
    GCalls Try.prog 126 [.int .i64 (n : Int), .slice a xs.length xs.length, .slice b ys.length ys.length] H (NewPaths 2 118 ((n : Int) - 1) H) := by
  refine GCalls.body (N := 117) (rs := [.tmp 6]) Try.func126 rfl rfl rfl rfl (fun Qx hret hend => ?_)
  refine .fg [0, 1, 2] rfl ?_
  have hle := GHeap.Le.refl H
  have base_ha := ha
  have base_hb := hb
  refine .seq (fun K1 hK1 => .region (.mv rfl (.nil (hK1 _ _ (.seq (fun K2 hK2 => .region ?_))))))
  refine .R rfl (.litA rfl sl_115_Di ze_118_Di rfl rfl rfl rfl) ?_
  rintro _ H14 ⟨g14, rfl, le14, ge14, at14⟩
  have nx_H14 := le14.1
  replace hle := hle.trans le14
  have lt_at14 := GHeap.ltg at14
  refine .mv rfl (.nil (hK2 _ _ (.seq (fun K3 hK3 => .seq (fun K4 hK4 => .region (.mv rfl (.nil (hK4 _ _ ?_))))))))
  refine .block ?_
  refine .loopR (σ := Nat × List Pth × Nat × Nat) [(0, some _), (1, some _), (2, some _)] (fun (x, ps, gL7, nL7) => [(8, some (.int .i64 (x : Int))), (7, some (.slice (some ⟨gL7, 0, none⟩) nL7 nL7))]) (fun (x, ps, gL7, nL7) H' => St [g14] H14 H' ∧ H'.get gL7 = some (.row (pcells ps) 118 true) ∧ PL gL7 g14 H14.next ∧ nL7 = ps.length ∧ (x ≤ n ∧ ps.length = x ∧ pws ps ≤ pwn x) ∧ PthOk H.next 2 ((n : Int) - 1) H' ps) (fun (x, ps, gL7, nL7) => n - x) ((0, [], _, _)) ⟨rfl, rfl, rfl, trivial⟩ ⟨rfl, rfl, trivial⟩ ?_ ?_
  ·
   refine ⟨.refl _ _, by assumption, ⟨.inl rfl⟩, by rfl, ?_⟩
   exact ⟨⟨by omega, rfl, Nat.le_refl _⟩, .nil _ _ _ _⟩
  rintro ⟨x, ps, gL7, nL7⟩ HL1 ⟨lst1, at_L7, pl_L7, ln_L7, hI⟩ KL1 hKL1
  refine .forget (fr' := [(8, some (.int .i64 (x : Int))), (7, some (.slice (some ⟨gL7, 0, none⟩) nL7 nL7)), (0, some _), (1, some _), (2, some _)]) ⟨rfl, rfl, rfl, rfl, rfl, trivial⟩ ?_
  have ge_L7 : H.next ≤ gL7 := pl_L7.ge (by omega) (by omega)
  have nx_HL1 := lst1.nx
  replace hle := hle.st lst1 (fun k hk => ⟨by omega, trivial⟩)
  have lt_at_L7 := GHeap.ltg at_L7
  have rk := St.refl [gL7] HL1
  obtain ⟨⟨hxn, hpl, hw⟩, hP⟩ := hI
  have htl := pcells_len ps
  have hat7 := at_L7
  refine .seq (fun K5 hK5 => .seq (fun K6 hK6 => .region (.mv rfl (.mv rfl (.q rfl (.cmp rfl rfl rfl) (.nil (hK6 _ _ ?_)))))))
  refine .cond rfl (fun h17 => ?_) (fun h17 => ?_)
  ·
   simp only [sps] at h17
   refine .skip ?_
   refine hK5 _ _ (.seq (fun K7 hK7 => ?_))
   refine .block ?_
   refine .region (.mv rfl (.mv rfl (.mv rfl ?_)))
   refine .R rfl (.litA rfl sl_24_A ze_2_L rfl rfl rfl rfl) ?_
   rintro _ H23 ⟨g23, rfl, le23, ge23, at23⟩
   replace lst1 := lst1.le le23
   replace rk := rk.le le23
   replace at_L7 := le23.2 _ _ at_L7
   have lt_at23 := GHeap.ltg at23
   replace at23 : GHeap.get H23 g23 = some (.row (ints []) 2 true) := at23
   refine .q rfl (.build bt_118_Di rfl rfl rfl) ?_
   refine .R rfl (.litA rfl sl_115_Di ze_118_Di rfl rfl rfl rfl) ?_
   rintro _ H25 ⟨g25, rfl, le25, ge25, at25⟩
   replace lst1 := lst1.le le25
   replace rk := rk.le le25
   replace at_L7 := le25.2 _ _ at_L7
   replace at23 := le25.2 _ _ at23
   have lt_at25 := GHeap.ltg at25
   refine .R rfl (.appendV rfl sl_115_Di ze_118_Di rfl by_118_Di sl_115_Di rfl rfl (by assumption) (by assumption) (by first | omega | (simp <;> omega)) rfl rfl (by omega) (by omega)) ?_
   rintro _ H26 ⟨g26, rfl, st26, ge26, at26⟩
   replace lst1 := lst1.sP st26
   replace rk := rk.sP st26
   replace at23 := st26.s at23
   refine .mv rfl (.nil (hK7 _ _ (.region (.mv rfl ?_))))
   refine .q rfl (.add rfl rfl rfl (by omega) (by omega)) ?_
   refine .mv rfl (.nil ?_)
   refine hKL1 ((x + 1, ps ++ [⟨(x : Int), (x : Int), [], g23⟩], _, _)) _ _ ?_ ?_ ⟨rfl, rfl, rfl, rfl, rfl, trivial⟩
   ·
    refine ⟨lst1, by (rw [pcells_snoc]; assumption), by exact ⟨.inr (by omega)⟩, by (simp only [List.length_append, List.length_cons, List.length_nil] <;> omega), ?_⟩
    exact ⟨⟨by omega, by simp; omega, by rw [pws_snoc, ← pwn_succ (by omega)]; exact Nat.add_le_add_right hw _⟩, (hP.keep (rk.lasts1 hat7 rfl)).snoc ⟨by simp, by simp; omega⟩ ⟨by simp, by simp; omega⟩ (by simp) (by simp; omega) (by assumption)⟩
   (dsimp only; omega)
  try simp only [sps] at h17
  refine .exit ?_
  refine hK3 _ _ (.seq (fun K8 hK8 => .seq (fun K9 hK9 => .region (.mv rfl (.nil (hK9 _ _ ?_))))))
  refine .block ?_
  refine .loopR (σ := Nat × List Pth × Nat × Nat) [(1, some _), (2, some _)] (fun (k, ps, gL7v2, nL7v2) => [(9, some (.int .i64 (k : Int))), (7, some (.slice (some ⟨gL7v2, 0, none⟩) nL7v2 nL7v2))]) (fun (k, ps, gL7v2, nL7v2) H' => St [gL7] HL1 H' ∧ H'.get gL7v2 = some (.row (pcells ps) 118 true) ∧ PL gL7v2 gL7 HL1.next ∧ nL7v2 = ps.length ∧ (k ≤ ps.length ∧ k + pws (ps.drop k) ≤ 18) ∧ PthOk H.next 2 ((n : Int) - 1) H' ps) (fun (k, ps, gL7v2, nL7v2) => 60 - k) ((0, ps, _, _)) ⟨rfl, rfl, trivial⟩ ⟨rfl, rfl, trivial⟩ ?_ ?_
  ·
   refine ⟨.refl _ _, by assumption, ⟨.inl rfl⟩, by assumption, ?_⟩
   exact ⟨⟨by omega, by have := pwn_le x; rw [List.drop_zero]; omega⟩, hP⟩
  rintro ⟨k, ps, gL7v2, nL7v2⟩ HL2 ⟨lst2, at_L7v2, pl_L7v2, ln_L7v2, hI⟩ KL2 hKL2
  refine .forget (fr' := [(9, some (.int .i64 (k : Int))), (7, some (.slice (some ⟨gL7v2, 0, none⟩) nL7v2 nL7v2)), (1, some _), (2, some _)]) ⟨rfl, rfl, rfl, rfl, trivial⟩ ?_
  have ge_L7v2 : H.next ≤ gL7v2 := pl_L7v2.ge (by omega) (by omega)
  have nx_HL2 := lst2.nx
  replace hle := hle.st lst2 (fun k hk => ⟨by omega, trivial⟩)
  obtain ⟨⟨hk, hwk⟩, hP⟩ := hI
  have hpl := pws_len hk hwk
  refine .seq (fun K10 hK10 => .seq (fun K11 hK11 => .region (.mv rfl (.mv rfl (.q rfl (.len sl_115_Di rfl) (.q rfl (.cmp rfl rfl rfl) (.mv rfl ?_)))))))
  refine .split (fun h31 => ?_) (fun h31 => ?_)
  ·
   simp only [sps] at h31
   refine .qg rfl (.move rfl) (.qg rfl (.len sl_115_Di rfl) (.qg rfl (.cmp rfl rfl rfl) (.q rfl (.pickT rfl rfl) (.nil (hK11 _ _ ?_)))))
   refine .cond rfl (fun h35 => ?_) (fun h35 => ?_)
   ·
    simp only [sps] at h35
    refine .skip ?_
    refine hK10 _ _ (.seq (fun K12 hK12 => ?_))
    refine .block ?_
    refine .seq (fun K13 hK13 => .region (.mv rfl (.nil (hK13 _ _ ?_))))
    refine .block ?_
    refine .loopR (σ := Nat × List Pth × Nat × Nat) [(1, some _), (2, some _), (9, some _), (32, some _), (33, some _), (34, some _)] (fun (e, p2, gL7v3, nL7v3) => [(10, some (.int .i64 (e : Int))), (7, some (.slice (some ⟨gL7v3, 0, none⟩) nL7v3 nL7v3))]) (fun (e, p2, gL7v3, nL7v3) H' => St [gL7v2] HL2 H' ∧ H'.get gL7v3 = some (.row (pcells p2) 118 true) ∧ PL gL7v3 gL7v2 HL2.next ∧ nL7v3 = p2.length ∧ (e ≤ xs.length ∧ ps.length ≤ p2.length ∧ p2.getD k pz = ps.getD k pz ∧ k + 1 + pws (p2.drop (k + 1)) + 3 * ((pw (ps.getD k pz).t - 1) / 3) ≤ 18 + e * ((pw (ps.getD k pz).t - 1) / 3)) ∧ PthOk H.next 2 ((n : Int) - 1) H' p2) (fun (e, p2, gL7v3, nL7v3) => xs.length - e) ((0, ps, _, _)) ⟨rfl, rfl, rfl, rfl, rfl, rfl, trivial⟩ ⟨rfl, rfl, trivial⟩ ?_ ?_
    ·
     refine ⟨.refl _ _, by assumption, ⟨.inl rfl⟩, by assumption, ?_⟩
     have hd := pws_drop (ps := ps) (k := k) (by omega)
     have h1 := pw_pos (ps.getD k pz).t
     exact ⟨⟨by omega, by omega, rfl, by omega⟩, hP⟩
    rintro ⟨e, p2, gL7v3, nL7v3⟩ HL3 ⟨lst3, at_L7v3, pl_L7v3, ln_L7v3, hI⟩ KL3 hKL3
    refine .forget (fr' := [(10, some (.int .i64 (e : Int))), (7, some (.slice (some ⟨gL7v3, 0, none⟩) nL7v3 nL7v3)), (1, some _), (2, some _), (9, some _), (32, some _), (33, some _), (34, some _)]) ⟨rfl, rfl, rfl, rfl, rfl, rfl, rfl, rfl, trivial⟩ ?_
    have nx_HL3 := lst3.nx
    replace hle := hle.st lst3 (fun k hk => ⟨by omega, trivial⟩)
    replace lst2 := lst2.sQ lst3
    have lt_at_L7v3 := GHeap.ltg at_L7v3
    replace ha := base_ha.mono hle
    replace hb := base_hb.mono hle
    obtain ⟨⟨he, hp1, hp2, hwe⟩, hP⟩ := hI
    have hl18 : p2.length ≤ 18 := by
      have hB := Nat.mul_le_mul_right ((pw (ps.getD k pz).t - 1) / 3) (show e ≤ 3 by omega)
      exact pws_len (k := k + 1) (by omega) (by omega)
    have htl := pcells_len p2
    refine .seq (fun K14 hK14 => .seq (fun K15 hK15 => .region (.mv rfl (.mv rfl (.q rfl (.len sl_24_A rfl) (.q rfl (.cmp rfl rfl rfl) (.nil (hK15 _ _ ?_))))))))
    refine .cond rfl (fun h41 => ?_) (fun h41 => ?_)
    ·
     simp only [sps] at h41
     refine .skip ?_
     refine hK14 _ _ (.seq (fun K16 hK16 => ?_))
     refine .block ?_
     refine .seq (fun K17 hK17 => ?_)
     refine .regionD mo_B (.q 0 (.q 1 (.q 2 (.q 3 (.q 4 (.q 5 (.q 6 (.q 7 (.q 8 (.q 9 (.done))))))))))) (by kernel_rfl) ?_
     obtain rfl := ln_L7v3
     have sA := pcells_slA at_L7v3
     have mk := pcells_mem at_L7v3 (i := k) (by omega)
     refine .mv rfl rfl (.mv rfl rfl ?_)
     refine .q rfl (.idxN sl_24_A (by assumption) rfl rfl (by omega)) ?_
     refine .q rfl (.loadI on_2_A (by assumption) rfl (by omega)) ?_
     refine .mv rfl rfl (.mv rfl rfl ?_)
     refine .q rfl (.idx sl_115_Di (by assumption) (by omega) rfl rfl (by omega) (by omega) rfl) ?_
     refine .q rfl (.fieldAddr fo_118_1_Dg rfl) (.q rfl (.load on_2_A rfl (mk.2 1 _ rfl)) (.q rfl (.cmp rfl rfl rfl) ?_))
     refine .done ?_
     refine hK17 _ _ ?_
     refine .cond rfl (fun h53 => ?_) (fun h53 => ?_)
     ·
      simp only [sps] at h53
      have pk := hP.at (i := k) (by omega)
      have iE := Ints.of_get pk.2.2.2.2
      have yb := hy e (by omega)
      have pk1 := pk.1
      have hh : ((p2.getD k pz).e ++ [(e : Int)]).length = (p2.getD k pz).e.length + 1 := by rw [List.length_append]; rfl
      refine .regionD mo_B (.q 0 (.q 1 (.q 2 (.q 3 (.q 4 (.q 5 (.q 6 (.q 7 (.q 8 (.q 9 (.q 10 (.q 11 (.q 12 (.q 13 (.q 14 (.q 16 (.or (.c 15 1 (.c 17 1 (.c 18 1 (.q 19 (.c 20 1 (.c 21 0 (.c 22 0 (.done)))))))) (.c 17 1 (.c 15 1 (.c 18 1 (.q 19 (.c 20 1 (.c 21 0 (.c 22 0 (.done))))))))))))))))))))))))) (by kernel_rfl) ?_
      refine .cut [(1, some _), (2, some _), (9, some _), (10, some _), (32, some _), (33, some _), (34, some _), (38, some _), (39, some _), (40, some _), (41, some _), (44, some _), (45, some _), (46, some _), (47, some _), (48, some _), (49, some _), (50, some _), (51, some _), (52, some _), (53, some _)] ⟨rfl, rfl, rfl, rfl, rfl, rfl, rfl, rfl, rfl, rfl, rfl, rfl, rfl, rfl, rfl, rfl, rfl, rfl, rfl, rfl, rfl, trivial⟩ (fun rest fr' H' => ∃ (gE : Nat) (gV : Nat), Sub ((7, some (.slice (some ⟨gV, 0, none⟩) (p2.length + 1) (p2.length + 1))) :: rest) fr' ∧ St [gL7v3] HL3 H' ∧ H'.get gE = some (.row (ints ((p2.getD k pz).e ++ [(e : Int)])) 2 true) ∧ HL3.next ≤ gE ∧ H'.get gV = some (.row (pcells (p2 ++ [⟨(p2.getD k pz).f, ys.getD e 0, (p2.getD k pz).e ++ [(e : Int)], gE⟩])) 118 true) ∧ HL3.next ≤ gV) ?_ ?_
      ·
       have hf0 := St.refl [gL7v3] HL3
       refine .qB rfl (.refl _) (.move rfl) (.qB rfl (.refl _) (.move rfl) (.qB rfl (.refl _) (.move rfl) ?_))
       refine .q rfl (.idx sl_115_Di (by assumption) (by omega) rfl rfl (by omega) (by omega) rfl) ?_
       refine .qB rfl (.refl _) (.fieldAddr fo_118_0_Dg rfl) (.q rfl (.load on_2_A rfl (mk.2 0 _ rfl)) (.qB rfl (.refl _) (.move rfl) (.qB rfl (.refl _) (.move rfl) ?_)))
       refine .q rfl (.idxN sl_24_A (by assumption) rfl rfl (by omega)) ?_
       refine .q rfl (.loadI on_2_A (by assumption) rfl (by omega)) ?_
       refine .qB rfl (.refl _) (.move rfl) (.qB rfl (.refl _) (.move rfl) ?_)
       refine .q rfl (.idx sl_115_Di (by assumption) (by omega) rfl rfl (by omega) (by omega) rfl) ?_
       refine .qB rfl (.refl _) (.fieldAddr fo_118_2_Dg rfl) (.q rfl (.load on_24_B rfl (mk.2 2 _ rfl)) (.qB rfl (.refl _) (.move rfl) ?_))
       refine .orI ?_ ?_
       ·
        refine .call1 rfl rfl rfl rfl rfl @Try.call102 rfl (l01Own_c (by first | exact iE | exact Ints.mono iE (by assumption))) ?_
        rintro _ H69 ⟨le69, g69, rfl, at69, ge69⟩
        have hbl := le69
        refine ⟨hbl, ?_⟩
        replace hf0 := hf0.le le69
        replace at_L7v3 := le69.2 _ _ at_L7v3
        have lt_at69 := GHeap.ltg at69
        refine .c1 rfl rfl rfl rfl (.litA rfl sl_24_A ze_2_L rfl rfl rfl rfl) ?_
        rintro _ H71 ⟨g71, rfl, le71, ge71, at71⟩
        replace hbl := hbl.trans le71
        refine ⟨hbl, ?_⟩
        replace hf0 := hf0.le le71
        replace at_L7v3 := le71.2 _ _ at_L7v3
        replace at69 := le71.2 _ _ at69
        have lt_at71 := GHeap.ltg at71
        refine .c1 rfl rfl rfl rfl (.appendI rfl sl_24_A ze_2_L rfl by_2_L sl_24_A rfl rfl (by assumption) (by assumption) (by first | omega | (simp <;> omega)) (by omega) (by omega)) ?_
        rintro _ H72 ⟨g72, rfl, st72, ge72, at72⟩
        replace hbl := hbl.st st72 (fun k hk => ⟨by omega, trivial⟩)
        refine ⟨hbl, ?_⟩
        replace hf0 := hf0.sA st72
        replace at_L7v3 := st72.s at_L7v3
        have lt_at72 := GHeap.ltg at72
        refine .qB rfl hbl (.build bt_118_Di rfl rfl rfl) ?_
        refine .c1 rfl rfl rfl rfl (.litA rfl sl_115_Di ze_118_Di rfl rfl rfl rfl) ?_
        rintro _ H74 ⟨g74, rfl, le74, ge74, at74⟩
        replace hbl := hbl.trans le74
        refine ⟨hbl, ?_⟩
        replace hf0 := hf0.le le74
        replace at_L7v3 := le74.2 _ _ at_L7v3
        replace at72 := le74.2 _ _ at72
        have lt_at74 := GHeap.ltg at74
        refine .c0 rfl rfl rfl rfl (.appendV rfl sl_115_Di ze_118_Di rfl by_118_Di sl_115_Di rfl rfl (by assumption) (by assumption) (by first | omega | (simp <;> omega)) rfl rfl (by omega) (by omega)) ?_
        rintro _ H75 ⟨g75, rfl, st75, ge75, at75⟩
        replace hf0 := hf0.sQ st75
        replace at72 := st75.s at72
        refine .d0 rfl rfl rfl rfl (.quiet (.assign rfl) CIs.mk) ?_
        refine .done ?_
        exact ⟨_, _, ⟨rfl, rfl, rfl, rfl, rfl, rfl, rfl, rfl, rfl, rfl, rfl, rfl, rfl, rfl, rfl, rfl, rfl, rfl, rfl, rfl, rfl, rfl, trivial⟩, hf0, by assumption, by omega, by (rw [pcells_snoc]; unfold Pth.cs; dsimp only; rw [hh]; assumption), by omega⟩
       refine .c1 rfl rfl rfl rfl (.litA rfl sl_24_A ze_2_L rfl rfl rfl rfl) ?_
       rintro _ H71x2 ⟨g71x2, rfl, le71x2, ge71x2, at71x2⟩
       have hbl := le71x2
       refine ⟨hbl, ?_⟩
       replace hf0 := hf0.le le71x2
       replace at_L7v3 := le71x2.2 _ _ at_L7v3
       have lt_at71x2 := GHeap.ltg at71x2
       refine .call1 rfl rfl rfl rfl rfl @Try.call102 rfl (l01Own_c (by first | exact iE | exact Ints.mono iE (by assumption))) ?_
       rintro _ H69x2 ⟨le69x2, g69x2, rfl, at69x2, ge69x2⟩
       replace hbl := hbl.trans le69x2
       refine ⟨hbl, ?_⟩
       replace hf0 := hf0.le le69x2
       replace at_L7v3 := le69x2.2 _ _ at_L7v3
       replace at71x2 := le69x2.2 _ _ at71x2
       have lt_at69x2 := GHeap.ltg at69x2
       refine .c1 rfl rfl rfl rfl (.appendI rfl sl_24_A ze_2_L rfl by_2_L sl_24_A rfl rfl (by assumption) (by assumption) (by first | omega | (simp <;> omega)) (by omega) (by omega)) ?_
       rintro _ H72x2 ⟨g72x2, rfl, st72x2, ge72x2, at72x2⟩
       replace hbl := hbl.st st72x2 (fun k hk => ⟨by omega, trivial⟩)
       refine ⟨hbl, ?_⟩
       replace hf0 := hf0.sA st72x2
       replace at_L7v3 := st72x2.s at_L7v3
       have lt_at72x2 := GHeap.ltg at72x2
       refine .qB rfl hbl (.build bt_118_Di rfl rfl rfl) ?_
       refine .c1 rfl rfl rfl rfl (.litA rfl sl_115_Di ze_118_Di rfl rfl rfl rfl) ?_
       rintro _ H74x2 ⟨g74x2, rfl, le74x2, ge74x2, at74x2⟩
       replace hbl := hbl.trans le74x2
       refine ⟨hbl, ?_⟩
       replace hf0 := hf0.le le74x2
       replace at_L7v3 := le74x2.2 _ _ at_L7v3
       replace at72x2 := le74x2.2 _ _ at72x2
       have lt_at74x2 := GHeap.ltg at74x2
       refine .c0 rfl rfl rfl rfl (.appendV rfl sl_115_Di ze_118_Di rfl by_118_Di sl_115_Di rfl rfl (by assumption) (by assumption) (by first | omega | (simp <;> omega)) rfl rfl (by omega) (by omega)) ?_
       rintro _ H75x2 ⟨g75x2, rfl, st75x2, ge75x2, at75x2⟩
       replace hf0 := hf0.sQ st75x2
       replace at72x2 := st75x2.s at72x2
       refine .d0 rfl rfl rfl rfl (.quiet (.assign rfl) CIs.mk) ?_
       refine .done ?_
       exact ⟨_, _, ⟨rfl, rfl, rfl, rfl, rfl, rfl, rfl, rfl, rfl, rfl, rfl, rfl, rfl, rfl, rfl, rfl, rfl, rfl, rfl, rfl, rfl, rfl, trivial⟩, hf0, by assumption, by omega, by (rw [pcells_snoc]; unfold Pth.cs; dsimp only; rw [hh]; assumption), by omega⟩
      rintro fr913 H913 ⟨gE13, gV13, hsub913, st913, aE, ge913, at913, gv913⟩
      have hpu := pw_up (t := (ps.getD k pz).t) (u := ys.getD e 0) (by rw [← hp2]; exact pk.2.1.1) (by rw [← hp2]; have := hup e (by omega); omega) (by omega)
      obtain ⟨p3, hp3, hl3, hg3, hw3, hP3⟩ : ∃ p3, p3 = p2 ++ [⟨(p2.getD k pz).f, ys.getD e 0, (p2.getD k pz).e ++ [(e : Int)], gE13⟩] ∧ p3.length = p2.length + 1 ∧ p3.getD k pz = p2.getD k pz ∧ pws (p3.drop (k + 1)) ≤ pws (p2.drop (k + 1)) + (pw (ps.getD k pz).t - 1) / 3 ∧ PthOk H.next 2 ((n : Int) - 1) H913 p3 := ⟨_, rfl, by simp, by rw [getD_snoc, if_pos (by omega)], by rw [pws_drop_snoc (by omega)]; dsimp only; omega, PthOk.snoc (p := ⟨(p2.getD k pz).f, ys.getD e 0, (p2.getD k pz).e ++ [(e : Int)], gE13⟩) (hP.keep (st913.lasts1 at_L7v3 rfl)) pk1 yb (by dsimp only; omega) (by dsimp only; omega) aE⟩
      rw [← hp3] at at913
      replace lst3 := lst3.sQ st913
      refine hK16 _ _ ?_
      refine .forget hsub913 ?_
      refine .region (.mv rfl ?_)
      refine .q rfl (.add rfl rfl rfl (by omega) (by omega)) ?_
      refine .mv rfl (.nil ?_)
      refine hKL3 ((e + 1, p3, _, _)) _ _ ?_ ?_ ⟨rfl, rfl, rfl, rfl, rfl, rfl, rfl, rfl, trivial⟩
      ·
       refine ⟨lst3, by assumption, by exact ⟨.inr (by omega)⟩, by omega, ?_⟩
       have e1 := sm e ((pw (ps.getD k pz).t - 1) / 3)
       exact ⟨⟨by omega, by omega, by rw [hg3, hp2], by omega⟩, hP3⟩
      (dsimp only; omega)
     obtain ⟨p3, hp3, hl3, hg3, hw3, hP3⟩ : ∃ p3, p3 = p2 ∧ p3.length = p2.length ∧ p3.getD k pz = p2.getD k pz ∧ pws (p3.drop (k + 1)) ≤ pws (p2.drop (k + 1)) + (pw (ps.getD k pz).t - 1) / 3 ∧ PthOk H.next 2 ((n : Int) - 1) HL3 p3 := ⟨_, rfl, rfl, rfl, by omega, hP⟩
     refine .skip ?_
     refine hK16 _ _ (.region (.mv rfl ?_))
     refine .q rfl (.add rfl rfl rfl (by omega) (by omega)) ?_
     refine .mv rfl (.nil ?_)
     refine hKL3 ((e + 1, p3, _, _)) _ _ ?_ ?_ ⟨rfl, rfl, rfl, rfl, rfl, rfl, rfl, rfl, trivial⟩
     ·
      refine ⟨lst3, by (rw [hp3]; assumption), by assumption, by omega, ?_⟩
      have e1 := sm e ((pw (ps.getD k pz).t - 1) / 3)
      exact ⟨⟨by omega, by omega, by rw [hg3, hp2], by omega⟩, hP3⟩
     (dsimp only; omega)
    try simp only [sps] at h41
    refine .exit ?_
    refine hK12 _ _ (.region (.mv rfl ?_))
    refine .q rfl (.add rfl rfl rfl (by omega) (by omega)) ?_
    refine .mv rfl (.nil ?_)
    refine hKL2 ((k + 1, p2, _, _)) _ _ ?_ ?_ ⟨rfl, rfl, rfl, rfl, trivial⟩
    ·
     refine ⟨lst2, by assumption, by exact pl_L7v3.trans pl_L7v2 (by omega), by omega, ?_⟩
     have hB := Nat.mul_le_mul_right ((pw (ps.getD k pz).t - 1) / 3) (show e ≤ 3 by omega)
     exact ⟨⟨by omega, by omega⟩, hP⟩
    (dsimp only; omega)
   try simp only [sps] at h35
   refine .exit ?_
   refine hK8 _ _ (.seq (fun K18 hK18 => .seq (fun K19 hK19 => .region ?_)))
   obtain rfl := ln_L7v2
   refine .mv rfl (.nil (hK19 _ _ ?_))
   refine .block ?_
   refine .loopR (σ := Nat × List Pth) [(7, some _)] (fun (i, q4) => [(11, some (.int .i64 (i : Int)))]) (fun (i, q4) H' => St [gL7v2] HL2 H' ∧ H'.get gL7v2 = some (.row (pcells q4) 118 true) ∧ (i ≤ 44 ∧ q4.length = ps.length) ∧ PthOk H.next 2 ((n : Int) - 1) H' q4) (fun (i, q4) => 60 - i) ((1, ps)) ⟨rfl, trivial⟩ ⟨rfl, trivial⟩ ?_ ?_
   ·
    refine ⟨.refl _ _, by assumption, ?_⟩
    exact ⟨⟨by omega, by omega⟩, hP⟩
   rintro ⟨i, q4⟩ HL4 ⟨lst4, at_L7, hI⟩ KL4 hKL4
   refine .forget (fr' := [(11, some (.int .i64 (i : Int))), (7, some _)]) ⟨rfl, rfl, trivial⟩ ?_
   replace hle := hle.st lst4 (fun k hk => ⟨by omega, trivial⟩)
   obtain ⟨⟨hi4, hpl⟩, hP⟩ := hI
   refine .seq (fun K20 hK20 => .seq (fun K21 hK21 => .region (.mv rfl (.mv rfl (.q rfl (.len sl_115_Di rfl) (.q rfl (.cmp rfl rfl rfl) (.nil (hK21 _ _ ?_))))))))
   refine .cond rfl (fun h79 => ?_) (fun h79 => ?_)
   ·
    simp only [sps] at h79
    refine .skip ?_
    refine hK20 _ _ (.seq (fun K22 hK22 => ?_))
    refine .block ?_
    refine .seq (fun K23 hK23 => .region (.mv rfl (.mv rfl (.nil (hK23 _ _ ?_)))))
    refine .block ?_
    refine .loopR (σ := Nat × List Pth) [(7, some _), (11, some _)] (fun (z, qs) => [(12, some (.int .i64 (z : Int)))]) (fun (z, qs) H' => St [gL7v2] HL4 H' ∧ H'.get gL7v2 = some (.row (pcells qs) 118 true) ∧ (z < qs.length ∧ qs.length = ps.length) ∧ PthOk H.next 2 ((n : Int) - 1) H' qs) (fun (z, qs) => z) ((i, q4)) ⟨rfl, rfl, trivial⟩ ⟨rfl, trivial⟩ ?_ ?_
    ·
     refine ⟨.refl _ _, by assumption, ?_⟩
     exact ⟨⟨by omega, by omega⟩, hP⟩
    rintro ⟨z, qs⟩ HL5 ⟨lst5, at_L7, hI⟩ KL5 hKL5
    refine .forget (fr' := [(12, some (.int .i64 (z : Int))), (7, some _), (11, some _)]) ⟨rfl, rfl, rfl, trivial⟩ ?_
    replace lst4 := lst4.sQ lst5
    have rk := St.refl [gL7v2] HL5
    obtain ⟨⟨hz, hql⟩, hP⟩ := hI
    have hat7 := at_L7
    refine .seq (fun K24 hK24 => .seq (fun K25 hK25 => ?_))
    refine .regionD mo_B (.q 0 (.q 1 (.q 2 (.q 3 (.q 4 (.q 5 (.q 6 (.q 7 (.q 8 (.q 9 (.q 10 (.q 11 (.c 12 0 (.q 13 (.done))))))))))))))) (by kernel_rfl) ?_
    refine .mv rfl rfl (.q rfl (.cmp rfl rfl rfl) (.mv rfl rfl ?_))
    refine .split (fun h85 => ?_) (fun h85 => ?_)
    ·
     simp only [sps] at h85
     obtain ⟨w, rfl⟩ : ∃ w, z = w + 1 := ⟨z - 1, by omega⟩
     have sA := pcells_slA at_L7
     rw [hql] at sA
     have mz := pcells_mem at_L7 (i := w + 1) (by omega)
     have mw := pcells_mem at_L7 (i := w) (by omega)
     have pz1 := hP.at (i := w + 1) (by omega)
     have pz2 := hP.at (i := w) (by omega)
     refine .qg rfl (.move rfl) (.qg rfl (.move rfl) ?_)
     refine .qg rfl (.idx sl_115_Di (by assumption) (by omega) rfl rfl (by omega) (by omega) rfl) ?_
     refine .qg rfl (.loadM ag_118_Di rfl (by assumption)) ?_
     refine .qg rfl (.move rfl) (.qg rfl (.move rfl) ?_)
     refine .qg rfl (.sub (r := (w : Int)) rfl rfl (by omega) (by omega) (by omega)) ?_
     refine .qg rfl (.idx sl_115_Di (by assumption) (by omega) rfl rfl (by omega) (by omega) rfl) ?_
     refine .qg rfl (.loadM ag_118_Di rfl (by assumption)) ?_
     refine .call0g rfl rfl rfl rfl rfl rfl rfl @Try.call128 rfl (l03Before_c (Ints.of_get pz1.2.2.2.2) (Ints.of_get pz2.2.2.2.2) (by omega)) ?_
     rintro _ H95 ⟨le95, q95, rfl⟩
     replace lst4 := lst4.le le95
     replace lst5 := lst5.le le95
     replace rk := rk.le le95
     replace at_L7 := le95.2 _ _ at_L7
     refine .q rfl (.pickT rfl rfl) ?_
     refine .done ?_
     refine hK25 _ _ ?_
     refine .cond rfl (fun h96 => ?_) (fun h96 => ?_)
     ·
      try simp only [sps] at h96
      refine .skip ?_
      refine hK24 _ _ (.seq (fun K26 hK26 => ?_))
      refine .block ?_
      refine .seq (fun K27 hK27 => .region ?_)
      have mz := pcells_mem at_L7 (i := w + 1) (by omega)
      have sA := pcells_slA at_L7
      rw [hql] at sA
      refine .mv rfl (.mv rfl ?_)
      refine .q rfl (.idx sl_115_Di (by assumption) (by omega) rfl rfl (by omega) (by omega) rfl) ?_
      refine .q rfl (.loadM ag_118_Di rfl (by assumption)) ?_
      refine .R rfl (.allocR rfl ze_118_Di rfl) ?_
      rintro _ H13 ⟨g13, rfl, le13, ge13, at13⟩
      replace lst5 := lst5.le le13
      replace rk := rk.le le13
      replace at_L7 := le13.2 _ _ at_L7
      refine .r0 rfl rfl (.fillA rfl sz_118_Dg rfl rfl rfl rfl) ?_
      rintro _ H20005 ⟨rfl, st20005, at20005⟩
      replace lst5 := lst5.sA st20005
      replace rk := rk.sA st20005
      have ne_gL7v2_g13 : NE gL7v2 g13 := .a
      replace at_L7 := st20005.s at_L7 ne_gL7v2_g13.ne
      refine .nil (hK27 _ _ (.seq (fun K28 hK28 => .region ?_)))
      have mw := pcells_mem at_L7 (i := w) (by omega)
      have sA := pcells_slA at_L7
      rw [hql] at sA
      refine .mv rfl (.mv rfl (.mv rfl (.mv rfl ?_)))
      refine .q rfl (.sub (r := (w : Int)) rfl rfl (by omega) (by omega) (by omega)) ?_
      refine .q rfl (.idx sl_115_Di (by assumption) (by omega) rfl rfl (by omega) (by omega) rfl) ?_
      refine .q rfl (.loadM ag_118_Di rfl (by assumption)) ?_
      refine .q rfl (.idx sl_115_Di (by assumption) (by omega) rfl rfl (by omega) (by omega) rfl) ?_
      refine .r0 rfl rfl (.storeNR rfl sz_118_Dg rfl rfl rfl rfl (by assumption) (by rw [pcells_len]; simp; omega)) ?_
      rintro _ H21008 ⟨rfl, st21008, at21008⟩
      replace lst5 := lst5.sQ st21008
      replace rk := rk.sQ st21008
      replace at20005 := st21008.s at20005 (Ne.symm ne_gL7v2_g13.ne)
      obtain ⟨q5, hq5, hl5, hP5⟩ : ∃ q5, q5 = qs.set (w + 1) (qs.getD w pz) ∧ q5.length = qs.length ∧ PthOk H.next 2 ((n : Int) - 1) H21008 q5 := ⟨_, rfl, by simp, (hP.keep (rk.lasts1 hat7 rfl)).set (by omega)⟩
      replace at21008 : GHeap.get H21008 gL7v2 = some (.row (pcells q5) 118 true) := by
        have hx := at21008
        simp only [Int.toNat_natCast, Nat.zero_add] at hx
        rw [hq5, ← pcells_set _ (by omega)]
        exact hx
      have sA := pcells_slA at21008
      rw [hl5, hql] at sA
      refine .nil (hK28 _ _ (.region (.mv rfl (.mv rfl ?_))))
      refine .q rfl (.sub (r := (w : Int)) rfl rfl (by omega) (by omega) (by omega)) ?_
      refine .q rfl (.loadM ag_118_Di rfl ⟨rfl, Mem.of_get at20005⟩) ?_
      refine .q rfl (.idx sl_115_Di (by assumption) (by omega) rfl rfl (by omega) (by omega) rfl) ?_
      refine .r0 rfl rfl (.storeNR rfl sz_118_Dg rfl rfl rfl rfl (by assumption) (by rw [pcells_len]; simp; omega)) ?_
      rintro _ H22005 ⟨rfl, st22005, at22005⟩
      replace lst5 := lst5.sQ st22005
      replace rk := rk.sQ st22005
      obtain ⟨q6, hq6, hl6, hP6⟩ : ∃ q6, q6 = q5.set w (qs.getD (w + 1) pz) ∧ q6.length = qs.length ∧ PthOk H.next 2 ((n : Int) - 1) H22005 q6 := ⟨_, rfl, by simp; omega, fun p hp => by
        rcases List.mem_or_eq_of_mem_set hp with h | rfl
        · have h9 := (hP.keep (rk.lasts1 hat7 rfl)).set (i := w + 1) (j := w) (by omega) p (by rw [← hq5]; exact h)
          rw [List.length_set] at h9 ⊢
          rw [hl5]
          exact h9
        · have h9 := (hP.keep (rk.lasts1 hat7 rfl)).at (i := w + 1) (by omega)
          rw [List.length_set, hl5]
          exact h9⟩
      replace at22005 : GHeap.get H22005 gL7v2 = some (.row (pcells q6) 118 true) := by
        have hx := at22005
        simp only [Int.toNat_natCast, Nat.zero_add] at hx
        rw [hq6, ← pcells_set _ (by omega)]
        exact hx
      refine .nil (hK26 _ _ (.region (.mv rfl ?_)))
      refine .q rfl (.sub (r := (w : Int)) rfl rfl (by omega) (by omega) (by omega)) ?_
      refine .mv rfl (.nil ?_)
      refine hKL5 ((w, q6)) _ _ ?_ ?_ ⟨rfl, rfl, rfl, trivial⟩
      ·
       refine ⟨lst5, by assumption, ?_⟩
       exact ⟨⟨by omega, by omega⟩, hP6⟩
      (dsimp only; omega)
     try simp only [sps] at h96
     refine .exit ?_
     refine hK22 _ _ (.region (.mv rfl ?_))
     refine .q rfl (.add rfl rfl rfl (by omega) (by omega)) ?_
     refine .mv rfl (.nil ?_)
     refine hKL4 ((i + 1, qs)) _ _ ?_ ?_ ⟨rfl, rfl, trivial⟩
     ·
      refine ⟨lst4, by assumption, ?_⟩
      exact ⟨⟨by omega, by omega⟩, by first | exact hP | exact hP.keep (.of_le (by assumption))⟩
     (dsimp only; omega)
    try simp only [sps] at h85
    refine .z rfl (.z rfl (.z rfl (.z rfl (.z rfl (.z rfl (.z rfl (.z rfl (.z rfl (.sgc rfl rfl rfl rfl rfl rfl (.q rfl (.pickF rfl rfl) ?_))))))))))
    refine .done ?_
    refine hK25 _ _ ?_
    refine .condF rfl ?_
    refine .exit ?_
    refine hK22 _ _ (.region (.mv rfl ?_))
    refine .q rfl (.add rfl rfl rfl (by omega) (by omega)) ?_
    refine .mv rfl (.nil ?_)
    refine hKL4 ((i + 1, qs)) _ _ ?_ ?_ ⟨rfl, rfl, trivial⟩
    ·
     refine ⟨lst4, by assumption, ?_⟩
     exact ⟨⟨by omega, by omega⟩, by first | exact hP | exact hP.keep (.of_le (by assumption))⟩
    (dsimp only; omega)
   try simp only [sps] at h79
   refine .exit ?_
   refine hK18 _ _ (.seq (fun K29 hK29 => .region (.mv rfl (.mv rfl (.nil (hK29 _ _ ?_))))))
   refine .ret ?_
   refine hret _ _ ?_
   refine ⟨_, rfl, ?_⟩
   exact ⟨hle, gL7v2, q4, by rw [‹q4.length = _›], by omega, by assumption, hP, by omega⟩
  try simp only [sps] at h31
  refine .z rfl (.z rfl (.z rfl (.q rfl (.pickF rfl rfl) (.nil (hK11 _ _ ?_)))))
  refine .condF rfl ?_
  refine .exit ?_
  refine hK8 _ _ (.seq (fun K30 hK30 => .seq (fun K31 hK31 => .region ?_)))
  obtain rfl := ln_L7v2
  refine .mv rfl (.nil (hK31 _ _ ?_))
  refine .block ?_
  refine .loopR (σ := Nat × List Pth) [(7, some _)] (fun (i, q4) => [(11, some (.int .i64 (i : Int)))]) (fun (i, q4) H' => St [gL7v2] HL2 H' ∧ H'.get gL7v2 = some (.row (pcells q4) 118 true) ∧ (i ≤ 44 ∧ q4.length = ps.length) ∧ PthOk H.next 2 ((n : Int) - 1) H' q4) (fun (i, q4) => 60 - i) ((1, ps)) ⟨rfl, trivial⟩ ⟨rfl, trivial⟩ ?_ ?_
  ·
   refine ⟨.refl _ _, by assumption, ?_⟩
   exact ⟨⟨by omega, by omega⟩, hP⟩
  rintro ⟨i, q4⟩ HL4 ⟨lst4, at_L7, hI⟩ KL4 hKL4
  refine .forget (fr' := [(11, some (.int .i64 (i : Int))), (7, some _)]) ⟨rfl, rfl, trivial⟩ ?_
  replace hle := hle.st lst4 (fun k hk => ⟨by omega, trivial⟩)
  obtain ⟨⟨hi4, hpl⟩, hP⟩ := hI
  refine .seq (fun K32 hK32 => .seq (fun K33 hK33 => .region (.mv rfl (.mv rfl (.q rfl (.len sl_115_Di rfl) (.q rfl (.cmp rfl rfl rfl) (.nil (hK33 _ _ ?_))))))))
  refine .cond rfl (fun h79 => ?_) (fun h79 => ?_)
  ·
   simp only [sps] at h79
   refine .skip ?_
   refine hK32 _ _ (.seq (fun K34 hK34 => ?_))
   refine .block ?_
   refine .seq (fun K35 hK35 => .region (.mv rfl (.mv rfl (.nil (hK35 _ _ ?_)))))
   refine .block ?_
   refine .loopR (σ := Nat × List Pth) [(7, some _), (11, some _)] (fun (z, qs) => [(12, some (.int .i64 (z : Int)))]) (fun (z, qs) H' => St [gL7v2] HL4 H' ∧ H'.get gL7v2 = some (.row (pcells qs) 118 true) ∧ (z < qs.length ∧ qs.length = ps.length) ∧ PthOk H.next 2 ((n : Int) - 1) H' qs) (fun (z, qs) => z) ((i, q4)) ⟨rfl, rfl, trivial⟩ ⟨rfl, trivial⟩ ?_ ?_
   ·
    refine ⟨.refl _ _, by assumption, ?_⟩
    exact ⟨⟨by omega, by omega⟩, hP⟩
   rintro ⟨z, qs⟩ HL5 ⟨lst5, at_L7, hI⟩ KL5 hKL5
   refine .forget (fr' := [(12, some (.int .i64 (z : Int))), (7, some _), (11, some _)]) ⟨rfl, rfl, rfl, trivial⟩ ?_
   have nx_HL5 := lst5.nx
   replace lst4 := lst4.sQ lst5
   have lt_at_L7 := GHeap.ltg at_L7
   have rk := St.refl [gL7v2] HL5
   obtain ⟨⟨hz, hql⟩, hP⟩ := hI
   have hat7 := at_L7
   refine .seq (fun K36 hK36 => .seq (fun K37 hK37 => ?_))
   refine .regionD mo_B (.q 0 (.q 1 (.q 2 (.q 3 (.q 4 (.q 5 (.q 6 (.q 7 (.q 8 (.q 9 (.q 10 (.q 11 (.c 12 0 (.q 13 (.done))))))))))))))) (by kernel_rfl) ?_
   refine .mv rfl rfl (.q rfl (.cmp rfl rfl rfl) (.mv rfl rfl ?_))
   refine .split (fun h85 => ?_) (fun h85 => ?_)
   ·
    simp only [sps] at h85
    obtain ⟨w, rfl⟩ : ∃ w, z = w + 1 := ⟨z - 1, by omega⟩
    have sA := pcells_slA at_L7
    rw [hql] at sA
    have mz := pcells_mem at_L7 (i := w + 1) (by omega)
    have mw := pcells_mem at_L7 (i := w) (by omega)
    have pz1 := hP.at (i := w + 1) (by omega)
    have pz2 := hP.at (i := w) (by omega)
    refine .qg rfl (.move rfl) (.qg rfl (.move rfl) ?_)
    refine .qg rfl (.idx sl_115_Di (by assumption) (by omega) rfl rfl (by omega) (by omega) rfl) ?_
    refine .qg rfl (.loadM ag_118_Di rfl (by assumption)) ?_
    refine .qg rfl (.move rfl) (.qg rfl (.move rfl) ?_)
    refine .qg rfl (.sub (r := (w : Int)) rfl rfl (by omega) (by omega) (by omega)) ?_
    refine .qg rfl (.idx sl_115_Di (by assumption) (by omega) rfl rfl (by omega) (by omega) rfl) ?_
    refine .qg rfl (.loadM ag_118_Di rfl (by assumption)) ?_
    refine .call0g rfl rfl rfl rfl rfl rfl rfl @Try.call128 rfl (l03Before_c (Ints.of_get pz1.2.2.2.2) (Ints.of_get pz2.2.2.2.2) (by omega)) ?_
    rintro _ H95x2 ⟨le95x2, q95x2, rfl⟩
    have nx_H95x2 := le95x2.1
    replace lst4 := lst4.le le95x2
    replace lst5 := lst5.le le95x2
    replace rk := rk.le le95x2
    replace at_L7 := le95x2.2 _ _ at_L7
    refine .q rfl (.pickT rfl rfl) ?_
    refine .done ?_
    refine hK37 _ _ ?_
    refine .cond rfl (fun h96 => ?_) (fun h96 => ?_)
    ·
     try simp only [sps] at h96
     refine .skip ?_
     refine hK36 _ _ (.seq (fun K38 hK38 => ?_))
     refine .block ?_
     refine .seq (fun K39 hK39 => .region ?_)
     have mz := pcells_mem at_L7 (i := w + 1) (by omega)
     have sA := pcells_slA at_L7
     rw [hql] at sA
     refine .mv rfl (.mv rfl ?_)
     refine .q rfl (.idx sl_115_Di (by assumption) (by omega) rfl rfl (by omega) (by omega) rfl) ?_
     refine .q rfl (.loadM ag_118_Di rfl (by assumption)) ?_
     refine .R rfl (.allocR rfl ze_118_Di rfl) ?_
     rintro _ H13x2 ⟨g13x2, rfl, le13x2, ge13x2, at13x2⟩
     replace lst5 := lst5.le le13x2
     replace rk := rk.le le13x2
     replace at_L7 := le13x2.2 _ _ at_L7
     refine .r0 rfl rfl (.fillA rfl sz_118_Dg rfl rfl rfl rfl) ?_
     rintro _ H20005x2 ⟨rfl, st20005x2, at20005x2⟩
     replace lst5 := lst5.sA st20005x2
     replace rk := rk.sA st20005x2
     have ne_gL7v2_g13x2 : NE gL7v2 g13x2 := .a
     replace at_L7 := st20005x2.s at_L7 ne_gL7v2_g13x2.ne
     refine .nil (hK39 _ _ (.seq (fun K40 hK40 => .region ?_)))
     have mw := pcells_mem at_L7 (i := w) (by omega)
     have sA := pcells_slA at_L7
     rw [hql] at sA
     refine .mv rfl (.mv rfl (.mv rfl (.mv rfl ?_)))
     refine .q rfl (.sub (r := (w : Int)) rfl rfl (by omega) (by omega) (by omega)) ?_
     refine .q rfl (.idx sl_115_Di (by assumption) (by omega) rfl rfl (by omega) (by omega) rfl) ?_
     refine .q rfl (.loadM ag_118_Di rfl (by assumption)) ?_
     refine .q rfl (.idx sl_115_Di (by assumption) (by omega) rfl rfl (by omega) (by omega) rfl) ?_
     refine .r0 rfl rfl (.storeNR rfl sz_118_Dg rfl rfl rfl rfl (by assumption) (by rw [pcells_len]; simp; omega)) ?_
     rintro _ H21008x2 ⟨rfl, st21008x2, at21008x2⟩
     replace lst5 := lst5.sQ st21008x2
     replace rk := rk.sQ st21008x2
     replace at20005x2 := st21008x2.s at20005x2 (Ne.symm ne_gL7v2_g13x2.ne)
     obtain ⟨q5, hq5, hl5, hP5⟩ : ∃ q5, q5 = qs.set (w + 1) (qs.getD w pz) ∧ q5.length = qs.length ∧ PthOk H.next 2 ((n : Int) - 1) H21008x2 q5 := ⟨_, rfl, by simp, (hP.keep (rk.lasts1 hat7 rfl)).set (by omega)⟩
     replace at21008x2 : GHeap.get H21008x2 gL7v2 = some (.row (pcells q5) 118 true) := by
       have hx := at21008x2
       simp only [Int.toNat_natCast, Nat.zero_add] at hx
       rw [hq5, ← pcells_set _ (by omega)]
       exact hx
     have sA := pcells_slA at21008x2
     rw [hl5, hql] at sA
     refine .nil (hK40 _ _ (.region (.mv rfl (.mv rfl ?_))))
     refine .q rfl (.sub (r := (w : Int)) rfl rfl (by omega) (by omega) (by omega)) ?_
     refine .q rfl (.loadM ag_118_Di rfl ⟨rfl, Mem.of_get at20005x2⟩) ?_
     refine .q rfl (.idx sl_115_Di (by assumption) (by omega) rfl rfl (by omega) (by omega) rfl) ?_
     refine .r0 rfl rfl (.storeNR rfl sz_118_Dg rfl rfl rfl rfl (by assumption) (by rw [pcells_len]; simp; omega)) ?_
     rintro _ H22005x2 ⟨rfl, st22005x2, at22005x2⟩
     replace lst5 := lst5.sQ st22005x2
     replace rk := rk.sQ st22005x2
     obtain ⟨q6, hq6, hl6, hP6⟩ : ∃ q6, q6 = q5.set w (qs.getD (w + 1) pz) ∧ q6.length = qs.length ∧ PthOk H.next 2 ((n : Int) - 1) H22005x2 q6 := ⟨_, rfl, by simp; omega, fun p hp => by
       rcases List.mem_or_eq_of_mem_set hp with h | rfl
       · have h9 := (hP.keep (rk.lasts1 hat7 rfl)).set (i := w + 1) (j := w) (by omega) p (by rw [← hq5]; exact h)
         rw [List.length_set] at h9 ⊢
         rw [hl5]
         exact h9
       · have h9 := (hP.keep (rk.lasts1 hat7 rfl)).at (i := w + 1) (by omega)
         rw [List.length_set, hl5]
         exact h9⟩
     replace at22005x2 : GHeap.get H22005x2 gL7v2 = some (.row (pcells q6) 118 true) := by
       have hx := at22005x2
       simp only [Int.toNat_natCast, Nat.zero_add] at hx
       rw [hq6, ← pcells_set _ (by omega)]
       exact hx
     refine .nil (hK38 _ _ (.region (.mv rfl ?_)))
     refine .q rfl (.sub (r := (w : Int)) rfl rfl (by omega) (by omega) (by omega)) ?_
     refine .mv rfl (.nil ?_)
     refine hKL5 ((w, q6)) _ _ ?_ ?_ ⟨rfl, rfl, rfl, trivial⟩
     ·
      refine ⟨lst5, by assumption, ?_⟩
      exact ⟨⟨by omega, by omega⟩, hP6⟩
     (dsimp only; omega)
    try simp only [sps] at h96
    refine .exit ?_
    refine hK34 _ _ (.region (.mv rfl ?_))
    refine .q rfl (.add rfl rfl rfl (by omega) (by omega)) ?_
    refine .mv rfl (.nil ?_)
    refine hKL4 ((i + 1, qs)) _ _ ?_ ?_ ⟨rfl, rfl, trivial⟩
    ·
     refine ⟨lst4, by assumption, ?_⟩
     exact ⟨⟨by omega, by omega⟩, by first | exact hP | exact hP.keep (.of_le (by assumption))⟩
    (dsimp only; omega)
   try simp only [sps] at h85
   refine .z rfl (.z rfl (.z rfl (.z rfl (.z rfl (.z rfl (.z rfl (.z rfl (.z rfl (.sgc rfl rfl rfl rfl rfl rfl (.q rfl (.pickF rfl rfl) ?_))))))))))
   refine .done ?_
   refine hK37 _ _ ?_
   refine .condF rfl ?_
   refine .exit ?_
   refine hK34 _ _ (.region (.mv rfl ?_))
   refine .q rfl (.add rfl rfl rfl (by omega) (by omega)) ?_
   refine .mv rfl (.nil ?_)
   refine hKL4 ((i + 1, qs)) _ _ ?_ ?_ ⟨rfl, rfl, trivial⟩
   ·
    refine ⟨lst4, by assumption, ?_⟩
    exact ⟨⟨by omega, by omega⟩, by first | exact hP | exact hP.keep (.of_le (by assumption))⟩
   (dsimp only; omega)
  try simp only [sps] at h79
  refine .exit ?_
  refine hK30 _ _ (.seq (fun K41 hK41 => .region (.mv rfl (.mv rfl (.nil (hK41 _ _ ?_))))))
  refine .ret ?_
  refine hret _ _ ?_
  refine ⟨_, rfl, ?_⟩
  exact ⟨hle, gL7v2, q4, by rw [‹q4.length = _›], by omega, by assumption, hP, by omega⟩
end Go.Proofs.Ytolfggcanbpknaa
namespace Go.Proofs.Ytolfggcanbpknaa
open Go Go.GL Go.RowKit Go.Proofs
set_option maxHeartbeats 8000000 in
theorem l03Paths_c {a b : Option Addr} {xs ys : List Int} {n : Nat} {H : GHeap} (ha : Ints H a xs := by assumption) (hb : Ints H b ys := by assumption) (hl : ys.length = xs.length) (hx : xs.length ≤ 3) (hn : n ≤ 3) (hy : Bd 0 ((n : Int) - 1) ys) (hup : ∀ e, e < xs.length → xs.getD e 0 < ys.getD e 0) :
    GCalls Try.prog 120 [.int .i64 (n : Int), .slice a xs.length xs.length, .slice b ys.length ys.length] H (NewRc 2 24 18 H) := by
  refine GCalls.body (N := 147) (rs := [.cell 6 27]) Try.func120 rfl rfl rfl rfl (fun Qx hret hend => ?_)
  refine .fg [0, 1, 2] rfl ?_
  have hle := GHeap.Le.refl H
  have base_ha := ha
  have base_hb := hb
  refine .seq (fun K1 hK1 => .region ?_)
  refine .R rfl (.allocR rfl ze_27_Hj rfl) ?_
  rintro _ H6 ⟨g6, rfl, le6, ge6, at6⟩
  replace hle := hle.trans le6
  have lt_at6 := GHeap.ltg at6
  replace ha := base_ha.mono hle
  replace hb := base_hb.mono hle
  refine .nil (hK1 _ _ (.seq (fun K2 hK2 => .region (.mv rfl (.mv rfl (.mv rfl ?_))))))
  refine .call rfl rfl rfl rfl @Try.call126 rfl (l03All_c ha hb hl hx hn hy hup) ?_
  rintro _ H19 ⟨le19, gP, ps, rfl, bP, aP, hP0, hp18⟩
  have hK : PthK _ _ _ H19 ps := ⟨hP0⟩
  replace hle := hle.trans le19
  replace at6 := le19.2 _ _ at6
  have lt_aP := GHeap.ltg aP
  have bs_hK := hK
  have lv_hK : Keep H6.next H19 H19 := fun _ _ _ h => h
  refine .mv rfl (.nil (hK2 _ _ (.seq (fun K3 hK3 => .region (.mv rfl ?_)))))
  refine .R rfl (.litA rfl sl_24_A ze_2_L rfl rfl rfl rfl) ?_
  rintro _ H21 ⟨g21, rfl, le21, ge21, at21⟩
  replace hle := hle.trans le21
  replace at6 := le21.2 _ _ at6
  replace aP := le21.2 _ _ aP
  replace lv_hK := Keep.le lv_hK le21
  have lt_at21 := GHeap.ltg at21
  replace at21 : GHeap.get H21 g21 = some (.row (ints []) 2 true) := at21
  refine .R rfl (.litA rfl sl_24_A ze_2_L rfl rfl rfl rfl) ?_
  rintro _ H22 ⟨g22, rfl, le22, ge22, at22⟩
  replace hle := hle.trans le22
  replace at6 := le22.2 _ _ at6
  replace aP := le22.2 _ _ aP
  replace at21 := le22.2 _ _ at21
  replace lv_hK := Keep.le lv_hK le22
  have lt_at22 := GHeap.ltg at22
  replace at22 : GHeap.get H22 g22 = some (.row (ints []) 2 true) := at22
  refine .mv rfl ?_
  refine .R rfl (.makeI rfl sl_24_A ze_2_L by_2_L rfl rfl (by omega) (by omega) (by omega) (by omega)) ?_
  rintro _ H24 ⟨g24, rfl, le24, ge24, at24⟩
  have nx_H24 := le24.1
  replace hle := hle.trans le24
  replace at6 := le24.2 _ _ at6
  replace aP := le24.2 _ _ aP
  replace at21 := le24.2 _ _ at21
  replace at22 := le24.2 _ _ at22
  replace lv_hK := Keep.le lv_hK le24
  have lt_at24 := GHeap.ltg at24
  simp only [Int.toNat_natCast] at at24
  refine .R rfl (.litA rfl sl_25_B ze_24_Hj rfl rfl rfl rfl) ?_
  rintro _ H25 ⟨g25, rfl, le25, ge25, at25⟩
  replace hle := hle.trans le25
  replace at6 := le25.2 _ _ at6
  replace aP := le25.2 _ _ aP
  replace at21 := le25.2 _ _ at21
  replace at22 := le25.2 _ _ at22
  replace at24 := le25.2 _ _ at24
  replace lv_hK := Keep.le lv_hK le25
  have lt_at25 := GHeap.ltg at25
  refine .q rfl (.build bt_27_Hj rfl rfl rfl) ?_
  refine .R rfl (.allocR rfl ze_27_Hj rfl) ?_
  rintro _ H8 ⟨g8, rfl, le8, ge8, at8⟩
  have nx_H8 := le8.1
  replace hle := hle.trans le8
  replace at6 := le8.2 _ _ at6
  replace aP := le8.2 _ _ aP
  replace at21 := le8.2 _ _ at21
  replace at22 := le8.2 _ _ at22
  replace at24 := le8.2 _ _ at24
  replace at25 := le8.2 _ _ at25
  replace lv_hK := Keep.le lv_hK le8
  refine .r0 rfl rfl (.fillA rfl sz_27_D rfl rfl rfl rfl) ?_
  rintro _ H2008 ⟨rfl, st2008, at2008⟩
  have nx_H2008 := st2008.nx
  replace hle := hle.st st2008 (fun k hk => ⟨by omega, trivial⟩)
  have ne_g6_g8 : NE g6 g8 := .a
  replace at6 := st2008.s at6 ne_g6_g8.ne
  have ne_gP_g8 : NE gP g8 := .a
  replace aP := st2008.s aP ne_gP_g8.ne
  replace at21 := st2008.s at21
  replace at22 := st2008.s at22
  replace at24 := st2008.s at24
  have ne_g25_g8 : NE g25 g8 := .a
  replace at25 := st2008.s at25 ne_g25_g8.ne
  replace lv_hK := Keep.st lv_hK st2008 (fun k hb hk => ⟨(by omega), trivial⟩)
  refine .nil (hK3 _ _ (.seq (fun K4 hK4 => .seq (fun K5 hK5 => .region (.mv rfl (.nil (hK5 _ _ ?_)))))))
  refine .block ?_
  refine .loopR (σ := Nat × List Int × List Int × List Int × Nat × Nat) [(6, some _), (7, some _), (8, some _)] (fun (i, ss, ts, is, gLF, gLT) => [(9, some (.int .i64 (i : Int)))]) (fun (i, ss, ts, is, gLF, gLT) H' => St [g21, g22, g24, g8] H2008 H' ∧ H'.get gLF = some (.row (ints ss) 2 true) ∧ PL gLF g21 H2008.next ∧ H'.get gLT = some (.row (ints ts) 2 true) ∧ PL gLT g22 H2008.next ∧ H'.get g24 = some (.row (ints is) 2 true) ∧ H'.get g8 = some (.row ([.int .i64 (n : Int), .slice (some ⟨gLF, 0, none⟩) i i, .slice (some ⟨gLT, 0, none⟩) i i, .slice (some ⟨g24, 0, none⟩) n n, .slice (some ⟨g25, 0, none⟩) 0 0]) 27 true) ∧ gLF ≠ gLT ∧ gLF ≠ g24 ∧ gLF ≠ g8 ∧ gLT ≠ g24 ∧ gLT ≠ g8 ∧ g24 ≠ g8 ∧ (i ≤ ps.length ∧ ss.length = i ∧ ts.length = i ∧ is.length = n) ∧ Bd 0 18 ss ∧ Bd 0 18 ts ∧ Bd 0 18 is) (fun (i, ss, ts, is, gLF, gLT) => ps.length - i) ((0, [], [], List.replicate n 0, g21, g22)) ⟨rfl, rfl, rfl, trivial⟩ ⟨rfl, trivial⟩ ?_ ?_
  ·
   refine ⟨.refl _ _, by assumption, ⟨.inl rfl⟩, by assumption, ⟨.inl rfl⟩, by assumption, by assumption, by omega, by omega, by omega, by omega, by omega, by omega, ?_⟩
   exact ⟨⟨by omega, rfl, rfl, by simp⟩, .nil _ _, .nil _ _, .rep _ (by omega) (by omega)⟩
  rintro ⟨i, ss, ts, is, gLF, gLT⟩ HL1 ⟨lst1, at_LF, pl_LF, at_LT, pl_LT, at_Lg24, at_Lg8, ap1_0, ap1_1, ap1_2, ap1_3, ap1_4, ap1_5, hI⟩ KL1 hKL1
  refine .forget (fr' := [(9, some (.int .i64 (i : Int))), (6, some _), (7, some _), (8, some _)]) ⟨rfl, rfl, rfl, rfl, trivial⟩ ?_
  have ge_LF : H.next ≤ gLF := pl_LF.ge (by omega) (by omega)
  have ge_LT : H.next ≤ gLT := pl_LT.ge (by omega) (by omega)
  have nx_HL1 := lst1.nx
  replace hle := hle.st lst1 (fun k hk => ⟨by omega, by omega, by omega, by omega, trivial⟩)
  have ne_g6_g21 : NE g6 g21 := .a
  have ne_g6_g22 : NE g6 g22 := .a
  have ne_g6_g24 : NE g6 g24 := .a
  replace at6 := lst1.same _ _ ⟨ne_g6_g21.ne, ne_g6_g22.ne, ne_g6_g24.ne, ne_g6_g8.ne, trivial⟩ at6
  have ne_gP_g21 : NE gP g21 := .a
  have ne_gP_g22 : NE gP g22 := .a
  replace aP := lst1.same _ _ ⟨ne_gP_g21.ne, ne_gP_g22.ne, (by first | assumption | omega), ne_gP_g8.ne, trivial⟩ aP
  have ne_g25_g21 : NE g25 g21 := .a
  have ne_g25_g22 : NE g25 g22 := .a
  have ne_g25_g24 : NE g25 g24 := .a
  replace at25 := lst1.same _ _ ⟨ne_g25_g21.ne, ne_g25_g22.ne, ne_g25_g24.ne, ne_g25_g8.ne, trivial⟩ at25
  replace lv_hK := Keep.st lv_hK lst1 (fun k hb hk => ⟨(by omega), (by omega), (by omega), (by omega), trivial⟩)
  replace hK := bs_hK.keep lv_hK (Nat.le_refl _)
  have lt_at_LF := GHeap.ltg at_LF
  have lt_at_LT := GHeap.ltg at_LT
  have lt_at_Lg24 := GHeap.ltg at_Lg24
  have lt_at_Lg8 := GHeap.ltg at_Lg8
  have hP := hK.ok
  obtain ⟨⟨hi, hsl, htl, hil⟩, hS, hT, hI⟩ := hI
  refine .seq (fun K6 hK6 => .seq (fun K7 hK7 => .region (.mv rfl (.mv rfl (.q rfl (.len sl_115_Di rfl) (.q rfl (.cmp rfl rfl rfl) (.nil (hK7 _ _ ?_))))))))
  refine .cond rfl (fun h30 => ?_) (fun h30 => ?_)
  ·
   simp only [sps] at h30
   have pk1 := (hP.at (i := i) (by omega)).1
   have pk2 := (hP.at (i := i) (by omega)).2.1
   refine .skip ?_
   refine hK6 _ _ (.seq (fun K8 hK8 => ?_))
   refine .block ?_
   refine .seq (fun K9 hK9 => ?_)
   refine .regionD mo_B (.q 0 (.q 1 (.q 2 (.q 3 (.q 4 (.q 5 (.q 6 (.c 7 1 (.c 8 0 (.q 9 (.c 10 0 (.done)))))))))))) (by kernel_rfl) ?_
   have sA := pcells_slA aP
   have mk := pcells_mem aP (i := i) (by omega)
   refine .q rfl (.fieldAddr fo_27_1_B rfl) ?_
   refine .q rfl (.load on_24_B rfl (by first | assumption | exact Mem.of_get at_Lg8 1 _ rfl)) ?_
   refine .mv rfl rfl (.mv rfl rfl ?_)
   refine .q rfl (.idx sl_115_Di (by assumption) (by omega) rfl rfl (by omega) (by omega) rfl) ?_
   refine .q rfl (.fieldAddr fo_118_0_Dg rfl) (.q rfl (.load on_2_A rfl (mk.2 0 _ rfl)) ?_)
   refine .c1 rfl rfl rfl rfl (.litA rfl sl_24_A ze_2_L rfl rfl rfl rfl) ?_
   rintro _ H40 ⟨g40, rfl, le40, ge40, at40⟩
   have hbl := le40
   refine ⟨hbl, ?_⟩
   replace lst1 := lst1.le le40
   replace aP := le40.2 _ _ aP
   replace at_LF := le40.2 _ _ at_LF
   replace at_LT := le40.2 _ _ at_LT
   replace at_Lg24 := le40.2 _ _ at_Lg24
   replace at_Lg8 := le40.2 _ _ at_Lg8
   have lt_at40 := GHeap.ltg at40
   clear hP
   refine .c0 rfl rfl rfl rfl (.appendI rfl sl_24_A ze_2_L rfl by_2_L sl_24_A rfl rfl (by assumption) (by assumption) (by first | omega | (simp <;> omega)) (by omega) (by omega)) ?_
   rintro _ H41 ⟨g41, rfl, st41, ge41, at41⟩
   replace lst1 := lst1.sP st41
   replace aP := st41.same _ _ ⟨(pl_LF.ne ne_gP_g21.ne (by omega)), trivial⟩ aP
   replace at_LT := st41.same _ _ ⟨(Ne.symm ap1_0), trivial⟩ at_LT
   replace at_Lg24 := st41.same _ _ ⟨(Ne.symm ap1_1), trivial⟩ at_Lg24
   replace at_Lg8 := st41.same _ _ ⟨(Ne.symm ap1_2), trivial⟩ at_Lg8
   have lt_at41 := GHeap.ltg at41
   refine .q rfl (.fieldAddr fo_27_1_B rfl) ?_
   refine .r0 rfl rfl rfl (.storeR rfl sz_24_Ch rfl rfl rfl (by assumption) (by first | exact Nat.le_of_ble_eq_true rfl | (simp; done) | (simp <;> omega))) ?_
   rintro _ H6010 ⟨rfl, st6010, at6010⟩
   have nx_H6010 := st6010.nx
   replace lst1 := lst1.sA st6010
   replace aP := st6010.s aP ne_gP_g8.ne
   replace at_LT := st6010.same _ _ ⟨ap1_4, trivial⟩ at_LT
   replace at_Lg24 := st6010.same _ _ ⟨ap1_5, trivial⟩ at_Lg24
   have ne_g41_g8 : NE g41 g8 := .a
   replace at41 := st6010.s at41 ne_g41_g8.ne
   try simp only [Nat.zero_add, List.set_cons_succ, List.set_cons_zero] at at6010
   refine .done ?_
   refine hK9 _ _ (.seq (fun K10 hK10 => ?_))
   refine .regionD mo_B (.q 0 (.q 1 (.q 2 (.q 3 (.q 4 (.q 5 (.q 6 (.c 7 1 (.c 8 0 (.q 9 (.c 10 0 (.done)))))))))))) (by kernel_rfl) ?_
   have sA := pcells_slA aP
   have mk := pcells_mem aP (i := i) (by omega)
   refine .q rfl (.fieldAddr fo_27_2_B rfl) ?_
   refine .q rfl (.load on_24_B rfl (by first | assumption | exact Mem.of_get at6010 2 _ rfl)) ?_
   refine .mv rfl rfl (.mv rfl rfl ?_)
   refine .q rfl (.idx sl_115_Di (by assumption) (by omega) rfl rfl (by omega) (by omega) rfl) ?_
   refine .q rfl (.fieldAddr fo_118_1_Dg rfl) (.q rfl (.load on_2_A rfl (mk.2 1 _ rfl)) ?_)
   refine .c1 rfl rfl rfl rfl (.litA rfl sl_24_A ze_2_L rfl rfl rfl rfl) ?_
   rintro _ H50 ⟨g50, rfl, le50, ge50, at50⟩
   have hbl := le50
   refine ⟨hbl, ?_⟩
   replace lst1 := lst1.le le50
   replace aP := le50.2 _ _ aP
   replace at_LT := le50.2 _ _ at_LT
   replace at_Lg24 := le50.2 _ _ at_Lg24
   replace at41 := le50.2 _ _ at41
   replace at6010 := le50.2 _ _ at6010
   have lt_at50 := GHeap.ltg at50
   refine .c0 rfl rfl rfl rfl (.appendI rfl sl_24_A ze_2_L rfl by_2_L sl_24_A rfl rfl (by assumption) (by assumption) (by first | omega | (simp <;> omega)) (by omega) (by omega)) ?_
   rintro _ H51 ⟨g51, rfl, st51, ge51, at51⟩
   replace lst1 := lst1.sP st51
   replace aP := st51.same _ _ ⟨(pl_LT.ne ne_gP_g22.ne (by omega)), trivial⟩ aP
   replace at_Lg24 := st51.same _ _ ⟨(Ne.symm ap1_3), trivial⟩ at_Lg24
   replace at41 := st51.s at41
   replace at6010 := st51.same _ _ ⟨(Ne.symm ap1_4), trivial⟩ at6010
   refine .q rfl (.fieldAddr fo_27_2_B rfl) ?_
   refine .r0 rfl rfl rfl (.storeR rfl sz_24_Ch rfl rfl rfl (by assumption) (by first | exact Nat.le_of_ble_eq_true rfl | (simp; done) | (simp <;> omega))) ?_
   rintro _ H7010 ⟨rfl, st7010, at7010⟩
   replace lst1 := lst1.sA st7010
   replace aP := st7010.s aP ne_gP_g8.ne
   replace at_Lg24 := st7010.same _ _ ⟨ap1_5, trivial⟩ at_Lg24
   replace at41 := st7010.s at41 ne_g41_g8.ne
   replace at51 := st7010.s at51
   try simp only [Nat.zero_add, List.set_cons_succ, List.set_cons_zero] at at7010
   refine .done ?_
   refine hK10 _ _ (.seq (fun K11 hK11 => .region ?_))
   have sA := pcells_slA aP
   have mk := pcells_mem aP (i := i) (by omega)
   refine .mv rfl (.mv rfl ?_)
   refine .q rfl (.idx sl_115_Di (by assumption) (by omega) rfl rfl (by omega) (by omega) rfl) ?_
   refine .q rfl (.fieldAddr fo_118_2_Dg rfl) (.q rfl (.load on_24_B rfl (mk.2 2 _ rfl)) (.q rfl (.len sl_24_A rfl) (.q rfl (.cmp rfl rfl rfl) (.nil (hK11 _ _ ?_)))))
   refine .cond rfl (fun h59 => ?_) (fun h59 => ?_)
   ·
    obtain ⟨i9, hi9, hl9, hB9⟩ : ∃ i9, i9 = is.set (ps.getD i pz).f.toNat (i : Int) ∧ i9.length = is.length ∧ Bd 0 18 i9 := ⟨_, rfl, by simp, bd_iff.2 fun x hx => by
      rcases List.mem_or_eq_of_mem_set hx with h | rfl
      · exact bd_iff.1 hI x h
      · omega⟩
    refine .regionD mo_B (.q 0 (.q 1 (.q 2 (.q 3 (.q 4 (.q 5 (.q 6 (.q 7 (.q 8 (.c 9 0 (.done))))))))))) (by kernel_rfl) ?_
    refine .q rfl (.fieldAddr fo_27_3_B rfl) ?_
    refine .q rfl (.load on_24_B rfl (by first | assumption | exact Mem.of_get at7010 3 _ rfl)) ?_
    refine .mv rfl rfl (.mv rfl rfl ?_)
    refine .q rfl (.idx sl_115_Di (by assumption) (by omega) rfl rfl (by omega) (by omega) rfl) ?_
    refine .q rfl (.fieldAddr fo_118_0_Dg rfl) (.q rfl (.load on_2_A rfl (mk.2 0 _ rfl)) (.mv rfl rfl ?_))
    refine .q rfl (.idx1 sl_24_A (by first | assumption | exact SlA.of_row at_Lg24 (by first | rfl | (simp; done) | (simp <;> omega))) rfl rfl (by omega) (by omega)) ?_
    refine .r0 rfl rfl rfl (.storeI rfl sz_2_Ch rfl rfl (by assumption) (by first | omega | (simp <;> omega))) ?_
    rintro _ H9009 ⟨rfl, st9009, at9009⟩
    replace lst1 := lst1.sA st9009
    replace at41 := st9009.s at41
    replace at51 := st9009.s at51
    replace at7010 := st9009.same _ _ ⟨(Ne.symm ap1_5), trivial⟩ at7010
    rw [Nat.zero_add] at at9009
    refine .done ?_
    refine hK8 _ _ (.region (.mv rfl ?_))
    refine .q rfl (.add rfl rfl rfl (by omega) (by omega)) ?_
    refine .mv rfl (.nil ?_)
    refine hKL1 ((i + 1, ss ++ [(ps.getD i pz).f], ts ++ [(ps.getD i pz).t], i9, g41, g51)) _ _ ?_ ?_ ⟨rfl, rfl, rfl, rfl, trivial⟩
    ·
     refine ⟨lst1, by assumption, by exact ⟨.inr (by omega)⟩, by assumption, by exact ⟨.inr (by omega)⟩, by (rw [hi9]; assumption), by assumption, by omega, by omega, by omega, by omega, by omega, by assumption, ?_⟩
     exact ⟨⟨by omega, by simp; omega, by simp; omega, by omega⟩, hS.snoc pk1.1 (by omega), hT.snoc pk2.1 (by omega), hB9⟩
    (dsimp only; omega)
   obtain ⟨i9, hi9, hl9, hB9⟩ : ∃ i9, i9 = is ∧ i9.length = is.length ∧ Bd 0 18 i9 := ⟨_, rfl, rfl, hI⟩
   refine .skip ?_
   refine hK8 _ _ (.region (.mv rfl ?_))
   refine .q rfl (.add rfl rfl rfl (by omega) (by omega)) ?_
   refine .mv rfl (.nil ?_)
   refine hKL1 ((i + 1, ss ++ [(ps.getD i pz).f], ts ++ [(ps.getD i pz).t], i9, g41, g51)) _ _ ?_ ?_ ⟨rfl, rfl, rfl, rfl, trivial⟩
   ·
    refine ⟨lst1, by assumption, by exact ⟨.inr (by omega)⟩, by assumption, by exact ⟨.inr (by omega)⟩, by (rw [hi9]; assumption), by assumption, by omega, by omega, by omega, by omega, by omega, by assumption, ?_⟩
    exact ⟨⟨by omega, by simp; omega, by simp; omega, by omega⟩, hS.snoc pk1.1 (by omega), hT.snoc pk2.1 (by omega), hB9⟩
   (dsimp only; omega)
  try simp only [sps] at h30
  refine .exit ?_
  refine hK4 _ _ (.seq (fun K12 hK12 => .seq (fun K13 hK13 => .region ?_)))
  have hx4 : gLF ≠ g24 := pl_LF.ne' (by omega) (by omega)
  have hx5 : gLT ≠ g24 := pl_LT.ne' (by omega) (by omega)
  have hin0 : (Cat.mk (n : Int) ss ts is []).In HL1 (ownP gLF gLT g24 g25 fun _ => none) := (OwnCat.catR (b := H.next) ⟨at_LF, at_LT, at_Lg24, at25, by omega, by omega, by omega, by omega, by omega, by omega, by omega, .nil _ _ _ _, fun _ h => by simp at h, fun _ h => by simp at h, fun _ h => by simp at h⟩).inn
  refine .q rfl (.loadM ag_27_D rfl ⟨rfl, Mem.of_get at_Lg8⟩) ?_
  refine .callQ rfl rfl rfl rfl @Try.call109 rfl ((by have hh := l02Fits_c (c := Cat.mk (n : Int) ss ts is []) (p := ownP gLF gLT g24 g25 fun _ => none) hin0; simp only [Cat.cells, ownP, hsl, htl, hil, List.length_nil] at hh; exact hh)) ?_
  refine .q rfl (.not rfl) (.nil (hK13 _ _ ?_))
  refine .cond rfl (fun h71 => ?_) (fun h71 => ?_)
  ·
   exact absurd h71 (by simp [B]; omega)
  try simp only [sps] at h71
  refine .skip ?_
  refine hK12 _ _ (.seq (fun K14 hK14 => .seq (fun K15 hK15 => .region ?_)))
  obtain rfl : i = ps.length := by omega
  refine .mv rfl (.nil (hK15 _ _ ?_))
  refine .block ?_
  refine .loopR (σ := Nat × (Nat → Option Addr) × List (List Int) × Nat) [(6, some _), (7, some _), (8, some _)] (fun (f, rr, cs, gLC) => [(10, some (.int .i64 (f : Int)))]) (fun (f, rr, cs, gLC) H' => St [g25, g8] HL1 H' ∧ H'.get gLC = some (.row ((slsL rr cs)) 24 true) ∧ PL gLC g25 HL1.next ∧ H'.get g8 = some (.row ([.int .i64 (n : Int), .slice (some ⟨gLF, 0, none⟩) ps.length ps.length, .slice (some ⟨gLT, 0, none⟩) ps.length ps.length, .slice (some ⟨g24, 0, none⟩) n n, .slice (some ⟨gLC, 0, none⟩) f f]) 27 true) ∧ gLC ≠ g8 ∧ (f ≤ ps.length ∧ cs.length = f) ∧ Tb (-1) 18 ps.length cs ∧ OwnL H.next H' 2 rr cs ∧ (∀ j, j < cs.length → rr j ≠ some ⟨gLF, 0, none⟩) ∧ (∀ j, j < cs.length → rr j ≠ some ⟨gLT, 0, none⟩) ∧ ∀ j, j < cs.length → rr j ≠ some ⟨g24, 0, none⟩) (fun (f, rr, cs, gLC) => ps.length - f) ((0, fun _ => none, [], g25)) ⟨rfl, rfl, rfl, trivial⟩ ⟨rfl, trivial⟩ ?_ ?_
  ·
   refine ⟨.refl _ _, by assumption, ⟨.inl rfl⟩, by assumption, by omega, ?_⟩
   exact ⟨⟨by omega, rfl⟩, .nil _ _ _, .nil _ _ _ _, fun _ h => by simp at h, fun _ h => by simp at h, fun _ h => by simp at h⟩
  rintro ⟨f, rr, cs, gLC⟩ HL2 ⟨lst2, at_LC, pl_LC, at_Lg8, ap2_0, hI⟩ KL2 hKL2
  refine .forget (fr' := [(10, some (.int .i64 (f : Int))), (6, some _), (7, some _), (8, some _)]) ⟨rfl, rfl, rfl, rfl, trivial⟩ ?_
  have ge_LC : H.next ≤ gLC := pl_LC.ge (by omega) (by omega)
  have nx_HL2 := lst2.nx
  replace hle := hle.st lst2 (fun k hk => ⟨by omega, by omega, trivial⟩)
  have ne_g6_g25 : NE g6 g25 := .a
  replace at6 := lst2.same _ _ ⟨ne_g6_g25.ne, ne_g6_g8.ne, trivial⟩ at6
  replace aP := lst2.same _ _ ⟨(by first | assumption | omega), ne_gP_g8.ne, trivial⟩ aP
  replace at_LF := lst2.same _ _ ⟨(Ne.symm (pl_LF.ne ne_g25_g21.ne (by omega))), ap1_2, trivial⟩ at_LF
  replace at_LT := lst2.same _ _ ⟨(Ne.symm (pl_LT.ne ne_g25_g22.ne (by omega))), ap1_4, trivial⟩ at_LT
  replace at_Lg24 := lst2.same _ _ ⟨(Ne.symm ne_g25_g24.ne), ap1_5, trivial⟩ at_Lg24
  replace lv_hK := Keep.st lv_hK lst2 (fun k hb hk => ⟨(by omega), (by omega), trivial⟩)
  have lt_at_LC := GHeap.ltg at_LC
  have lt_at_Lg8 := GHeap.ltg at_Lg8
  have rk := St.refl [gLC, g8] HL2
  obtain ⟨⟨hf, hcl⟩, hC, hR, hF1, hT1, hI1⟩ := hI
  have hatC := at_LC
  have hat8 := at_Lg8
  have hfl : (slsL rr cs).length = cs.length := length_slsL _ _
  refine .seq (fun K16 hK16 => .seq (fun K17 hK17 => .region (.mv rfl (.mv rfl (.q rfl (.len sl_115_Di rfl) (.q rfl (.cmp rfl rfl rfl) (.nil (hK17 _ _ ?_))))))))
  refine .cond rfl (fun h76 => ?_) (fun h76 => ?_)
  ·
   simp only [sps] at h76
   refine .skip ?_
   refine hK16 _ _ (.seq (fun K18 hK18 => ?_))
   refine .block ?_
   refine .seq (fun K19 hK19 => .region ?_)
   refine .R rfl (.litA rfl sl_24_A ze_2_L rfl rfl rfl rfl) ?_
   rintro _ H79 ⟨g79, rfl, le79, ge79, at79⟩
   have nx_H79 := le79.1
   replace lst2 := lst2.le le79
   replace rk := rk.le le79
   replace aP := le79.2 _ _ aP
   replace at_LC := le79.2 _ _ at_LC
   replace at_Lg8 := le79.2 _ _ at_Lg8
   replace lv_hK := Keep.le lv_hK le79
   have lt_at79 := GHeap.ltg at79
   replace at79 : GHeap.get H79 g79 = some (.row (ints []) 2 true) := at79
   refine .mv rfl (.nil (hK19 _ _ (.seq (fun K20 hK20 => .seq (fun K21 hK21 => .region (.mv rfl (.nil (hK21 _ _ ?_))))))))
   refine .block ?_
   refine .loopR (σ := Nat × List Int × Nat × Nat) [(6, some _), (7, some _), (8, some _), (10, some _)] (fun (g, row, gL11, nL11) => [(12, some (.int .i64 (g : Int))), (11, some (.slice (some ⟨gL11, 0, none⟩) nL11 nL11))]) (fun (g, row, gL11, nL11) H' => St [g79] H79 H' ∧ H'.get gL11 = some (.row (ints row) 2 true) ∧ PL gL11 g79 H79.next ∧ nL11 = row.length ∧ (g ≤ ps.length ∧ row.length = g) ∧ Bd (-1) 18 row) (fun (g, row, gL11, nL11) => ps.length - g) ((0, [], _, _)) ⟨rfl, rfl, rfl, rfl, trivial⟩ ⟨rfl, rfl, trivial⟩ ?_ ?_
   ·
    refine ⟨.refl _ _, by assumption, ⟨.inl rfl⟩, by rfl, ?_⟩
    exact ⟨⟨by omega, rfl⟩, .nil _ _⟩
   rintro ⟨g, row, gL11, nL11⟩ HL3 ⟨lst3, at_L11, pl_L11, ln_L11, hI⟩ KL3 hKL3
   refine .forget (fr' := [(12, some (.int .i64 (g : Int))), (11, some (.slice (some ⟨gL11, 0, none⟩) nL11 nL11)), (6, some _), (7, some _), (8, some _), (10, some _)]) ⟨rfl, rfl, rfl, rfl, rfl, rfl, trivial⟩ ?_
   have ge_L11 : H.next ≤ gL11 := pl_L11.ge (by omega) (by omega)
   have nx_HL3 := lst3.nx
   replace lst2 := lst2.sA lst3
   replace rk := rk.sA lst3
   replace aP := lst3.s aP
   have ne_gLC_g79 : NE gLC g79 := .a
   replace at_LC := lst3.s at_LC ne_gLC_g79.ne
   have ne_g8_g79 : NE g8 g79 := .a
   replace at_Lg8 := lst3.s at_Lg8 ne_g8_g79.ne
   replace lv_hK := Keep.st lv_hK lst3 (fun k hb hk => ⟨(by omega), trivial⟩)
   replace hK := bs_hK.keep lv_hK (Nat.le_refl _)
   have lt_at_L11 := GHeap.ltg at_L11
   have hP := hK.ok
   obtain ⟨⟨hg, hrl⟩, hW⟩ := hI
   refine .seq (fun K22 hK22 => .seq (fun K23 hK23 => .region (.mv rfl (.mv rfl (.q rfl (.len sl_115_Di rfl) (.q rfl (.cmp rfl rfl rfl) (.nil (hK23 _ _ ?_))))))))
   refine .cond rfl (fun h83 => ?_) (fun h83 => ?_)
   ·
    simp only [sps] at h83
    refine .skip ?_
    refine hK22 _ _ (.seq (fun K24 hK24 => ?_))
    refine .block ?_
    refine .seq (fun K25 hK25 => .region (.mv rfl (.nil (hK25 _ _ (.seq (fun K26 hK26 => .seq (fun K27 hK27 => ?_)))))))
    refine .regionD mo_B (.q 0 (.q 1 (.q 2 (.q 3 (.q 4 (.q 5 (.q 6 (.q 7 (.q 8 (.q 9 (.q 10 (.done)))))))))))) (by kernel_rfl) ?_
    have sA := pcells_slA aP
    have mf := pcells_mem aP (i := f) (by omega)
    have mg := pcells_mem aP (i := g) (by omega)
    refine .mv rfl rfl (.mv rfl rfl ?_)
    refine .q rfl (.idx sl_115_Di (by assumption) (by omega) rfl rfl (by omega) (by omega) rfl) ?_
    refine .q rfl (.fieldAddr fo_118_1_Dg rfl) (.q rfl (.load on_2_A rfl (mf.2 1 _ rfl)) (.mv rfl rfl (.mv rfl rfl ?_)))
    refine .q rfl (.idx sl_115_Di (by assumption) (by omega) rfl rfl (by omega) (by omega) rfl) ?_
    refine .q rfl (.fieldAddr fo_118_0_Dg rfl) (.q rfl (.load on_2_A rfl (mg.2 0 _ rfl)) (.q rfl (.cmp rfl rfl rfl) ?_))
    refine .done ?_
    refine hK27 _ _ ?_
    refine .cond rfl (fun h96 => ?_) (fun h96 => ?_)
    ·
     try simp only [sps] at h96
     refine .seq (fun K28 hK28 => ?_)
     refine .regionD mo_B (.q 0 (.q 1 (.q 2 (.q 3 (.q 4 (.q 6 (.q 7 (.q 8 (.q 9 (.q 10 (.c 5 1 (.c 11 0 (.q 12 (.done)))))))))))))) (by kernel_rfl) ?_
     have pf := hP.at (i := f) (by omega)
     have pg := hP.at (i := g) (by omega)
     refine .mv rfl rfl (.mv rfl rfl ?_)
     refine .q rfl (.idx sl_115_Di (by assumption) (by omega) rfl rfl (by omega) (by omega) rfl) ?_
     refine .q rfl (.fieldAddr fo_118_2_Dg rfl) (.q rfl (.load on_24_B rfl (mf.2 2 _ rfl)) (.mv rfl rfl (.mv rfl rfl ?_)))
     refine .q rfl (.idx sl_115_Di (by assumption) (by omega) rfl rfl (by omega) (by omega) rfl) ?_
     refine .q rfl (.fieldAddr fo_118_2_Dg rfl) (.q rfl (.load on_24_B rfl (mg.2 2 _ rfl)) ?_)
     refine .call1 rfl rfl rfl rfl rfl @Try.call102 rfl (l01Own_c (Ints.of_get pf.2.2.2.2)) ?_
     rintro _ H102 ⟨le102, g102, rfl, at102, ge102⟩
     have hbl := le102
     refine ⟨hbl, ?_⟩
     replace lst3 := lst3.le le102
     replace aP := le102.2 _ _ aP
     replace at_L11 := le102.2 _ _ at_L11
     replace lv_hK := Keep.le lv_hK le102
     replace hK := bs_hK.keep lv_hK (Nat.le_refl _)
     have lt_at102 := GHeap.ltg at102
     clear hP
     have hP := hK.ok
     have iG := Ints.of_get (hP.at (i := g) (by omega)).2.2.2.2
     refine .c0 rfl rfl rfl rfl (.appendL rfl sl_24_A ze_2_L rfl by_2_L sl_24_A rfl rfl (by assumption) (by first | assumption | exact Ints.of_get (by assumption)) (by first | omega | (simp <;> omega)) (by omega) (by omega)) ?_
     rintro _ H108 ⟨g108, rfl, st108, ge108, at108⟩
     replace lst3 := lst3.sA st108
     replace aP := st108.s aP
     replace at_L11 := st108.s at_L11
     replace lv_hK := Keep.st lv_hK st108 (fun k hb hk => ⟨(by omega), trivial⟩)
     replace hK := bs_hK.keep lv_hK (Nat.le_refl _)
     have lt_at108 := GHeap.ltg at108
     clear hP
     have hP := hK.ok
     refine .mv rfl rfl ?_
     refine .done ?_
     refine hK28 _ _ (.seq (fun K29 hK29 => .region (.mv rfl (.nil (hK29 _ _ ?_)))))
     refine .block ?_
     refine .loopR (σ := Nat × Int) [(6, some _), (7, some _), (8, some _), (10, some _), (11, some _), (12, some _), (14, some _)] (fun (k, h3) => [(15, some (.int .i64 (k : Int))), (13, some (.int .i64 h3))]) (fun (k, h3) H' => H108 = H' ∧ k ≤ ps.length ∧ -1 ≤ h3 ∧ h3 ≤ 18) (fun (k, h3) => ps.length - k) ((0, -1)) ⟨rfl, rfl, rfl, rfl, rfl, rfl, rfl, trivial⟩ ⟨rfl, rfl, trivial⟩ ?_ ?_
     ·
      refine ⟨rfl, ?_⟩
      exact ⟨by omega, by omega, by omega⟩
     rintro ⟨k, h3⟩ _ ⟨rfl, hI⟩ KL4 hKL4
     refine .forget (fr' := [(15, some (.int .i64 (k : Int))), (13, some (.int .i64 h3)), (6, some _), (7, some _), (8, some _), (10, some _), (11, some _), (12, some _), (14, some _)]) ⟨rfl, rfl, rfl, rfl, rfl, rfl, rfl, rfl, rfl, trivial⟩ ?_
     obtain ⟨hk, n3⟩ := hI
     refine .seq (fun K30 hK30 => .seq (fun K31 hK31 => .region (.mv rfl (.mv rfl (.q rfl (.len sl_115_Di rfl) (.q rfl (.cmp rfl rfl rfl) (.nil (hK31 _ _ ?_))))))))
     refine .cond rfl (fun h112 => ?_) (fun h112 => ?_)
     ·
      simp only [sps] at h112
      refine .skip ?_
      refine hK30 _ _ (.seq (fun K32 hK32 => ?_))
      refine .block ?_
      refine .seq (fun K33 hK33 => ?_)
      refine .regionD mo_B (.q 0 (.q 1 (.q 2 (.q 3 (.q 4 (.q 5 (.q 6 (.q 7 (.q 8 (.q 9 (.q 10 (.q 11 (.q 12 (.q 13 (.q 14 (.q 15 (.q 16 (.q 17 (.c 18 0 (.q 19 (.done))))))))))))))))))))) (by kernel_rfl) ?_
      have sA := pcells_slA aP
      have mk := pcells_mem aP (i := k) (by omega)
      have mf := pcells_mem aP (i := f) (by omega)
      have pk := hP.at (i := k) (by omega)
      refine .mv rfl rfl (.mv rfl rfl ?_)
      refine .q rfl (.idx sl_115_Di (by assumption) (by omega) rfl rfl (by omega) (by omega) rfl) ?_
      refine .q rfl (.fieldAddr fo_118_0_Dg rfl) (.q rfl (.load on_2_A rfl (mk.2 0 _ rfl)) (.mv rfl rfl (.mv rfl rfl ?_)))
      refine .q rfl (.idx sl_115_Di (by assumption) (by omega) rfl rfl (by omega) (by omega) rfl) ?_
      refine .q rfl (.fieldAddr fo_118_0_Dg rfl) (.q rfl (.load on_2_A rfl (mf.2 0 _ rfl)) (.q rfl (.cmp rfl rfl rfl) (.mv rfl rfl ?_)))
      refine .split (fun h126 => ?_) (fun h126 => ?_)
      ·
       try simp only [sps] at h126
       refine .qg rfl (.move rfl) (.qg rfl (.move rfl) ?_)
       refine .qg rfl (.idx sl_115_Di (by assumption) (by omega) rfl rfl (by omega) (by omega) rfl) ?_
       refine .qg rfl (.fieldAddr fo_118_2_Dg rfl) (.qg rfl (.load on_24_B rfl (mk.2 2 _ rfl)) (.qg rfl (.move rfl) ?_))
       refine .callQ0g rfl rfl rfl rfl rfl rfl rfl @Try.call127 rfl ((by have hh := l01Same_c (h := Ints.of_get pk.2.2.2.2) (h' := Ints.of_get at108) (hy := by rw [List.length_append]; omega); rw [List.length_append] at hh; exact hh)) ?_
       refine .q rfl (.pickT rfl rfl) ?_
       refine .done ?_
       refine hK33 _ _ ?_
       refine .cond rfl (fun h134 => ?_) (fun h134 => ?_)
       ·
        try simp only [sps] at h134
        refine .region (.mv rfl (.mv rfl (.nil (hK32 _ _ (.region (.mv rfl ?_))))))
        refine .q rfl (.add rfl rfl rfl (by omega) (by omega)) ?_
        refine .mv rfl (.nil ?_)
        refine hKL4 ((k + 1, _)) _ _ ?_ ?_ ⟨rfl, rfl, rfl, rfl, rfl, rfl, rfl, rfl, rfl, trivial⟩
        ·
         refine ⟨rfl, ?_⟩
         exact ⟨by omega, by omega, by omega⟩
        (dsimp only; omega)
       try simp only [sps] at h134
       refine .skip ?_
       refine hK32 _ _ (.region (.mv rfl ?_))
       refine .q rfl (.add rfl rfl rfl (by omega) (by omega)) ?_
       refine .mv rfl (.nil ?_)
       refine hKL4 ((k + 1, _)) _ _ ?_ ?_ ⟨rfl, rfl, rfl, rfl, rfl, rfl, rfl, rfl, rfl, trivial⟩
       ·
        refine ⟨rfl, ?_⟩
        exact ⟨by omega, by omega, by omega⟩
       (dsimp only; omega)
      try simp only [sps] at h126
      refine .z rfl (.z rfl (.z rfl (.z rfl (.z rfl (.z rfl (.sgc rfl rfl rfl rfl rfl rfl (.q rfl (.pickF rfl rfl) ?_)))))))
      refine .done ?_
      refine hK33 _ _ ?_
      refine .condF rfl ?_
      refine .skip ?_
      refine hK32 _ _ (.region (.mv rfl ?_))
      refine .q rfl (.add rfl rfl rfl (by omega) (by omega)) ?_
      refine .mv rfl (.nil ?_)
      refine hKL4 ((k + 1, _)) _ _ ?_ ?_ ⟨rfl, rfl, rfl, rfl, rfl, rfl, rfl, rfl, rfl, trivial⟩
      ·
       refine ⟨rfl, ?_⟩
       exact ⟨by omega, by omega, by omega⟩
      (dsimp only; omega)
     try simp only [sps] at h112
     refine .exit ?_
     refine hK26 _ _ (.region (.mv rfl (.mv rfl ?_)))
     refine .R rfl (.litA rfl sl_24_A ze_2_L rfl rfl rfl rfl) ?_
     rintro _ H138 ⟨g138, rfl, le138, ge138, at138⟩
     replace lst3 := lst3.le le138
     replace at_L11 := le138.2 _ _ at_L11
     have lt_at138 := GHeap.ltg at138
     clear hP
     refine .R rfl (.appendI rfl sl_24_A ze_2_L rfl by_2_L sl_24_A rfl rfl (by assumption) (by assumption) (by first | omega | (simp <;> omega)) (by omega) (by omega)) ?_
     rintro _ H139 ⟨g139, rfl, st139, ge139, at139⟩
     replace lst3 := lst3.sP st139
     refine .mv rfl (.nil (hK24 _ _ (.region (.mv rfl ?_))))
     refine .q rfl (.add rfl rfl rfl (by omega) (by omega)) ?_
     refine .mv rfl (.nil ?_)
     refine hKL3 ((g + 1, row ++ [h3], _, _)) _ _ ?_ ?_ ⟨rfl, rfl, rfl, rfl, rfl, rfl, trivial⟩
     ·
      refine ⟨lst3, by assumption, by exact ⟨.inr (by omega)⟩, by (simp only [List.length_append, List.length_cons, List.length_nil] <;> omega), ?_⟩
      exact ⟨⟨by omega, by simp; omega⟩, hW.snoc (by omega) (by omega)⟩
     (dsimp only; omega)
    obtain ⟨h3, hh3, n3⟩ : ∃ h3 : Int, h3 = -1 ∧ -1 ≤ h3 ∧ h3 ≤ 18 := ⟨_, rfl, by omega, by omega⟩
    refine .skip ?_
    refine hK26 _ _ (.region (.mv rfl (.mv rfl ?_)))
    refine .R rfl (.litA rfl sl_24_A ze_2_L rfl rfl rfl rfl) ?_
    rintro _ H138x2 ⟨g138x2, rfl, le138x2, ge138x2, at138x2⟩
    replace lst3 := lst3.le le138x2
    replace at_L11 := le138x2.2 _ _ at_L11
    have lt_at138x2 := GHeap.ltg at138x2
    refine .R rfl (.appendI rfl sl_24_A ze_2_L rfl by_2_L sl_24_A rfl rfl (by assumption) (by assumption) (by first | omega | (simp <;> omega)) (by omega) (by omega)) ?_
    rintro _ H139x2 ⟨g139x2, rfl, st139x2, ge139x2, at139x2⟩
    replace lst3 := lst3.sP st139x2
    refine .mv rfl (.nil (hK24 _ _ (.region (.mv rfl ?_))))
    refine .q rfl (.add rfl rfl rfl (by omega) (by omega)) ?_
    refine .mv rfl (.nil ?_)
    refine hKL3 ((g + 1, row ++ [h3], _, _)) _ _ ?_ ?_ ⟨rfl, rfl, rfl, rfl, rfl, rfl, trivial⟩
    ·
     refine ⟨lst3, by (rw [hh3]; assumption), by exact ⟨.inr (by omega)⟩, by (simp only [List.length_append, List.length_cons, List.length_nil] <;> omega), ?_⟩
     exact ⟨⟨by omega, by simp; omega⟩, hW.snoc (by omega) (by omega)⟩
    (dsimp only; omega)
   try simp only [sps] at h83
   refine .exit ?_
   refine hK20 _ _ (.region ?_)
   obtain rfl : g = ps.length := by omega
   obtain rfl := ln_L11
   refine .q rfl (.fieldAddr fo_27_4_B rfl) ?_
   refine .q rfl (.load on_25_B rfl (by first | assumption | exact Mem.of_get at_Lg8 4 _ rfl)) ?_
   refine .mv rfl ?_
   refine .R rfl (.litA rfl sl_25_B ze_24_Hj rfl rfl rfl rfl) ?_
   rintro _ H143 ⟨g143, rfl, le143, ge143, at143⟩
   replace lst2 := lst2.le le143
   replace rk := rk.le le143
   replace at_LC := le143.2 _ _ at_LC
   replace at_Lg8 := le143.2 _ _ at_Lg8
   replace at_L11 := le143.2 _ _ at_L11
   have lt_at143 := GHeap.ltg at143
   refine .R rfl (.appendV rfl sl_25_B ze_24_Hj rfl by_24_Hj sl_25_B rfl rfl (by assumption) (by assumption) (by first | omega | (simp <;> omega)) rfl rfl (by omega) (by omega)) ?_
   rintro _ H144 ⟨g144, rfl, st144, ge144, at144⟩
   replace lst2 := lst2.sP st144
   replace rk := rk.sP st144
   replace at_Lg8 := st144.same _ _ ⟨(Ne.symm ap2_0), trivial⟩ at_Lg8
   replace at_L11 := st144.same _ _ ⟨(Ne.symm (pl_L11.ne ne_gLC_g79.ne (by omega))), trivial⟩ at_L11
   refine .q rfl (.fieldAddr fo_27_4_B rfl) ?_
   refine .r0 rfl rfl (.storeR rfl sz_25_Ch rfl rfl rfl (by assumption) (by first | exact Nat.le_of_ble_eq_true rfl | (simp; done) | (simp <;> omega))) ?_
   rintro _ H28006 ⟨rfl, st28006, at28006⟩
   replace lst2 := lst2.sA st28006
   replace rk := rk.sA st28006
   replace at_L11 := st28006.same _ _ ⟨(Ne.symm (pl_L11.ne ne_g8_g79.ne (by omega))), trivial⟩ at_L11
   replace at144 := st28006.s at144
   try simp only [Nat.zero_add, List.set_cons_succ, List.set_cons_zero] at at28006
   refine .nil (hK18 _ _ (.region (.mv rfl ?_)))
   refine .q rfl (.add rfl rfl rfl (by omega) (by omega)) ?_
   refine .mv rfl (.nil ?_)
   refine hKL2 ((f + 1, upd rr cs.length (some ⟨gL11, 0, none⟩), cs ++ [row], g144)) _ _ ?_ ?_ ⟨rfl, rfl, rfl, rfl, trivial⟩
   ·
    refine ⟨lst2, by (rw [slsL_snoc]; assumption), by exact ⟨.inr (by omega)⟩, by assumption, by omega, ?_⟩
    have hR' := hR.st rk (.cons (hR.neT hatC rfl) (.cons (hR.neT hat8 rfl) (.nil _ _)))
    have hn1 := hR.ne (g := gL11) (pl_L11.ge (by omega) (by omega))
    have hx1 : gL11 ≠ gLF := pl_L11.ne' (by omega) (by omega)
    have hx2 : gL11 ≠ gLT := pl_L11.ne' (by omega) (by omega)
    have hx3 : gL11 ≠ g24 := pl_L11.ne' (by omega) (by omega)
    exact ⟨⟨by omega, by simp; omega⟩, hC.snoc (by omega) hW, hR'.snoc2 (by assumption) hn1 (by omega), ne_snoc hF1 (by omega), ne_snoc hT1 (by omega), ne_snoc hI1 (by omega)⟩
   (dsimp only; omega)
  try simp only [sps] at h76
  refine .exit ?_
  refine hK14 _ _ (.seq (fun K34 hK34 => .region ?_))
  refine .q rfl (.loadM ag_27_D rfl ⟨rfl, Mem.of_get at_Lg8⟩) ?_
  refine .r0 rfl rfl (.fillA rfl sz_27_D rfl rfl rfl rfl) ?_
  rintro _ H29001 ⟨rfl, st29001, at29001⟩
  replace hle := hle.st st29001 (fun k hk => ⟨by omega, trivial⟩)
  replace at_LF := st29001.same _ _ ⟨(Ne.symm (pl_LF.ne ne_g6_g21.ne (by omega))), trivial⟩ at_LF
  replace at_LT := st29001.same _ _ ⟨(Ne.symm (pl_LT.ne ne_g6_g22.ne (by omega))), trivial⟩ at_LT
  replace at_Lg24 := st29001.s at_Lg24 (Ne.symm ne_g6_g24.ne)
  replace at_LC := st29001.same _ _ ⟨(Ne.symm (pl_LC.ne ne_g6_g25.ne (by omega))), trivial⟩ at_LC
  replace at_Lg8 := st29001.s at_Lg8 (Ne.symm ne_g6_g8.ne)
  have mm29001 : MemN _ _ _ _ _ := ⟨rfl, Mem.of_get at29001⟩
  refine .nil (hK34 _ _ ?_)
  refine .ret ?_
  refine hret _ _ ?_
  refine ⟨_, _, _, _, rfl, ag_27_D, (by rfl), (Mem.of_get at29001), ?_⟩
  obtain rfl : f = ps.length := by omega
  have hx4 : gLF ≠ g24 := pl_LF.ne' (by omega) (by omega)
  have hx5 : gLT ≠ g24 := pl_LT.ne' (by omega) (by omega)
  have hat6 := at6
  have hR' := hR.st st29001 (.cons (hR.neT hat6 rfl) (.nil _ _))
  exact ⟨⟨n, ss, ts, is, cs⟩, rect_mk (by omega) (by omega) (by omega) (hS.mono (by omega) (by omega)) (hT.mono (by omega) (by omega)) (by omega) (hI.mono (by omega) (by omega)) (by omega) (by rw [hsl]; exact hC.mono (by omega) (by omega)), hle, gLF, gLT, g24, gLC, rr, by simp [Cat.cells, ownP, hsl, htl, hil, hcl], ⟨at_LF, at_LT, at_Lg24, at_LC, by omega, by omega, by omega, by omega, by omega, by omega, by omega, hR', hF1, hT1, hI1⟩⟩
end Go.Proofs.Ytolfggcanbpknaa
namespace Go.Proofs.Ytolfggcanbpknaa
open Go Go.GL Go.RowKit Go.Proofs
set_option maxHeartbeats 8000000 in
theorem l02Relation_c {gS n : Nat} {H : GHeap} (hs : DSrc 90 H gS := by assumption) (hn : n ≤ 8) :
    GCalls Try.prog 119 [.pointer (some ⟨gS, 0, none⟩), .int .i64 (n : Int)] H (NewRel 90 gS n H) := by
  have hlS := hs.lt
  refine GCalls.body (N := 95) (rs := [.tmp 4]) Try.func119 rfl rfl rfl rfl (fun Qx hret hend => ?_)
  refine .fg [0, 1] rfl ?_
  have hst := St.refl [gS] H
  refine .seq (fun K1 hK1 => .region (.mv rfl (.nil (hK1 _ _ (.seq (fun K2 hK2 => .region ?_))))))
  refine .R rfl (.litA rfl sl_25_B ze_24_Hj rfl rfl rfl rfl) ?_
  rintro _ H12 ⟨g12, rfl, le12, ge12, at12⟩
  replace hst := hst.le le12
  refine .mv rfl (.nil (hK2 _ _ (.seq (fun K3 hK3 => .seq (fun K4 hK4 => .region (.mv rfl (.nil (hK4 _ _ ?_))))))))
  refine .block ?_
  refine .loopR (σ := Nat × Nat × List (List Int) × (Nat → Option Addr)) [(0, some _), (1, some _)] (fun (i, gV, T, rr) => [(6, some (.int .i64 (i : Int))), (5, some (.slice (some ⟨gV, 0, none⟩) i i))]) (fun (i, gV, T, rr) H' => i ≤ n ∧ RelSt 90 2 24 H H' gS gV n i rr T) (fun (i, gV, T, rr) => n - i) ((0, g12, [], fun _ => none)) ⟨rfl, rfl, trivial⟩ ⟨rfl, rfl, trivial⟩ ?_ ?_
  ·
   exact ⟨by omega, hst, at12, by omega, .nil _ _ _ _, rfl, fun i hi => by simp at hi, hs.le le12⟩
  rintro ⟨i, gV, T, rr⟩ HL1 hI KL1 hKL1
  refine .forget (fr' := [(6, some (.int .i64 (i : Int))), (5, some (.slice (some ⟨gV, 0, none⟩) i i)), (0, some _), (1, some _)]) ⟨rfl, rfl, rfl, rfl, trivial⟩ ?_
  obtain ⟨hi, hS⟩ := hI
  obtain ⟨hst, a5, b5, hR, hlen, hrow, hs⟩ := id hS
  have rk := St.refl [gS] HL1
  have hfl : (slsL rr T).length = T.length := length_slsL _ _
  have lt_a5 := GHeap.ltg a5
  refine .seq (fun K5 hK5 => .seq (fun K6 hK6 => .region (.mv rfl (.mv rfl (.q rfl (.cmp rfl rfl rfl) (.nil (hK6 _ _ ?_)))))))
  refine .cond rfl (fun h15 => ?_) (fun h15 => ?_)
  ·
   simp only [sps] at h15
   refine .skip ?_
   refine hK5 _ _ (.seq (fun K7 hK7 => ?_))
   refine .block ?_
   refine .seq (fun K8 hK8 => .region (.mv rfl ?_))
   refine .R rfl (.makeI rfl sl_24_A ze_2_L by_2_L rfl rfl (by omega) (by omega) (by omega) (by omega)) ?_
   rintro _ H19 ⟨g19, rfl, le19, ge19, at19⟩
   replace hst := hst.le le19
   replace hs := hs.le le19
   replace rk := rk.le le19
   replace a5 := le19.2 _ _ a5
   simp only [Int.toNat_natCast] at at19
   refine .mv rfl (.nil (hK8 _ _ (.seq (fun K9 hK9 => .region (.mv rfl (.mv rfl ?_))))))
   refine .q rfl (.idxN sl_24_A (by first | assumption | exact SlA.of_row at19 (by first | rfl | (simp; done) | (simp <;> omega))) rfl rfl (by omega)) ?_
   refine .r0 rfl rfl (.storeI rfl sz_2_Ch rfl rfl (by assumption) (by first | omega | (simp <;> omega))) ?_
   rintro _ H6003 ⟨rfl, st6003, at6003⟩
   replace hst := hst.sA st6003
   replace hs := hs.sA st6003
   replace rk := rk.sA st6003
   have ne_gV_g19 : NE gV g19 := .a
   replace a5 := st6003.s a5 ne_gV_g19.ne
   rw [Nat.zero_add] at at6003
   refine .nil (hK9 _ _ (.seq (fun K10 hK10 => .seq (fun K11 hK11 => .region (.mv rfl ?_)))))
   refine .q rfl (.add rfl rfl rfl (by omega) (by omega)) ?_
   refine .mv rfl (.nil (hK11 _ _ ?_))
   refine .block ?_
   refine .loopR (σ := Nat × List Int) [(0, some _), (1, some _), (5, some _), (6, some _), (7, some _)] (fun (j, row) => [(8, some (.int .i64 (j : Int)))]) (fun (j, row) H' => (j ≤ n ∧ row.length = n) ∧ RelSt 90 2 24 H H' gS gV n i rr T ∧ H'.get g19 = some (.row (ints row) 2 true) ∧ ∀ j, j < T.length → rr j ≠ some ⟨g19, 0, none⟩) (fun (j, row) => n - j) ((i + 1, (List.replicate n 0).set i 1)) ⟨rfl, rfl, rfl, rfl, rfl, trivial⟩ ⟨rfl, trivial⟩ ?_ ?_
   ·
    exact ⟨⟨by omega, by simp⟩, ⟨hst, a5, b5, hR.st rk (.cons (hR.lowNe hlS) (.nil _ _)), hlen, hrow, hs⟩, at6003, hR.ne (by omega)⟩
   rintro ⟨j, row⟩ HL2 hI KL2 hKL2
   refine .forget (fr' := [(8, some (.int .i64 (j : Int))), (0, some _), (1, some _), (5, some _), (6, some _), (7, some _)]) ⟨rfl, rfl, rfl, rfl, rfl, rfl, trivial⟩ ?_
   obtain ⟨⟨hj, hrl⟩, hS, a7, h7⟩ := hI
   obtain ⟨hst, a5, b5, hR, hlen, hrow, hs⟩ := id hS
   have rk := St.refl [gS, g19, gV] HL2
   have lt_a7 := GHeap.ltg a7
   refine .seq (fun K12 hK12 => .seq (fun K13 hK13 => .region (.mv rfl (.mv rfl (.q rfl (.cmp rfl rfl rfl) (.nil (hK13 _ _ ?_)))))))
   refine .cond rfl (fun h27 => ?_) (fun h27 => ?_)
   ·
    try simp only [sps] at h27
    refine .skip ?_
    refine hK12 _ _ (.seq (fun K14 hK14 => ?_))
    refine .block ?_
    refine .region (.mv rfl (.mv rfl (.mv rfl ?_)))
    refine .call rfl rfl rfl rfl @Try.call48 rfl (l01Next_c) ?_
    rintro _ H33 ⟨k33, rfl, ka33, kb33, kc33, st33, hs⟩
    replace hst := hst.sA st33
    replace rk := rk.sA st33
    have ne_gV_gS : NE gV gS := .a
    replace a5 := st33.s a5 ne_gV_gS.ne
    replace a7 := st33.s a7
    refine .q rfl (.idxN sl_24_A (by first | assumption | exact SlA.of_row a7 (by first | rfl | (simp; done) | (simp <;> omega))) rfl rfl (by omega)) ?_
    refine .r0 rfl rfl (.storeI rfl sz_2_Ch rfl rfl (by assumption) (by first | omega | (simp <;> omega))) ?_
    rintro _ H10005 ⟨rfl, st10005, at10005⟩
    replace hst := hst.sA st10005
    replace rk := rk.sA st10005
    replace hs := hs.sA st10005
    have ne_gV_g19 : NE gV g19 := .a
    replace a5 := st10005.s a5 ne_gV_g19.ne
    rw [Nat.zero_add] at at10005
    refine .nil (hK14 _ _ (.region (.mv rfl ?_)))
    refine .q rfl (.add rfl rfl rfl (by omega) (by omega)) ?_
    refine .mv rfl (.nil ?_)
    refine hKL2 ((j + 1, row.set j k33)) _ _ ?_ ?_ ⟨rfl, rfl, rfl, rfl, rfl, rfl, trivial⟩
    ·
     exact ⟨⟨by omega, by simp; omega⟩, ⟨hst, a5, b5, hR.st rk (.cons (hR.lowNe hlS) (.cons h7 (.cons (hR.neT hS.a5 rfl) (.nil _ _)))), hlen, hrow, hs⟩, by assumption, h7⟩
    (dsimp only; omega)
   try simp only [sps] at h27
   refine .exit ?_
   refine hK10 _ _ (.region (.mv rfl (.mv rfl ?_)))
   refine .R rfl (.litA rfl sl_25_B ze_24_Hj rfl rfl rfl rfl) ?_
   rintro _ H37 ⟨g37, rfl, le37, ge37, at37⟩
   replace hst := hst.le le37
   replace hs := hs.le le37
   replace rk := rk.le le37
   replace a5 := le37.2 _ _ a5
   replace a7 := le37.2 _ _ a7
   have lt_at37 := GHeap.ltg at37
   refine .R rfl (.appendV rfl sl_25_B ze_24_Hj rfl by_24_Hj sl_25_B rfl rfl (by assumption) (by assumption) (by first | omega | (simp <;> omega)) rfl rfl (by omega) (by omega)) ?_
   rintro _ H38 ⟨g38, rfl, st38, ge38, at38⟩
   replace hst := hst.sA st38
   replace hs := hs.sA st38
   replace rk := rk.sA st38
   replace a7 := st38.s a7
   refine .mv rfl (.nil (hK7 _ _ (.region (.mv rfl ?_))))
   refine .q rfl (.add rfl rfl rfl (by omega) (by omega)) ?_
   refine .mv rfl (.nil ?_)
   refine hKL1 ((i + 1, g38, T ++ [row], upd rr T.length (some ⟨g19, 0, none⟩))) _ _ ?_ ?_ ⟨rfl, rfl, rfl, rfl, trivial⟩
   ·
    exact ⟨by omega, hst, by rw [slsL_snoc, hrl]; assumption, by omega, (hR.st rk (.cons (hR.lowNe hlS) (.cons h7 (.cons (hR.neT hS.a5 rfl) (.nil _ _))))).snoc2 a7 h7 (by omega), by simp; omega, rows_snoc hrow hrl, hs⟩
   (dsimp only; omega)
  try simp only [sps] at h15
  refine .exit ?_
  refine hK3 _ _ (.seq (fun K15 hK15 => .seq (fun K16 hK16 => .region (.mv rfl (.q rfl (.cmp rfl rfl rfl) (.mv rfl ?_))))))
  refine .split (fun h41 => ?_) (fun h41 => ?_)
  ·
   try simp only [sps] at h41
   refine .qg rfl (.move rfl) ?_
   refine .callg rfl rfl rfl rfl rfl rfl @Try.call48 rfl (l01Next_c) ?_
   rintro _ H43 ⟨k43, rfl, ka43, kb43, kc43, st43, hs⟩
   replace hst := hst.sA st43
   replace rk := rk.sA st43
   have ne_gV_gS : NE gV gS := .a
   replace a5 := st43.s a5 ne_gV_gS.ne
   refine .qg rfl (.cmp rfl rfl rfl) (.q rfl (.pickT rfl rfl) (.nil (hK16 _ _ ?_)))
   refine .cond rfl (fun h45 => ?_) (fun h45 => ?_)
   ·
    simp only [sps] at h45
    have hR1 := hR.st rk (.cons (hR.lowNe hlS) (.nil _ _))
    obtain ⟨gi, hgi, hbi, hati⟩ := hR1.row ((n : Int) - 1).toNat (by omega)
    have m3 := row_ne a5 hati rfl
    have hrw := hrow ((n : Int) - 1).toNat (by omega)
    refine .regionDB mo_B (.q 0 (.q 1 (.q 2 (.q 3 (.q 4 (.q 5 (.q 6 (.c 7 1 (.q 8 (.c 9 0 (.done))))))))))) (by kernel_rfl) (GHeap.le_erase H43 gS) ?_
    have hbl := GHeap.le_erase H43 gS
    have a5B := GHeap.get_erase_of (g := gS) a5 (by omega)
    have hatiB := GHeap.get_erase_of (g := gS) hati (by omega)
    have cC := slsL_cell a5B (i := ((n : Int) - 1).toNat) (by omega)
    rw [hgi] at cC
    refine .qB rfl hbl (.move rfl) (.qB rfl hbl (.move rfl) ?_)
    refine .qB rfl hbl (.sub rfl rfl rfl (by omega) (by omega)) ?_
    refine .qB rfl hbl (.idx1 sl_25_B (SlA.of_row a5B (by first | rfl | (simp; done) | (simp <;> omega))) rfl rfl (by omega) (by omega)) ?_
    refine .qB rfl hbl (.load on_24_B rfl cC) (.qB rfl hbl (.move rfl) (.qB rfl hbl (.move rfl) ?_))
    refine .call1 rfl rfl rfl rfl rfl @Try.call48 rfl (l01Next_c) ?_
    rintro _ H53 ⟨k53, rfl, ka53, kb53, kc53, st53, hs⟩
    replace hbl := hbl.erase_st st53
    refine ⟨hbl, ?_⟩
    replace hst := hst.sA st53
    replace rk := rk.sA st53
    replace a5 := st53.s a5 ne_gV_gS.ne
    replace hati := st53.s hati
    refine .qB rfl hbl (.idx1 sl_24_A (SlA.of_row hatiB (by first | rfl | (simp; done) | (simp <;> omega))) rfl rfl (by omega) (by omega)) ?_
    have hSb := RelSt.mk hst a5 b5 (hR.st rk (.cons (hR.lowNe hlS) (.nil _ _))) hlen hrow hs
    refine .r0 rfl rfl rfl (.storeI rfl sz_2_Ch rfl rfl (by assumption) (by first | omega | (simp <;> omega))) ?_
    rintro _ H13009 ⟨rfl, st13009, at13009⟩
    obtain ⟨T1, hS2⟩ := (hSb.set1 (by omega) hgi hbi st13009 at13009 (by rw [List.length_set]; exact hrw) m3 hlS).ex
    refine .done ?_
    refine hK15 _ _ (.seq (fun K17 hK17 => .seq (fun K18 hK18 => .region (.mv rfl (.nil (hK18 _ _ ?_))))))
    refine .block ?_
    refine .loopR (σ := Nat × List (List Int)) [(1, some _), (5, some _)] (fun (x, T) => [(9, some (.int .i64 (x : Int)))]) (fun (x, T) H' => x ≤ n ∧ RelSt 90 2 24 H H' gS gV n i rr T) (fun (x, T) => n - x) ((0, T1)) ⟨rfl, rfl, trivial⟩ ⟨rfl, trivial⟩ ?_ ?_
    ·
     exact ⟨by omega, hS2⟩
    rintro ⟨x, T⟩ HL3 hI KL3 hKL3
    refine .forget (fr' := [(9, some (.int .i64 (x : Int))), (1, some _), (5, some _)]) ⟨rfl, rfl, rfl, trivial⟩ ?_
    obtain ⟨-, hS⟩ := hI
    obtain ⟨hst, a5, b5, hR, hlen, hrow, hs⟩ := id hS
    refine .seq (fun K19 hK19 => .seq (fun K20 hK20 => .region (.mv rfl (.mv rfl (.q rfl (.cmp rfl rfl rfl) (.nil (hK20 _ _ ?_)))))))
    refine .cond rfl (fun h57 => ?_) (fun h57 => ?_)
    ·
     simp only [sps] at h57
     refine .skip ?_
     refine hK19 _ _ (.seq (fun K21 hK21 => ?_))
     refine .block ?_
     refine .seq (fun K22 hK22 => .region (.mv rfl (.nil (hK22 _ _ ?_))))
     refine .block ?_
     refine .loopR (σ := Nat × List (List Int)) [(1, some _), (5, some _), (9, some _)] (fun (y, T) => [(10, some (.int .i64 (y : Int)))]) (fun (y, T) H' => y ≤ n ∧ RelSt 90 2 24 H H' gS gV n i rr T) (fun (y, T) => n - y) ((0, T)) ⟨rfl, rfl, rfl, trivial⟩ ⟨rfl, trivial⟩ ?_ ?_
     ·
      exact ⟨by omega, hS⟩
     rintro ⟨y, T⟩ HL4 hI KL4 hKL4
     refine .forget (fr' := [(10, some (.int .i64 (y : Int))), (1, some _), (5, some _), (9, some _)]) ⟨rfl, rfl, rfl, rfl, trivial⟩ ?_
     obtain ⟨-, hS⟩ := hI
     obtain ⟨-, -, -, -, hlen, -, -⟩ := id hS
     refine .seq (fun K23 hK23 => .seq (fun K24 hK24 => .region (.mv rfl (.mv rfl (.q rfl (.cmp rfl rfl rfl) (.nil (hK24 _ _ ?_)))))))
     refine .cond rfl (fun h62 => ?_) (fun h62 => ?_)
     ·
      simp only [sps] at h62
      refine .skip ?_
      refine hK23 _ _ (.seq (fun K25 hK25 => ?_))
      refine .block ?_
      refine .seq (fun K26 hK26 => .region (.mv rfl (.nil (hK26 _ _ ?_))))
      refine .block ?_
      refine .loopR (σ := Nat × List (List Int)) [(1, some _), (5, some _), (9, some _), (10, some _)] (fun (z, T) => [(11, some (.int .i64 (z : Int)))]) (fun (z, T) H' => z ≤ n ∧ RelSt 90 2 24 H H' gS gV n i rr T) (fun (z, T) => n - z) ((0, T)) ⟨rfl, rfl, rfl, rfl, trivial⟩ ⟨rfl, trivial⟩ ?_ ?_
      ·
       exact ⟨by omega, hS⟩
      rintro ⟨z, T⟩ HL5 hI KL5 hKL5
      refine .forget (fr' := [(11, some (.int .i64 (z : Int))), (1, some _), (5, some _), (9, some _), (10, some _)]) ⟨rfl, rfl, rfl, rfl, rfl, trivial⟩ ?_
      obtain ⟨-, hS⟩ := hI
      obtain ⟨-, a5, b5, hR, hlen, hrow, -⟩ := id hS
      refine .seq (fun K27 hK27 => .seq (fun K28 hK28 => .region (.mv rfl (.mv rfl (.q rfl (.cmp rfl rfl rfl) (.nil (hK28 _ _ ?_)))))))
      refine .cond rfl (fun h67 => ?_) (fun h67 => ?_)
      ·
       simp only [sps] at h67
       have iT := hR.intss a5 b5
       have u1 := iT.2 y (by omega)
       have u2 := iT.2 x (by omega)
       have w1 := hrow y (by omega)
       have w2 := hrow x (by omega)
       refine .skip ?_
       refine hK27 _ _ (.seq (fun K29 hK29 => ?_))
       refine .block ?_
       refine .seq (fun K30 hK30 => .region (.mv rfl (.mv rfl ?_)))
       refine .q rfl (.idxN sl_25_B (by first | exact (Intss.sl (by assumption)) | exact SlA.of_row a5 (by first | rfl | (simp; done) | (simp <;> omega))) rfl rfl (by omega)) ?_
       refine .q rfl (.loadR on_24_B (by assumption) rfl (by omega)) ?_
       refine .mv rfl ?_
       refine .q rfl (.idxN sl_24_A (by assumption) rfl rfl (by omega)) ?_
       refine .q rfl (.loadI on_2_A (by assumption) rfl (by omega)) ?_
       refine .q rfl (.cmp rfl rfl rfl) (.mv rfl ?_)
       refine .split (fun h78 => ?_) (fun h78 => ?_)
       ·
        try simp only [sps] at h78
        refine .qg rfl (.move rfl) (.qg rfl (.move rfl) ?_)
        refine .qg rfl (.idxN sl_25_B (by first | exact (Intss.sl (by assumption)) | exact SlA.of_row a5 (by first | rfl | (simp; done) | (simp <;> omega))) rfl rfl (by omega)) ?_
        refine .qg rfl (.loadR on_24_B (by assumption) rfl (by omega)) ?_
        refine .qg rfl (.move rfl) ?_
        refine .qg rfl (.idxN sl_24_A (by assumption) rfl rfl (by omega)) ?_
        refine .qg rfl (.loadI on_2_A (by assumption) rfl (by omega)) ?_
        refine .qg rfl (.cmp rfl rfl rfl) (.q rfl (.pickT rfl rfl) (.nil (hK30 _ _ ?_)))
        refine .cond rfl (fun h87 => ?_) (fun h87 => ?_)
        ·
         try simp only [sps] at h87
         refine .region ?_
         obtain ⟨gi, hgi, hbi, hati⟩ := hR.row y (by omega)
         have m3 := row_ne a5 hati rfl
         have cC := slsL_cell a5 (i := y) (by omega)
         rw [hgi] at cC
         refine .mv rfl (.mv rfl ?_)
         refine .q rfl (.idxN sl_25_B (by first | exact (Intss.sl (by assumption)) | exact SlA.of_row a5 (by first | rfl | (simp; done) | (simp <;> omega))) rfl rfl (by omega)) ?_
         refine .q rfl (.load on_24_B rfl cC) (.mv rfl ?_)
         refine .q rfl (.idxN sl_24_A (by first | assumption | exact SlA.of_row hati (by first | rfl | (simp; done) | (simp <;> omega))) rfl rfl (by omega)) ?_
         refine .r0 rfl rfl (.storeI rfl sz_2_Ch rfl rfl (by assumption) (by first | omega | (simp <;> omega))) ?_
         rintro _ H24006 ⟨rfl, st24006, at24006⟩
         obtain ⟨T2, hS2⟩ := (hS.set1 (by omega) hgi hbi st24006 at24006 (by rw [List.length_set]; exact w1) m3 hlS).ex
         refine .nil (hK29 _ _ (.region (.mv rfl ?_)))
         refine .q rfl (.add rfl rfl rfl (by omega) (by omega)) ?_
         refine .mv rfl (.nil ?_)
         refine hKL5 ((z + 1, T2)) _ _ ?_ ?_ ⟨rfl, rfl, rfl, rfl, rfl, trivial⟩
         ·
          exact ⟨by omega, hS2⟩
         (dsimp only; omega)
        obtain ⟨T2, hS2⟩ := hS.ex
        refine .skip ?_
        refine hK29 _ _ (.region (.mv rfl ?_))
        refine .q rfl (.add rfl rfl rfl (by omega) (by omega)) ?_
        refine .mv rfl (.nil ?_)
        refine hKL5 ((z + 1, T2)) _ _ ?_ ?_ ⟨rfl, rfl, rfl, rfl, rfl, trivial⟩
        ·
         exact ⟨by omega, hS2⟩
        (dsimp only; omega)
       obtain ⟨T2, hS2⟩ := hS.ex
       refine .z rfl (.z rfl (.z rfl (.z rfl (.z rfl (.z rfl (.z rfl (.z rfl (.q rfl (.pickF rfl rfl) (.nil (hK30 _ _ ?_))))))))))
       refine .condF rfl ?_
       refine .skip ?_
       refine hK29 _ _ (.region (.mv rfl ?_))
       refine .q rfl (.add rfl rfl rfl (by omega) (by omega)) ?_
       refine .mv rfl (.nil ?_)
       refine hKL5 ((z + 1, T2)) _ _ ?_ ?_ ⟨rfl, rfl, rfl, rfl, rfl, trivial⟩
       ·
        exact ⟨by omega, hS2⟩
       (dsimp only; omega)
      try simp only [sps] at h67
      refine .exit ?_
      refine hK25 _ _ (.region (.mv rfl ?_))
      refine .q rfl (.add rfl rfl rfl (by omega) (by omega)) ?_
      refine .mv rfl (.nil ?_)
      refine hKL4 ((y + 1, T)) _ _ ?_ ?_ ⟨rfl, rfl, rfl, rfl, trivial⟩
      ·
       exact ⟨by omega, hS⟩
      (dsimp only; omega)
     try simp only [sps] at h62
     refine .exit ?_
     refine hK21 _ _ (.region (.mv rfl ?_))
     refine .q rfl (.add rfl rfl rfl (by omega) (by omega)) ?_
     refine .mv rfl (.nil ?_)
     refine hKL3 ((x + 1, T)) _ _ ?_ ?_ ⟨rfl, rfl, rfl, trivial⟩
     ·
      exact ⟨by omega, hS⟩
     (dsimp only; omega)
    try simp only [sps] at h57
    refine .exit ?_
    refine hK17 _ _ (.seq (fun K31 hK31 => .region (.mv rfl (.mv rfl (.nil (hK31 _ _ ?_))))))
    refine .ret ?_
    refine hret _ _ ?_
    refine ⟨_, rfl, ?_⟩
    exact ⟨some ⟨gV, 0, none⟩, T, rr, by rw [hlen], hR.done a5 b5, by omega, fun k hk => by rw [hrow k hk]; omega, hst, hs⟩
   simp only [sps] at h45
   obtain ⟨T1, hS2⟩ := (RelSt.mk hst a5 b5 (hR.st rk (.cons (hR.lowNe hlS) (.nil _ _))) hlen hrow hs).ex
   refine .skip ?_
   refine hK15 _ _ (.seq (fun K32 hK32 => .seq (fun K33 hK33 => .region (.mv rfl (.nil (hK33 _ _ ?_))))))
   refine .block ?_
   refine .loopR (σ := Nat × List (List Int)) [(1, some _), (5, some _)] (fun (x, T) => [(9, some (.int .i64 (x : Int)))]) (fun (x, T) H' => x ≤ n ∧ RelSt 90 2 24 H H' gS gV n i rr T) (fun (x, T) => n - x) ((0, T1)) ⟨rfl, rfl, trivial⟩ ⟨rfl, trivial⟩ ?_ ?_
   ·
    exact ⟨by omega, hS2⟩
   rintro ⟨x, T⟩ HL3 hI KL3 hKL3
   refine .forget (fr' := [(9, some (.int .i64 (x : Int))), (1, some _), (5, some _)]) ⟨rfl, rfl, rfl, trivial⟩ ?_
   obtain ⟨-, hS⟩ := hI
   obtain ⟨hst, a5, b5, hR, hlen, hrow, hs⟩ := id hS
   refine .seq (fun K34 hK34 => .seq (fun K35 hK35 => .region (.mv rfl (.mv rfl (.q rfl (.cmp rfl rfl rfl) (.nil (hK35 _ _ ?_)))))))
   refine .cond rfl (fun h57 => ?_) (fun h57 => ?_)
   ·
    simp only [sps] at h57
    refine .skip ?_
    refine hK34 _ _ (.seq (fun K36 hK36 => ?_))
    refine .block ?_
    refine .seq (fun K37 hK37 => .region (.mv rfl (.nil (hK37 _ _ ?_))))
    refine .block ?_
    refine .loopR (σ := Nat × List (List Int)) [(1, some _), (5, some _), (9, some _)] (fun (y, T) => [(10, some (.int .i64 (y : Int)))]) (fun (y, T) H' => y ≤ n ∧ RelSt 90 2 24 H H' gS gV n i rr T) (fun (y, T) => n - y) ((0, T)) ⟨rfl, rfl, rfl, trivial⟩ ⟨rfl, trivial⟩ ?_ ?_
    ·
     exact ⟨by omega, hS⟩
    rintro ⟨y, T⟩ HL4 hI KL4 hKL4
    refine .forget (fr' := [(10, some (.int .i64 (y : Int))), (1, some _), (5, some _), (9, some _)]) ⟨rfl, rfl, rfl, rfl, trivial⟩ ?_
    obtain ⟨-, hS⟩ := hI
    obtain ⟨-, -, -, -, hlen, -, -⟩ := id hS
    refine .seq (fun K38 hK38 => .seq (fun K39 hK39 => .region (.mv rfl (.mv rfl (.q rfl (.cmp rfl rfl rfl) (.nil (hK39 _ _ ?_)))))))
    refine .cond rfl (fun h62 => ?_) (fun h62 => ?_)
    ·
     simp only [sps] at h62
     refine .skip ?_
     refine hK38 _ _ (.seq (fun K40 hK40 => ?_))
     refine .block ?_
     refine .seq (fun K41 hK41 => .region (.mv rfl (.nil (hK41 _ _ ?_))))
     refine .block ?_
     refine .loopR (σ := Nat × List (List Int)) [(1, some _), (5, some _), (9, some _), (10, some _)] (fun (z, T) => [(11, some (.int .i64 (z : Int)))]) (fun (z, T) H' => z ≤ n ∧ RelSt 90 2 24 H H' gS gV n i rr T) (fun (z, T) => n - z) ((0, T)) ⟨rfl, rfl, rfl, rfl, trivial⟩ ⟨rfl, trivial⟩ ?_ ?_
     ·
      exact ⟨by omega, hS⟩
     rintro ⟨z, T⟩ HL5 hI KL5 hKL5
     refine .forget (fr' := [(11, some (.int .i64 (z : Int))), (1, some _), (5, some _), (9, some _), (10, some _)]) ⟨rfl, rfl, rfl, rfl, rfl, trivial⟩ ?_
     obtain ⟨-, hS⟩ := hI
     obtain ⟨-, a5, b5, hR, hlen, hrow, -⟩ := id hS
     refine .seq (fun K42 hK42 => .seq (fun K43 hK43 => .region (.mv rfl (.mv rfl (.q rfl (.cmp rfl rfl rfl) (.nil (hK43 _ _ ?_)))))))
     refine .cond rfl (fun h67 => ?_) (fun h67 => ?_)
     ·
      simp only [sps] at h67
      have iT := hR.intss a5 b5
      have u1 := iT.2 y (by omega)
      have u2 := iT.2 x (by omega)
      have w1 := hrow y (by omega)
      have w2 := hrow x (by omega)
      refine .skip ?_
      refine hK42 _ _ (.seq (fun K44 hK44 => ?_))
      refine .block ?_
      refine .seq (fun K45 hK45 => .region (.mv rfl (.mv rfl ?_)))
      refine .q rfl (.idxN sl_25_B (by first | exact (Intss.sl (by assumption)) | exact SlA.of_row a5 (by first | rfl | (simp; done) | (simp <;> omega))) rfl rfl (by omega)) ?_
      refine .q rfl (.loadR on_24_B (by assumption) rfl (by omega)) ?_
      refine .mv rfl ?_
      refine .q rfl (.idxN sl_24_A (by assumption) rfl rfl (by omega)) ?_
      refine .q rfl (.loadI on_2_A (by assumption) rfl (by omega)) ?_
      refine .q rfl (.cmp rfl rfl rfl) (.mv rfl ?_)
      refine .split (fun h78 => ?_) (fun h78 => ?_)
      ·
       try simp only [sps] at h78
       refine .qg rfl (.move rfl) (.qg rfl (.move rfl) ?_)
       refine .qg rfl (.idxN sl_25_B (by first | exact (Intss.sl (by assumption)) | exact SlA.of_row a5 (by first | rfl | (simp; done) | (simp <;> omega))) rfl rfl (by omega)) ?_
       refine .qg rfl (.loadR on_24_B (by assumption) rfl (by omega)) ?_
       refine .qg rfl (.move rfl) ?_
       refine .qg rfl (.idxN sl_24_A (by assumption) rfl rfl (by omega)) ?_
       refine .qg rfl (.loadI on_2_A (by assumption) rfl (by omega)) ?_
       refine .qg rfl (.cmp rfl rfl rfl) (.q rfl (.pickT rfl rfl) (.nil (hK45 _ _ ?_)))
       refine .cond rfl (fun h87 => ?_) (fun h87 => ?_)
       ·
        try simp only [sps] at h87
        refine .region ?_
        obtain ⟨gi, hgi, hbi, hati⟩ := hR.row y (by omega)
        have m3 := row_ne a5 hati rfl
        have cC := slsL_cell a5 (i := y) (by omega)
        rw [hgi] at cC
        refine .mv rfl (.mv rfl ?_)
        refine .q rfl (.idxN sl_25_B (by first | exact (Intss.sl (by assumption)) | exact SlA.of_row a5 (by first | rfl | (simp; done) | (simp <;> omega))) rfl rfl (by omega)) ?_
        refine .q rfl (.load on_24_B rfl cC) (.mv rfl ?_)
        refine .q rfl (.idxN sl_24_A (by first | assumption | exact SlA.of_row hati (by first | rfl | (simp; done) | (simp <;> omega))) rfl rfl (by omega)) ?_
        refine .r0 rfl rfl (.storeI rfl sz_2_Ch rfl rfl (by assumption) (by first | omega | (simp <;> omega))) ?_
        rintro _ H24006x2 ⟨rfl, st24006x2, at24006x2⟩
        obtain ⟨T2, hS2⟩ := (hS.set1 (by omega) hgi hbi st24006x2 at24006x2 (by rw [List.length_set]; exact w1) m3 hlS).ex
        refine .nil (hK44 _ _ (.region (.mv rfl ?_)))
        refine .q rfl (.add rfl rfl rfl (by omega) (by omega)) ?_
        refine .mv rfl (.nil ?_)
        refine hKL5 ((z + 1, T2)) _ _ ?_ ?_ ⟨rfl, rfl, rfl, rfl, rfl, trivial⟩
        ·
         exact ⟨by omega, hS2⟩
        (dsimp only; omega)
       obtain ⟨T2, hS2⟩ := hS.ex
       refine .skip ?_
       refine hK44 _ _ (.region (.mv rfl ?_))
       refine .q rfl (.add rfl rfl rfl (by omega) (by omega)) ?_
       refine .mv rfl (.nil ?_)
       refine hKL5 ((z + 1, T2)) _ _ ?_ ?_ ⟨rfl, rfl, rfl, rfl, rfl, trivial⟩
       ·
        exact ⟨by omega, hS2⟩
       (dsimp only; omega)
      obtain ⟨T2, hS2⟩ := hS.ex
      refine .z rfl (.z rfl (.z rfl (.z rfl (.z rfl (.z rfl (.z rfl (.z rfl (.q rfl (.pickF rfl rfl) (.nil (hK45 _ _ ?_))))))))))
      refine .condF rfl ?_
      refine .skip ?_
      refine hK44 _ _ (.region (.mv rfl ?_))
      refine .q rfl (.add rfl rfl rfl (by omega) (by omega)) ?_
      refine .mv rfl (.nil ?_)
      refine hKL5 ((z + 1, T2)) _ _ ?_ ?_ ⟨rfl, rfl, rfl, rfl, rfl, trivial⟩
      ·
       exact ⟨by omega, hS2⟩
      (dsimp only; omega)
     try simp only [sps] at h67
     refine .exit ?_
     refine hK40 _ _ (.region (.mv rfl ?_))
     refine .q rfl (.add rfl rfl rfl (by omega) (by omega)) ?_
     refine .mv rfl (.nil ?_)
     refine hKL4 ((y + 1, T)) _ _ ?_ ?_ ⟨rfl, rfl, rfl, rfl, trivial⟩
     ·
      exact ⟨by omega, hS⟩
     (dsimp only; omega)
    try simp only [sps] at h62
    refine .exit ?_
    refine hK36 _ _ (.region (.mv rfl ?_))
    refine .q rfl (.add rfl rfl rfl (by omega) (by omega)) ?_
    refine .mv rfl (.nil ?_)
    refine hKL3 ((x + 1, T)) _ _ ?_ ?_ ⟨rfl, rfl, rfl, trivial⟩
    ·
     exact ⟨by omega, hS⟩
    (dsimp only; omega)
   try simp only [sps] at h57
   refine .exit ?_
   refine hK32 _ _ (.seq (fun K46 hK46 => .region (.mv rfl (.mv rfl (.nil (hK46 _ _ ?_))))))
   refine .ret ?_
   refine hret _ _ ?_
   refine ⟨_, rfl, ?_⟩
   exact ⟨some ⟨gV, 0, none⟩, T, rr, by rw [hlen], hR.done a5 b5, by omega, fun k hk => by rw [hrow k hk]; omega, hst, hs⟩
  simp only [sps] at h41
  obtain ⟨T1, hS2⟩ := hS.ex
  refine .z rfl (.z rfl (.z rfl (.q rfl (.pickF rfl rfl) (.nil (hK16 _ _ ?_)))))
  refine .condF rfl ?_
  refine .skip ?_
  refine hK15 _ _ (.seq (fun K47 hK47 => .seq (fun K48 hK48 => .region (.mv rfl (.nil (hK48 _ _ ?_))))))
  refine .block ?_
  refine .loopR (σ := Nat × List (List Int)) [(1, some _), (5, some _)] (fun (x, T) => [(9, some (.int .i64 (x : Int)))]) (fun (x, T) H' => x ≤ n ∧ RelSt 90 2 24 H H' gS gV n i rr T) (fun (x, T) => n - x) ((0, T1)) ⟨rfl, rfl, trivial⟩ ⟨rfl, trivial⟩ ?_ ?_
  ·
   exact ⟨by omega, hS2⟩
  rintro ⟨x, T⟩ HL3 hI KL3 hKL3
  refine .forget (fr' := [(9, some (.int .i64 (x : Int))), (1, some _), (5, some _)]) ⟨rfl, rfl, rfl, trivial⟩ ?_
  obtain ⟨-, hS⟩ := hI
  obtain ⟨hst, a5, b5, hR, hlen, hrow, hs⟩ := id hS
  refine .seq (fun K49 hK49 => .seq (fun K50 hK50 => .region (.mv rfl (.mv rfl (.q rfl (.cmp rfl rfl rfl) (.nil (hK50 _ _ ?_)))))))
  refine .cond rfl (fun h57 => ?_) (fun h57 => ?_)
  ·
   simp only [sps] at h57
   refine .skip ?_
   refine hK49 _ _ (.seq (fun K51 hK51 => ?_))
   refine .block ?_
   refine .seq (fun K52 hK52 => .region (.mv rfl (.nil (hK52 _ _ ?_))))
   refine .block ?_
   refine .loopR (σ := Nat × List (List Int)) [(1, some _), (5, some _), (9, some _)] (fun (y, T) => [(10, some (.int .i64 (y : Int)))]) (fun (y, T) H' => y ≤ n ∧ RelSt 90 2 24 H H' gS gV n i rr T) (fun (y, T) => n - y) ((0, T)) ⟨rfl, rfl, rfl, trivial⟩ ⟨rfl, trivial⟩ ?_ ?_
   ·
    exact ⟨by omega, hS⟩
   rintro ⟨y, T⟩ HL4 hI KL4 hKL4
   refine .forget (fr' := [(10, some (.int .i64 (y : Int))), (1, some _), (5, some _), (9, some _)]) ⟨rfl, rfl, rfl, rfl, trivial⟩ ?_
   obtain ⟨-, hS⟩ := hI
   obtain ⟨-, -, -, -, hlen, -, -⟩ := id hS
   refine .seq (fun K53 hK53 => .seq (fun K54 hK54 => .region (.mv rfl (.mv rfl (.q rfl (.cmp rfl rfl rfl) (.nil (hK54 _ _ ?_)))))))
   refine .cond rfl (fun h62 => ?_) (fun h62 => ?_)
   ·
    simp only [sps] at h62
    refine .skip ?_
    refine hK53 _ _ (.seq (fun K55 hK55 => ?_))
    refine .block ?_
    refine .seq (fun K56 hK56 => .region (.mv rfl (.nil (hK56 _ _ ?_))))
    refine .block ?_
    refine .loopR (σ := Nat × List (List Int)) [(1, some _), (5, some _), (9, some _), (10, some _)] (fun (z, T) => [(11, some (.int .i64 (z : Int)))]) (fun (z, T) H' => z ≤ n ∧ RelSt 90 2 24 H H' gS gV n i rr T) (fun (z, T) => n - z) ((0, T)) ⟨rfl, rfl, rfl, rfl, trivial⟩ ⟨rfl, trivial⟩ ?_ ?_
    ·
     exact ⟨by omega, hS⟩
    rintro ⟨z, T⟩ HL5 hI KL5 hKL5
    refine .forget (fr' := [(11, some (.int .i64 (z : Int))), (1, some _), (5, some _), (9, some _), (10, some _)]) ⟨rfl, rfl, rfl, rfl, rfl, trivial⟩ ?_
    obtain ⟨-, hS⟩ := hI
    obtain ⟨-, a5, b5, hR, hlen, hrow, -⟩ := id hS
    refine .seq (fun K57 hK57 => .seq (fun K58 hK58 => .region (.mv rfl (.mv rfl (.q rfl (.cmp rfl rfl rfl) (.nil (hK58 _ _ ?_)))))))
    refine .cond rfl (fun h67 => ?_) (fun h67 => ?_)
    ·
     simp only [sps] at h67
     have iT := hR.intss a5 b5
     have u1 := iT.2 y (by omega)
     have u2 := iT.2 x (by omega)
     have w1 := hrow y (by omega)
     have w2 := hrow x (by omega)
     refine .skip ?_
     refine hK57 _ _ (.seq (fun K59 hK59 => ?_))
     refine .block ?_
     refine .seq (fun K60 hK60 => .region (.mv rfl (.mv rfl ?_)))
     refine .q rfl (.idxN sl_25_B (by first | exact (Intss.sl (by assumption)) | exact SlA.of_row a5 (by first | rfl | (simp; done) | (simp <;> omega))) rfl rfl (by omega)) ?_
     refine .q rfl (.loadR on_24_B (by assumption) rfl (by omega)) ?_
     refine .mv rfl ?_
     refine .q rfl (.idxN sl_24_A (by assumption) rfl rfl (by omega)) ?_
     refine .q rfl (.loadI on_2_A (by assumption) rfl (by omega)) ?_
     refine .q rfl (.cmp rfl rfl rfl) (.mv rfl ?_)
     refine .split (fun h78 => ?_) (fun h78 => ?_)
     ·
      try simp only [sps] at h78
      refine .qg rfl (.move rfl) (.qg rfl (.move rfl) ?_)
      refine .qg rfl (.idxN sl_25_B (by first | exact (Intss.sl (by assumption)) | exact SlA.of_row a5 (by first | rfl | (simp; done) | (simp <;> omega))) rfl rfl (by omega)) ?_
      refine .qg rfl (.loadR on_24_B (by assumption) rfl (by omega)) ?_
      refine .qg rfl (.move rfl) ?_
      refine .qg rfl (.idxN sl_24_A (by assumption) rfl rfl (by omega)) ?_
      refine .qg rfl (.loadI on_2_A (by assumption) rfl (by omega)) ?_
      refine .qg rfl (.cmp rfl rfl rfl) (.q rfl (.pickT rfl rfl) (.nil (hK60 _ _ ?_)))
      refine .cond rfl (fun h87 => ?_) (fun h87 => ?_)
      ·
       try simp only [sps] at h87
       refine .region ?_
       obtain ⟨gi, hgi, hbi, hati⟩ := hR.row y (by omega)
       have m3 := row_ne a5 hati rfl
       have cC := slsL_cell a5 (i := y) (by omega)
       rw [hgi] at cC
       refine .mv rfl (.mv rfl ?_)
       refine .q rfl (.idxN sl_25_B (by first | exact (Intss.sl (by assumption)) | exact SlA.of_row a5 (by first | rfl | (simp; done) | (simp <;> omega))) rfl rfl (by omega)) ?_
       refine .q rfl (.load on_24_B rfl cC) (.mv rfl ?_)
       refine .q rfl (.idxN sl_24_A (by first | assumption | exact SlA.of_row hati (by first | rfl | (simp; done) | (simp <;> omega))) rfl rfl (by omega)) ?_
       refine .r0 rfl rfl (.storeI rfl sz_2_Ch rfl rfl (by assumption) (by first | omega | (simp <;> omega))) ?_
       rintro _ H24006x3 ⟨rfl, st24006x3, at24006x3⟩
       obtain ⟨T2, hS2⟩ := (hS.set1 (by omega) hgi hbi st24006x3 at24006x3 (by rw [List.length_set]; exact w1) m3 hlS).ex
       refine .nil (hK59 _ _ (.region (.mv rfl ?_)))
       refine .q rfl (.add rfl rfl rfl (by omega) (by omega)) ?_
       refine .mv rfl (.nil ?_)
       refine hKL5 ((z + 1, T2)) _ _ ?_ ?_ ⟨rfl, rfl, rfl, rfl, rfl, trivial⟩
       ·
        exact ⟨by omega, hS2⟩
       (dsimp only; omega)
      obtain ⟨T2, hS2⟩ := hS.ex
      refine .skip ?_
      refine hK59 _ _ (.region (.mv rfl ?_))
      refine .q rfl (.add rfl rfl rfl (by omega) (by omega)) ?_
      refine .mv rfl (.nil ?_)
      refine hKL5 ((z + 1, T2)) _ _ ?_ ?_ ⟨rfl, rfl, rfl, rfl, rfl, trivial⟩
      ·
       exact ⟨by omega, hS2⟩
      (dsimp only; omega)
     obtain ⟨T2, hS2⟩ := hS.ex
     refine .z rfl (.z rfl (.z rfl (.z rfl (.z rfl (.z rfl (.z rfl (.z rfl (.q rfl (.pickF rfl rfl) (.nil (hK60 _ _ ?_))))))))))
     refine .condF rfl ?_
     refine .skip ?_
     refine hK59 _ _ (.region (.mv rfl ?_))
     refine .q rfl (.add rfl rfl rfl (by omega) (by omega)) ?_
     refine .mv rfl (.nil ?_)
     refine hKL5 ((z + 1, T2)) _ _ ?_ ?_ ⟨rfl, rfl, rfl, rfl, rfl, trivial⟩
     ·
      exact ⟨by omega, hS2⟩
     (dsimp only; omega)
    try simp only [sps] at h67
    refine .exit ?_
    refine hK55 _ _ (.region (.mv rfl ?_))
    refine .q rfl (.add rfl rfl rfl (by omega) (by omega)) ?_
    refine .mv rfl (.nil ?_)
    refine hKL4 ((y + 1, T)) _ _ ?_ ?_ ⟨rfl, rfl, rfl, rfl, trivial⟩
    ·
     exact ⟨by omega, hS⟩
    (dsimp only; omega)
   try simp only [sps] at h62
   refine .exit ?_
   refine hK51 _ _ (.region (.mv rfl ?_))
   refine .q rfl (.add rfl rfl rfl (by omega) (by omega)) ?_
   refine .mv rfl (.nil ?_)
   refine hKL3 ((x + 1, T)) _ _ ?_ ?_ ⟨rfl, rfl, rfl, trivial⟩
   ·
    exact ⟨by omega, hS⟩
   (dsimp only; omega)
  try simp only [sps] at h57
  refine .exit ?_
  refine hK47 _ _ (.seq (fun K61 hK61 => .region (.mv rfl (.mv rfl (.nil (hK61 _ _ ?_))))))
  refine .ret ?_
  refine hret _ _ ?_
  refine ⟨_, rfl, ?_⟩
  exact ⟨some ⟨gV, 0, none⟩, T, rr, by rw [hlen], hR.done a5 b5, by omega, fun k hk => by rw [hrow k hk]; omega, hst, hs⟩
end Go.Proofs.Ytolfggcanbpknaa
namespace Go.Proofs.Ytolfggcanbpknaa
open Go Go.GL Go.RowKit Go.Proofs
set_option maxHeartbeats 8000000 in
theorem l03Join_c {c d : Cat} {p q : CatP} {H : GHeap} (hin : c.In H p := by assumption) (hin1 : d.In H q := by assumption) (hc : c.Rect 4) (hd : d.Rect 8) :
    GCalls Try.prog 124 [.agg (c.cells p).toArray, .agg (d.cells q).toArray] H (NewRc 2 24 128 H) := by
  have c1 := hc.obj
  have d1 := hd.obj
  obtain ⟨E, hEq, hE⟩ : ∃ E, c.sum d = E ∧ E.Rect 12 := ⟨_, rfl, hc.sum hd⟩
  have hE0 : E.obj = c.obj + d.obj := by rw [← hEq]; rfl
  obtain ⟨e1, e2, e3, e4, e5, e6, e7, e8, e9, e10⟩ := id hE
  refine GCalls.body (N := 122) (rs := [.cell 4 27]) Try.func124 rfl rfl rfl rfl (fun Qx hret hend => ?_)
  refine .fg [0, 1] rfl ?_
  have hle := GHeap.Le.refl H
  have base_hin := hin
  have base_hin1 := hin1
  refine .seq (fun K1 hK1 => .region ?_)
  refine .R rfl (.boxR rfl sz_27_D rfl) ?_
  rintro _ H2 ⟨g2, rfl, le2, ge2, at2⟩
  replace hle := hle.trans le2
  have lt_at2 := GHeap.ltg at2
  replace hin := base_hin.mono hle
  have hb2 : Cat.At _ g2 0 c p := ⟨Mem.of_get at2, hin⟩
  refine .R rfl (.boxR rfl sz_27_D rfl) ?_
  rintro _ H3 ⟨g3, rfl, le3, ge3, at3⟩
  replace hle := hle.trans le3
  replace at2 := le3.2 _ _ at2
  have lt_at3 := GHeap.ltg at3
  replace hin := base_hin.mono hle
  replace hin1 := base_hin1.mono hle
  clear hb2
  have hb2 : Cat.At _ g2 0 c p := ⟨Mem.of_get at2, hin⟩
  have hb3 : Cat.At _ g3 0 d q := ⟨Mem.of_get at3, hin1⟩
  refine .R rfl (.allocR rfl ze_27_Hj rfl) ?_
  rintro _ H4 ⟨g4, rfl, le4, ge4, at4⟩
  have nx_H4 := le4.1
  replace hle := hle.trans le4
  replace at2 := le4.2 _ _ at2
  replace at3 := le4.2 _ _ at3
  have lt_at4 := GHeap.ltg at4
  replace hin := base_hin.mono hle
  replace hin1 := base_hin1.mono hle
  clear hb2
  have hb2 : Cat.At _ g2 0 c p := ⟨Mem.of_get at2, hin⟩
  have hi2 := hb2.2
  clear hb3
  have hb3 : Cat.At _ g3 0 d q := ⟨Mem.of_get at3, hin1⟩
  have hi3 := hb3.2
  refine .nil (hK1 _ _ (.seq (fun K2 hK2 => .region ?_)))
  refine .q rfl (.loadM ag_27_D rfl ⟨rfl, Mem.of_get at2⟩) ?_
  refine .q rfl (.loadM ag_27_D rfl ⟨rfl, Mem.of_get at3⟩) ?_
  refine .call rfl rfl rfl rfl @Try.call107 rfl (l03Sum_c (hc := hc.mono (by omega : 4 ≤ 8)) (hd := hd) (hN := by omega)) ?_
  rintro _ H16 hv
  rw [hEq] at hv
  obtain ⟨le16, gF, gT, gI, gC, rr, rfl, v16⟩ := hv
  have aF := v16.a1
  have aT := v16.a2
  have aI := v16.a3
  have aC := v16.a4
  have bF := v16.b1
  have bT := v16.b2
  have bI := v16.b3
  have bC := v16.b4
  have n12 := v16.n12
  have n13 := v16.n13
  have n23 := v16.n23
  have n4 := row_ne aC aF rfl
  have n5 := row_ne aC aT rfl
  have n6 := row_ne aC aI rfl
  have rk0 := St.refl [gF] H16
  replace hle := hle.trans le16
  replace at2 := le16.2 _ _ at2
  replace at3 := le16.2 _ _ at3
  replace at4 := le16.2 _ _ at4
  have lt_aF := GHeap.ltg aF
  have lt_aT := GHeap.ltg aT
  have lt_aI := GHeap.ltg aI
  have lt_aC := GHeap.ltg aC
  replace hin := base_hin.mono hle
  replace hin1 := base_hin1.mono hle
  clear hb2 hi2
  have hb2 : Cat.At _ g2 0 c p := ⟨Mem.of_get at2, hin⟩
  clear hb3 hi3
  have hb3 : Cat.At _ g3 0 d q := ⟨Mem.of_get at3, hin1⟩
  refine .R rfl (.allocR rfl ze_27_Hj rfl) ?_
  rintro _ H5 ⟨g5, rfl, le5, ge5, at5⟩
  have nx_H5 := le5.1
  replace hle := hle.trans le5
  replace rk0 := rk0.le le5
  replace at2 := le5.2 _ _ at2
  replace at3 := le5.2 _ _ at3
  replace at4 := le5.2 _ _ at4
  replace aF := le5.2 _ _ aF
  replace aT := le5.2 _ _ aT
  replace aI := le5.2 _ _ aI
  replace aC := le5.2 _ _ aC
  replace hin := base_hin.mono hle
  replace hin1 := base_hin1.mono hle
  clear hb2
  have hb2 : Cat.At _ g2 0 c p := ⟨Mem.of_get at2, hin⟩
  clear hb3
  have hb3 : Cat.At _ g3 0 d q := ⟨Mem.of_get at3, hin1⟩
  refine .r0 rfl rfl (.fillA rfl sz_27_D rfl rfl rfl rfl) ?_
  rintro _ H1004 ⟨rfl, st1004, at1004⟩
  have nx_H1004 := st1004.nx
  replace hle := hle.st st1004 (fun k hk => ⟨by omega, trivial⟩)
  replace rk0 := rk0.sA st1004
  have ne_g2_g5 : NE g2 g5 := .a
  replace at2 := st1004.s at2 ne_g2_g5.ne
  have ne_g3_g5 : NE g3 g5 := .a
  replace at3 := st1004.s at3 ne_g3_g5.ne
  have ne_g4_g5 : NE g4 g5 := .a
  replace at4 := st1004.s at4 ne_g4_g5.ne
  replace aF := st1004.s aF
  replace aT := st1004.s aT
  have ne_gI_g5 : NE gI g5 := .a
  replace aI := st1004.s aI ne_gI_g5.ne
  have ne_gC_g5 : NE gC g5 := .a
  replace aC := st1004.s aC ne_gC_g5.ne
  replace hin := base_hin.mono hle
  replace hin1 := base_hin1.mono hle
  clear hb2
  have hb2 : Cat.At _ g2 0 c p := ⟨Mem.of_get at2, hin⟩
  clear hb3
  have hb3 : Cat.At _ g3 0 d q := ⟨Mem.of_get at3, hin1⟩
  refine .nil (hK2 _ _ (.seq (fun K3 hK3 => .region (.q rfl (.fieldAddr fo_27_1_B rfl) ?_))))
  refine .q rfl (.load on_24_B rfl (by first | assumption | exact Mem.of_get at1004 1 _ rfl)) ?_
  refine .q rfl (.len sl_24_A rfl) (.mv rfl (.nil (hK3 _ _ (.seq (fun K4 hK4 => .seq (fun K5 hK5 => .region (.mv rfl (.nil (hK5 _ _ ?_)))))))))
  refine .block ?_
  refine .loopR (σ := Nat × List Int × List Int × Nat × Nat) [(2, some _), (3, some _), (4, some _), (5, some _), (6, some _)] (fun (x, ss, ts, gLF, gLT) => [(7, some (.int .i64 (x : Int)))]) (fun (x, ss, ts, gLF, gLT) H' => St [gF, gT, g5] H1004 H' ∧ H'.get gLF = some (.row (ints ss) 2 true) ∧ PL gLF gF H1004.next ∧ H'.get gLT = some (.row (ints ts) 2 true) ∧ PL gLT gT H1004.next ∧ H'.get g5 = some (.row ([.int .i64 E.obj, .slice (some ⟨gLF, 0, none⟩) ss.length ss.length, .slice (some ⟨gLT, 0, none⟩) ts.length ts.length, .slice (some ⟨gI, 0, none⟩) E.idn.length E.idn.length, .slice (some ⟨gC, 0, none⟩) E.comp.length E.comp.length]) 27 true) ∧ gLF ≠ gLT ∧ gLF ≠ g5 ∧ gLT ≠ g5 ∧ ((x : Int) ≤ c.obj ∧ E.src.length ≤ ss.length ∧ ss.length ≤ 12 + 8 * x ∧ ts.length = ss.length) ∧ Bd 0 12 ss ∧ Bd 0 12 ts ∧ OwnL H.next H' 2 rr E.comp ∧ (∀ j, j < E.comp.length → rr j ≠ some ⟨gLF, 0, none⟩) ∧ ∀ j, j < E.comp.length → rr j ≠ some ⟨gLT, 0, none⟩) (fun (x, ss, ts, gLF, gLT) => (c.obj - x : Int).toNat) ((0, E.src, E.tgt, gF, gT)) ⟨rfl, rfl, rfl, rfl, rfl, trivial⟩ ⟨rfl, trivial⟩ ?_ ?_
  ·
   refine ⟨.refl _ _, by assumption, ⟨.inl rfl⟩, by assumption, ⟨.inl rfl⟩, by assumption, by omega, by omega, by omega, ?_⟩
   exact ⟨⟨by omega, by omega, by omega, by omega⟩, e4, e5, (v16.rows.st rk0 (.cons v16.r1 (.nil _ _))).low (by omega), v16.r1, v16.r2⟩
  rintro ⟨x, ss, ts, gLF, gLT⟩ HL1 ⟨lst1, at_LF, pl_LF, at_LT, pl_LT, at_Lg5, ap1_0, ap1_1, ap1_2, hI⟩ KL1 hKL1
  refine .forget (fr' := [(7, some (.int .i64 (x : Int))), (2, some _), (3, some _), (4, some _), (5, some _), (6, some _)]) ⟨rfl, rfl, rfl, rfl, rfl, rfl, trivial⟩ ?_
  have ge_LF : H.next ≤ gLF := pl_LF.ge (by omega) (by omega)
  have ge_LT : H.next ≤ gLT := pl_LT.ge (by omega) (by omega)
  have nx_HL1 := lst1.nx
  replace hle := hle.st lst1 (fun k hk => ⟨by omega, by omega, by omega, trivial⟩)
  have ne_g2_gF : NE g2 gF := .a
  have ne_g2_gT : NE g2 gT := .a
  replace at2 := lst1.same _ _ ⟨ne_g2_gF.ne, ne_g2_gT.ne, ne_g2_g5.ne, trivial⟩ at2
  have ne_g3_gF : NE g3 gF := .a
  have ne_g3_gT : NE g3 gT := .a
  replace at3 := lst1.same _ _ ⟨ne_g3_gF.ne, ne_g3_gT.ne, ne_g3_g5.ne, trivial⟩ at3
  have ne_g4_gF : NE g4 gF := .a
  have ne_g4_gT : NE g4 gT := .a
  replace at4 := lst1.same _ _ ⟨ne_g4_gF.ne, ne_g4_gT.ne, ne_g4_g5.ne, trivial⟩ at4
  replace aI := lst1.same _ _ ⟨(by first | assumption | omega), (by first | assumption | omega), ne_gI_g5.ne, trivial⟩ aI
  replace aC := lst1.same _ _ ⟨(by first | assumption | omega), (by first | assumption | omega), ne_gC_g5.ne, trivial⟩ aC
  have lt_at_LF := GHeap.ltg at_LF
  have lt_at_LT := GHeap.ltg at_LT
  have lt_at_Lg5 := GHeap.ltg at_Lg5
  replace hin := base_hin.mono hle
  replace hin1 := base_hin1.mono hle
  clear hb2
  have hb2 : Cat.At _ g2 0 c p := ⟨Mem.of_get at2, hin⟩
  obtain ⟨c02, -, -, -, -, -, -, -, -⟩ := hb2.get
  clear hb3
  have hb3 : Cat.At _ g3 0 d q := ⟨Mem.of_get at3, hin1⟩
  obtain ⟨⟨hx, hsm, hs8, hts⟩, hS, hT, hR, hF1, hT1⟩ := hI
  refine .seq (fun K6 hK6 => .seq (fun K7 hK7 => .region (.mv rfl (.q rfl (.fieldAddr fo_27_0_B rfl) ?_))))
  refine .q rfl (.load on_2_A rfl (by first | assumption | exact Mem.of_get at2 0 _ rfl)) ?_
  refine .q rfl (.cmp rfl rfl rfl) (.nil (hK7 _ _ ?_))
  refine .cond rfl (fun h23 => ?_) (fun h23 => ?_)
  ·
   simp only [sps] at h23
   refine .skip ?_
   refine hK6 _ _ (.seq (fun K8 hK8 => ?_))
   refine .block ?_
   refine .seq (fun K9 hK9 => .region (.mv rfl (.nil (hK9 _ _ ?_))))
   refine .block ?_
   refine .loopR (σ := Nat × List Int × List Int × Nat × Nat) [(2, some _), (3, some _), (4, some _), (5, some _), (6, some _), (7, some _)] (fun (y, s2, t2, gLF2, gLT2) => [(8, some (.int .i64 (y : Int)))]) (fun (y, s2, t2, gLF2, gLT2) H' => St [gLF, gLT, g5] HL1 H' ∧ H'.get gLF2 = some (.row (ints s2) 2 true) ∧ PL gLF2 gLF HL1.next ∧ H'.get gLT2 = some (.row (ints t2) 2 true) ∧ PL gLT2 gLT HL1.next ∧ H'.get g5 = some (.row ([.int .i64 E.obj, .slice (some ⟨gLF2, 0, none⟩) s2.length s2.length, .slice (some ⟨gLT2, 0, none⟩) t2.length t2.length, .slice (some ⟨gI, 0, none⟩) E.idn.length E.idn.length, .slice (some ⟨gC, 0, none⟩) E.comp.length E.comp.length]) 27 true) ∧ gLF2 ≠ gLT2 ∧ gLF2 ≠ g5 ∧ gLT2 ≠ g5 ∧ ((y : Int) ≤ d.obj ∧ E.src.length ≤ s2.length ∧ s2.length ≤ 12 + 8 * x + y ∧ t2.length = s2.length) ∧ Bd 0 12 s2 ∧ Bd 0 12 t2 ∧ OwnL H.next H' 2 rr E.comp ∧ (∀ j, j < E.comp.length → rr j ≠ some ⟨gLF2, 0, none⟩) ∧ ∀ j, j < E.comp.length → rr j ≠ some ⟨gLT2, 0, none⟩) (fun (y, s2, t2, gLF2, gLT2) => (d.obj - y : Int).toNat) ((0, ss, ts, gLF, gLT)) ⟨rfl, rfl, rfl, rfl, rfl, rfl, trivial⟩ ⟨rfl, trivial⟩ ?_ ?_
   ·
    refine ⟨.refl _ _, by assumption, ⟨.inl rfl⟩, by assumption, ⟨.inl rfl⟩, by assumption, by omega, by omega, by omega, ?_⟩
    exact ⟨⟨by omega, by omega, by omega, by omega⟩, hS, hT, hR, hF1, hT1⟩
   rintro ⟨y, s2, t2, gLF2, gLT2⟩ HL2 ⟨lst2, at_LF2, pl_LF2, at_LT2, pl_LT2, at_Lg5, ap2_0, ap2_1, ap2_2, hI⟩ KL2 hKL2
   refine .forget (fr' := [(8, some (.int .i64 (y : Int))), (2, some _), (3, some _), (4, some _), (5, some _), (6, some _), (7, some _)]) ⟨rfl, rfl, rfl, rfl, rfl, rfl, rfl, trivial⟩ ?_
   have ge_LF2 : H.next ≤ gLF2 := pl_LF2.ge (by omega) (by omega)
   have ge_LT2 : H.next ≤ gLT2 := pl_LT2.ge (by omega) (by omega)
   have nx_HL2 := lst2.nx
   replace hle := hle.st lst2 (fun k hk => ⟨by omega, by omega, by omega, trivial⟩)
   replace lst1 := lst1.st lst2 (fun k hk ho => by simp only [out, and_true] at ho ⊢ <;> exact ⟨by first | exact ho | exact ho.1 | exact ho.2 | exact ho.2.1 | exact ho.2.2 | exact ho.2.2.1 | exact ho.2.2.2 | exact pl_LF.ne (by first | exact ho | exact ho.1 | exact ho.2 | exact ho.2.1 | exact ho.2.2 | exact ho.2.2.1 | exact ho.2.2.2 | omega) (by omega) | omega, by first | exact ho | exact ho.1 | exact ho.2 | exact ho.2.1 | exact ho.2.2 | exact ho.2.2.1 | exact ho.2.2.2 | exact pl_LT.ne (by first | exact ho | exact ho.1 | exact ho.2 | exact ho.2.1 | exact ho.2.2 | exact ho.2.2.1 | exact ho.2.2.2 | omega) (by omega) | omega, by first | exact ho | exact ho.1 | exact ho.2 | exact ho.2.1 | exact ho.2.2 | exact ho.2.2.1 | exact ho.2.2.2 | omega⟩)
   have ne_g2_gLF : NE g2 gLF := ⟨pl_LF.ne ne_g2_gF.ne (by omega)⟩
   have ne_g2_gLT : NE g2 gLT := ⟨pl_LT.ne ne_g2_gT.ne (by omega)⟩
   replace at2 := lst2.same _ _ ⟨ne_g2_gLF.ne, ne_g2_gLT.ne, ne_g2_g5.ne, trivial⟩ at2
   have ne_g3_gLF : NE g3 gLF := ⟨pl_LF.ne ne_g3_gF.ne (by omega)⟩
   have ne_g3_gLT : NE g3 gLT := ⟨pl_LT.ne ne_g3_gT.ne (by omega)⟩
   replace at3 := lst2.same _ _ ⟨ne_g3_gLF.ne, ne_g3_gLT.ne, ne_g3_g5.ne, trivial⟩ at3
   have lt_at_LT2 := GHeap.ltg at_LT2
   have lt_at_Lg5 := GHeap.ltg at_Lg5
   replace hin := base_hin.mono hle
   replace hin1 := base_hin1.mono hle
   clear hb2 c02
   have hb2 : Cat.At _ g2 0 c p := ⟨Mem.of_get at2, hin⟩
   clear hb3
   have hb3 : Cat.At _ g3 0 d q := ⟨Mem.of_get at3, hin1⟩
   obtain ⟨c03, -, -, -, -, -, -, -, -⟩ := hb3.get
   have rk := St.refl [gLF2, gLT2, g5] HL2
   obtain ⟨⟨hy, hsm, hs8, hts⟩, hS, hT, hR, hF1, hT1⟩ := hI
   have hat5 := at_Lg5
   refine .seq (fun K10 hK10 => .seq (fun K11 hK11 => .region (.mv rfl (.q rfl (.fieldAddr fo_27_0_B rfl) ?_))))
   refine .q rfl (.load on_2_A rfl (by first | assumption | exact Mem.of_get at3 0 _ rfl)) ?_
   refine .q rfl (.cmp rfl rfl rfl) (.nil (hK11 _ _ ?_))
   refine .cond rfl (fun h29 => ?_) (fun h29 => ?_)
   ·
    simp only [sps] at h29
    refine .skip ?_
    refine hK10 _ _ (.seq (fun K12 hK12 => ?_))
    refine .block ?_
    refine .seq (fun K13 hK13 => .region (.q rfl (.fieldAddr fo_27_1_B rfl) ?_))
    refine .q rfl (.load on_24_B rfl (by first | assumption | exact Mem.of_get at_Lg5 1 _ rfl)) ?_
    refine .mv rfl ?_
    refine .R rfl (.litA rfl sl_24_A ze_2_L rfl rfl rfl rfl) ?_
    rintro _ H35 ⟨g35, rfl, le35, ge35, at35⟩
    replace hle := hle.trans le35
    replace lst2 := lst2.le le35
    replace rk := rk.le le35
    replace at2 := le35.2 _ _ at2
    replace at3 := le35.2 _ _ at3
    replace at_LF2 := le35.2 _ _ at_LF2
    replace at_LT2 := le35.2 _ _ at_LT2
    replace at_Lg5 := le35.2 _ _ at_Lg5
    have lt_at35 := GHeap.ltg at35
    replace hin := base_hin.mono hle
    replace hin1 := base_hin1.mono hle
    clear hb2
    have hb2 : Cat.At _ g2 0 c p := ⟨Mem.of_get at2, hin⟩
    clear hb3 c03
    have hb3 : Cat.At _ g3 0 d q := ⟨Mem.of_get at3, hin1⟩
    refine .R rfl (.appendI rfl sl_24_A ze_2_L rfl by_2_L sl_24_A rfl rfl (by assumption) (by assumption) (by first | omega | (simp <;> omega)) (by omega) (by omega)) ?_
    rintro _ H36 ⟨g36, rfl, st36, ge36, at36⟩
    replace hle := hle.st st36 (fun k hk => ⟨by omega, trivial⟩)
    replace lst2 := lst2.sQ st36
    replace rk := rk.sQ st36
    replace at2 := st36.same _ _ ⟨(pl_LF2.ne ne_g2_gLF.ne (by omega)), trivial⟩ at2
    replace at3 := st36.same _ _ ⟨(pl_LF2.ne ne_g3_gLF.ne (by omega)), trivial⟩ at3
    replace at_LT2 := st36.same _ _ ⟨(Ne.symm ap2_0), trivial⟩ at_LT2
    replace at_Lg5 := st36.same _ _ ⟨(Ne.symm ap2_1), trivial⟩ at_Lg5
    have lt_at36 := GHeap.ltg at36
    replace hin := base_hin.mono hle
    replace hin1 := base_hin1.mono hle
    clear hb2
    have hb2 : Cat.At _ g2 0 c p := ⟨Mem.of_get at2, hin⟩
    clear hb3
    have hb3 : Cat.At _ g3 0 d q := ⟨Mem.of_get at3, hin1⟩
    refine .q rfl (.fieldAddr fo_27_1_B rfl) ?_
    refine .r0 rfl rfl (.storeR rfl sz_24_Ch rfl rfl rfl (by assumption) (by first | exact Nat.le_of_ble_eq_true rfl | (simp; done) | (simp <;> omega))) ?_
    rintro _ H9006 ⟨rfl, st9006, at9006⟩
    have nx_H9006 := st9006.nx
    replace hle := hle.st st9006 (fun k hk => ⟨by omega, trivial⟩)
    replace lst2 := lst2.sA st9006
    replace rk := rk.sA st9006
    replace at2 := st9006.s at2 ne_g2_g5.ne
    replace at3 := st9006.s at3 ne_g3_g5.ne
    replace at_LT2 := st9006.same _ _ ⟨ap2_2, trivial⟩ at_LT2
    have ne_g36_g5 : NE g36 g5 := .a
    replace at36 := st9006.s at36 ne_g36_g5.ne
    have lt_at9006 := GHeap.ltg at9006
    replace hin := base_hin.mono hle
    replace hin1 := base_hin1.mono hle
    clear hb2
    have hb2 : Cat.At _ g2 0 c p := ⟨Mem.of_get at2, hin⟩
    obtain ⟨c02, -, -, -, -, -, -, -, -⟩ := hb2.get
    clear hb3
    have hb3 : Cat.At _ g3 0 d q := ⟨Mem.of_get at3, hin1⟩
    try simp only [Nat.zero_add, List.set_cons_succ, List.set_cons_zero] at at9006
    refine .nil (hK13 _ _ (.region (.q rfl (.fieldAddr fo_27_2_B rfl) ?_)))
    refine .q rfl (.load on_24_B rfl (by first | assumption | exact Mem.of_get at9006 2 _ rfl)) ?_
    refine .q rfl (.fieldAddr fo_27_0_B rfl) ?_
    refine .q rfl (.load on_2_A rfl (by first | assumption | exact Mem.of_get at2 0 _ rfl)) ?_
    refine .mv rfl ?_
    refine .q rfl (.add rfl rfl rfl (by omega) (by omega)) ?_
    refine .R rfl (.litA rfl sl_24_A ze_2_L rfl rfl rfl rfl) ?_
    rintro _ H44 ⟨g44, rfl, le44, ge44, at44⟩
    replace hle := hle.trans le44
    replace lst2 := lst2.le le44
    replace rk := rk.le le44
    replace at2 := le44.2 _ _ at2
    replace at3 := le44.2 _ _ at3
    replace at_LT2 := le44.2 _ _ at_LT2
    replace at36 := le44.2 _ _ at36
    replace at9006 := le44.2 _ _ at9006
    have lt_at44 := GHeap.ltg at44
    replace hin := base_hin.mono hle
    replace hin1 := base_hin1.mono hle
    clear hb2 c02
    have hb2 : Cat.At _ g2 0 c p := ⟨Mem.of_get at2, hin⟩
    clear hb3
    have hb3 : Cat.At _ g3 0 d q := ⟨Mem.of_get at3, hin1⟩
    refine .R rfl (.appendI rfl sl_24_A ze_2_L rfl by_2_L sl_24_A rfl rfl (by assumption) (by assumption) (by first | omega | (simp <;> omega)) (by omega) (by omega)) ?_
    rintro _ H45 ⟨g45, rfl, st45, ge45, at45⟩
    replace hle := hle.st st45 (fun k hk => ⟨by omega, trivial⟩)
    replace lst2 := lst2.sQ st45
    replace rk := rk.sQ st45
    replace at2 := st45.same _ _ ⟨(pl_LT2.ne ne_g2_gLT.ne (by omega)), trivial⟩ at2
    replace at3 := st45.same _ _ ⟨(pl_LT2.ne ne_g3_gLT.ne (by omega)), trivial⟩ at3
    replace at36 := st45.s at36
    replace at9006 := st45.same _ _ ⟨(Ne.symm ap2_2), trivial⟩ at9006
    replace hin := base_hin.mono hle
    replace hin1 := base_hin1.mono hle
    clear hb2
    have hb2 : Cat.At _ g2 0 c p := ⟨Mem.of_get at2, hin⟩
    clear hb3
    have hb3 : Cat.At _ g3 0 d q := ⟨Mem.of_get at3, hin1⟩
    refine .q rfl (.fieldAddr fo_27_2_B rfl) ?_
    refine .r0 rfl rfl (.storeR rfl sz_24_Ch rfl rfl rfl (by assumption) (by first | exact Nat.le_of_ble_eq_true rfl | (simp; done) | (simp <;> omega))) ?_
    rintro _ H10009 ⟨rfl, st10009, at10009⟩
    replace hle := hle.st st10009 (fun k hk => ⟨by omega, trivial⟩)
    replace lst2 := lst2.sA st10009
    replace rk := rk.sA st10009
    replace at2 := st10009.s at2 ne_g2_g5.ne
    replace at3 := st10009.s at3 ne_g3_g5.ne
    replace at36 := st10009.s at36 ne_g36_g5.ne
    replace at45 := st10009.s at45
    replace hin := base_hin.mono hle
    replace hin1 := base_hin1.mono hle
    clear hb2
    have hb2 : Cat.At _ g2 0 c p := ⟨Mem.of_get at2, hin⟩
    clear hb3
    have hb3 : Cat.At _ g3 0 d q := ⟨Mem.of_get at3, hin1⟩
    try simp only [Nat.zero_add, List.set_cons_succ, List.set_cons_zero] at at10009
    refine .nil (hK12 _ _ (.region (.mv rfl ?_)))
    refine .q rfl (.add rfl rfl rfl (by omega) (by omega)) ?_
    refine .mv rfl (.nil ?_)
    refine hKL2 ((y + 1, s2 ++ [(x : Int)], t2 ++ [c.obj + (y : Int)], g36, g45)) _ _ ?_ ?_ ⟨rfl, rfl, rfl, rfl, rfl, rfl, rfl, trivial⟩
    ·
     refine ⟨lst2, by assumption, by exact ⟨.inr (by omega)⟩, by assumption, by exact ⟨.inr (by omega)⟩, by (rw [List.length_append, List.length_append]; assumption), by omega, by omega, by omega, ?_⟩
     have hR' := hR.st rk (.cons hF1 (.cons hT1 (.cons (hR.neT hat5 rfl) (.nil _ _))))
     exact ⟨⟨by omega, by simp; omega, by simp; omega, by simp; omega⟩, hS.snoc (by omega) (by omega), hT.snoc (by omega) (by omega), hR', hR.ne (by omega), hR.ne (by omega)⟩
    (dsimp only; omega)
   try simp only [sps] at h29
   refine .exit ?_
   refine hK8 _ _ (.region (.mv rfl ?_))
   refine .q rfl (.add rfl rfl rfl (by omega) (by omega)) ?_
   refine .mv rfl (.nil ?_)
   refine hKL1 ((x + 1, s2, t2, gLF2, gLT2)) _ _ ?_ ?_ ⟨rfl, rfl, rfl, rfl, rfl, rfl, trivial⟩
   ·
    refine ⟨lst1, by assumption, by exact pl_LF2.trans pl_LF (by omega), by assumption, by exact pl_LT2.trans pl_LT (by omega), by assumption, by assumption, by assumption, by assumption, ?_⟩
    exact ⟨⟨by omega, by omega, by omega, by omega⟩, hS, hT, hR, hF1, hT1⟩
   (dsimp only; omega)
  try simp only [sps] at h23
  refine .exit ?_
  refine hK4 _ _ (.seq (fun K14 hK14 => .region ?_))
  have ltI := GHeap.ltg aI
  refine .R rfl (.litA rfl sl_25_B ze_24_Hj rfl rfl rfl rfl) ?_
  rintro _ H47 ⟨g47, rfl, le47, ge47, at47⟩
  have nx_H47 := le47.1
  replace hle := hle.trans le47
  replace at2 := le47.2 _ _ at2
  replace at3 := le47.2 _ _ at3
  replace at4 := le47.2 _ _ at4
  replace aI := le47.2 _ _ aI
  replace aC := le47.2 _ _ aC
  replace at_LF := le47.2 _ _ at_LF
  replace at_LT := le47.2 _ _ at_LT
  replace at_Lg5 := le47.2 _ _ at_Lg5
  have lt_at47 := GHeap.ltg at47
  replace hin := base_hin.mono hle
  replace hin1 := base_hin1.mono hle
  have hb2 : Cat.At _ g2 0 c p := ⟨Mem.of_get at2, hin⟩
  have hb3 : Cat.At _ g3 0 d q := ⟨Mem.of_get at3, hin1⟩
  refine .mv rfl (.nil (hK14 _ _ (.seq (fun K15 hK15 => .seq (fun K16 hK16 => .region (.mv rfl (.nil (hK16 _ _ ?_))))))))
  refine .block ?_
  refine .loopR (σ := Nat × (Nat → Option Addr) × List (List Int) × Nat × Nat) [(2, some _), (3, some _), (4, some _), (5, some _), (6, some _)] (fun (f, rq, cs, gL9, nL9) => [(10, some (.int .i64 (f : Int))), (9, some (.slice (some ⟨gL9, 0, none⟩) nL9 nL9))]) (fun (f, rq, cs, gL9, nL9) H' => St [g47] H47 H' ∧ H'.get gL9 = some (.row ((slsL rq cs)) 24 true) ∧ PL gL9 g47 H47.next ∧ nL9 = (slsL rq cs).length ∧ (f ≤ ss.length ∧ cs.length = f) ∧ Tb (-60) 120 ss.length cs ∧ OwnL H.next H' 2 rr E.comp ∧ OwnL H47.next H' 2 rq cs) (fun (f, rq, cs, gL9, nL9) => ss.length - f) ((0, fun _ => none, [], _, _)) ⟨rfl, rfl, rfl, rfl, rfl, trivial⟩ ⟨rfl, rfl, trivial⟩ ?_ ?_
  ·
   refine ⟨.refl _ _, by assumption, ⟨.inl rfl⟩, by rfl, ?_⟩
   exact ⟨⟨by omega, rfl⟩, .nil _ _ _, hR.keep (.of_le (by assumption)), .nil _ _ _ _⟩
  rintro ⟨f, rq, cs, gL9, nL9⟩ HL3 ⟨lst3, at_L9, pl_L9, ln_L9, hI⟩ KL3 hKL3
  refine .forget (fr' := [(10, some (.int .i64 (f : Int))), (9, some (.slice (some ⟨gL9, 0, none⟩) nL9 nL9)), (2, some _), (3, some _), (4, some _), (5, some _), (6, some _)]) ⟨rfl, rfl, rfl, rfl, rfl, rfl, rfl, trivial⟩ ?_
  have ge_L9 : H.next ≤ gL9 := pl_L9.ge (by omega) (by omega)
  have nx_HL3 := lst3.nx
  replace hle := hle.st lst3 (fun k hk => ⟨by omega, trivial⟩)
  have ne_g2_g47 : NE g2 g47 := .a
  replace at2 := lst3.s at2 ne_g2_g47.ne
  have ne_g3_g47 : NE g3 g47 := .a
  replace at3 := lst3.s at3 ne_g3_g47.ne
  have ne_g4_g47 : NE g4 g47 := .a
  replace at4 := lst3.s at4 ne_g4_g47.ne
  replace aI := lst3.s aI
  replace aC := lst3.s aC
  replace at_LF := lst3.s at_LF
  replace at_LT := lst3.s at_LT
  have ne_g5_g47 : NE g5 g47 := .a
  replace at_Lg5 := lst3.s at_Lg5 ne_g5_g47.ne
  have lt_at_L9 := GHeap.ltg at_L9
  replace hin := base_hin.mono hle
  replace hin1 := base_hin1.mono hle
  clear hb2
  have hb2 : Cat.At _ g2 0 c p := ⟨Mem.of_get at2, hin⟩
  clear hb3
  have hb3 : Cat.At _ g3 0 d q := ⟨Mem.of_get at3, hin1⟩
  have rk := St.refl [gL9] HL3
  obtain ⟨⟨hf, hcl⟩, hC, hR, hQ⟩ := hI
  have hat9 := at_L9
  have hfl : (slsL rq cs).length = cs.length := length_slsL _ _
  refine .seq (fun K17 hK17 => .seq (fun K18 hK18 => .region (.mv rfl (.q rfl (.fieldAddr fo_27_1_B rfl) ?_))))
  refine .q rfl (.load on_24_B rfl (by first | assumption | exact Mem.of_get at_Lg5 1 _ rfl)) ?_
  refine .q rfl (.len sl_24_A rfl) (.q rfl (.cmp rfl rfl rfl) (.nil (hK18 _ _ ?_)))
  refine .cond rfl (fun h52 => ?_) (fun h52 => ?_)
  ·
   simp only [sps] at h52
   have q1 := hS f (by omega)
   have m1 := mul_bdg (a := ss.getD f 0) (b := d.obj) (A := 12) (B := 8) (by omega) (by omega)
   refine .skip ?_
   refine hK17 _ _ (.seq (fun K19 hK19 => ?_))
   refine .block ?_
   refine .seq (fun K20 hK20 => .region ?_)
   refine .R rfl (.litA rfl sl_24_A ze_2_L rfl rfl rfl rfl) ?_
   rintro _ H55 ⟨g55, rfl, le55, ge55, at55⟩
   have nx_H55 := le55.1
   replace hle := hle.trans le55
   replace lst3 := lst3.le le55
   replace rk := rk.le le55
   replace at2 := le55.2 _ _ at2
   replace at3 := le55.2 _ _ at3
   replace aC := le55.2 _ _ aC
   replace at_LF := le55.2 _ _ at_LF
   replace at_LT := le55.2 _ _ at_LT
   replace at_Lg5 := le55.2 _ _ at_Lg5
   replace at_L9 := le55.2 _ _ at_L9
   have lt_at55 := GHeap.ltg at55
   replace hin := base_hin.mono hle
   replace hin1 := base_hin1.mono hle
   clear hb2
   have hb2 : Cat.At _ g2 0 c p := ⟨Mem.of_get at2, hin⟩
   clear hb3
   have hb3 : Cat.At _ g3 0 d q := ⟨Mem.of_get at3, hin1⟩
   replace at55 : GHeap.get H55 g55 = some (.row (ints []) 2 true) := at55
   refine .mv rfl (.nil (hK20 _ _ (.seq (fun K21 hK21 => .seq (fun K22 hK22 => .region (.mv rfl (.nil (hK22 _ _ ?_))))))))
   refine .block ?_
   refine .loopR (σ := Nat × List Int × Nat × Nat) [(2, some _), (3, some _), (4, some _), (5, some _), (6, some _), (9, some _), (10, some _)] (fun (g, row, gL11, nL11) => [(12, some (.int .i64 (g : Int))), (11, some (.slice (some ⟨gL11, 0, none⟩) nL11 nL11))]) (fun (g, row, gL11, nL11) H' => St [g55] H55 H' ∧ H'.get gL11 = some (.row (ints row) 2 true) ∧ PL gL11 g55 H55.next ∧ nL11 = row.length ∧ (g ≤ ss.length ∧ row.length = g) ∧ Bd (-60) 120 row) (fun (g, row, gL11, nL11) => ss.length - g) ((0, [], _, _)) ⟨rfl, rfl, rfl, rfl, rfl, rfl, rfl, trivial⟩ ⟨rfl, rfl, trivial⟩ ?_ ?_
   ·
    refine ⟨.refl _ _, by assumption, ⟨.inl rfl⟩, by rfl, ?_⟩
    exact ⟨⟨by omega, rfl⟩, .nil _ _⟩
   rintro ⟨g, row, gL11, nL11⟩ HL4 ⟨lst4, at_L11, pl_L11, ln_L11, hI⟩ KL4 hKL4
   refine .forget (fr' := [(12, some (.int .i64 (g : Int))), (11, some (.slice (some ⟨gL11, 0, none⟩) nL11 nL11)), (2, some _), (3, some _), (4, some _), (5, some _), (6, some _), (9, some _), (10, some _)]) ⟨rfl, rfl, rfl, rfl, rfl, rfl, rfl, rfl, rfl, trivial⟩ ?_
   have ge_L11 : H.next ≤ gL11 := pl_L11.ge (by omega) (by omega)
   have nx_HL4 := lst4.nx
   replace hle := hle.st lst4 (fun k hk => ⟨by omega, trivial⟩)
   replace lst3 := lst3.sA lst4
   replace rk := rk.sA lst4
   have ne_g2_g55 : NE g2 g55 := .a
   replace at2 := lst4.s at2 ne_g2_g55.ne
   have ne_g3_g55 : NE g3 g55 := .a
   replace at3 := lst4.s at3 ne_g3_g55.ne
   replace aC := lst4.s aC
   replace at_LF := lst4.s at_LF
   replace at_LT := lst4.s at_LT
   replace at_Lg5 := lst4.s at_Lg5
   have ne_gL9_g55 : NE gL9 g55 := .a
   replace at_L9 := lst4.s at_L9 ne_gL9_g55.ne
   replace hin := base_hin.mono hle
   replace hin1 := base_hin1.mono hle
   clear hb2
   have hb2 : Cat.At _ g2 0 c p := ⟨Mem.of_get at2, hin⟩
   obtain ⟨c02, -, -, -, -, -, -, -, -⟩ := hb2.get
   clear hb3
   have hb3 : Cat.At _ g3 0 d q := ⟨Mem.of_get at3, hin1⟩
   obtain ⟨c03, -, -, -, -, -, -, -, -⟩ := hb3.get
   obtain ⟨⟨hg, hrl⟩, hW⟩ := hI
   refine .seq (fun K23 hK23 => .seq (fun K24 hK24 => .region (.mv rfl (.q rfl (.fieldAddr fo_27_1_B rfl) ?_))))
   refine .q rfl (.load on_24_B rfl (by first | assumption | exact Mem.of_get at_Lg5 1 _ rfl)) ?_
   refine .q rfl (.len sl_24_A rfl) (.q rfl (.cmp rfl rfl rfl) (.nil (hK24 _ _ ?_)))
   refine .cond rfl (fun h60 => ?_) (fun h60 => ?_)
   ·
    simp only [sps] at h60
    have q4 := hT g (by omega)
    refine .skip ?_
    refine hK23 _ _ (.seq (fun K25 hK25 => ?_))
    refine .block ?_
    refine .seq (fun K26 hK26 => .region (.mv rfl (.nil (hK26 _ _ (.seq (fun K27 hK27 => ?_))))))
    refine .block ?_
    refine .seq (fun K28 hK28 => ?_)
    refine .regionD mo_B (.q 0 (.q 1 (.q 2 (.q 3 (.q 4 (.q 5 (.q 6 (.q 7 (.q 8 (.q 9 (.q 10 (.q 11 (.done))))))))))))) (by kernel_rfl) ?_
    refine .q rfl (.fieldAddr fo_27_2_B rfl) ?_
    refine .q rfl (.load on_24_B rfl (by first | assumption | exact Mem.of_get at_Lg5 2 _ rfl)) ?_
    refine .mv rfl rfl ?_
    refine .q rfl (.idxN sl_24_A (by first | assumption | exact SlA.of_row at_LT (by first | rfl | (simp; done) | (simp <;> omega))) rfl rfl (by omega)) ?_
    refine .q rfl (.loadI on_2_A (by first | assumption | exact Ints.of_get at_LT) rfl (by omega)) ?_
    refine .q rfl (.fieldAddr fo_27_1_B rfl) ?_
    refine .q rfl (.load on_24_B rfl (by first | assumption | exact Mem.of_get at_Lg5 1 _ rfl)) ?_
    refine .mv rfl rfl ?_
    refine .q rfl (.idxN sl_24_A (by first | assumption | exact SlA.of_row at_LF (by first | rfl | (simp; done) | (simp <;> omega))) rfl rfl (by omega)) ?_
    refine .q rfl (.loadI on_2_A (by first | assumption | exact Ints.of_get at_LF) rfl (by omega)) ?_
    refine .q rfl (.cmp rfl rfl rfl) (.mv rfl rfl ?_)
    refine .done ?_
    refine hK28 _ _ ?_
    refine .cond rfl (fun h82 => ?_) (fun h82 => ?_)
    ·
     obtain ⟨h3, hh3, n3⟩ : ∃ h3 : Int, h3 = -1 ∧ -60 ≤ h3 ∧ h3 ≤ 120 := ⟨_, rfl, by omega, by omega⟩
     refine .skip ?_
     refine hK27 _ _ (.region (.mv rfl (.mv rfl ?_)))
     refine .R rfl (.litA rfl sl_24_A ze_2_L rfl rfl rfl rfl) ?_
     rintro _ H113 ⟨g113, rfl, le113, ge113, at113⟩
     replace hle := hle.trans le113
     replace lst4 := lst4.le le113
     replace at2 := le113.2 _ _ at2
     replace at3 := le113.2 _ _ at3
     replace at_L11 := le113.2 _ _ at_L11
     have lt_at113 := GHeap.ltg at113
     replace hin := base_hin.mono hle
     replace hin1 := base_hin1.mono hle
     clear hb2 c02
     have hb2 : Cat.At _ g2 0 c p := ⟨Mem.of_get at2, hin⟩
     clear hb3 c03
     have hb3 : Cat.At _ g3 0 d q := ⟨Mem.of_get at3, hin1⟩
     refine .R rfl (.appendI rfl sl_24_A ze_2_L rfl by_2_L sl_24_A rfl rfl (by assumption) (by assumption) (by first | omega | (simp <;> omega)) (by omega) (by omega)) ?_
     rintro _ H114 ⟨g114, rfl, st114, ge114, at114⟩
     replace hle := hle.st st114 (fun k hk => ⟨by omega, trivial⟩)
     replace lst4 := lst4.sP st114
     have ne_g2_gL11 : NE g2 gL11 := ⟨pl_L11.ne ne_g2_g55.ne (by omega)⟩
     replace at2 := st114.s at2 ne_g2_gL11.ne
     have ne_g3_gL11 : NE g3 gL11 := ⟨pl_L11.ne ne_g3_g55.ne (by omega)⟩
     replace at3 := st114.s at3 ne_g3_gL11.ne
     replace hin := base_hin.mono hle
     replace hin1 := base_hin1.mono hle
     clear hb2
     have hb2 : Cat.At _ g2 0 c p := ⟨Mem.of_get at2, hin⟩
     clear hb3
     have hb3 : Cat.At _ g3 0 d q := ⟨Mem.of_get at3, hin1⟩
     refine .mv rfl (.nil (hK25 _ _ (.region (.mv rfl ?_))))
     refine .q rfl (.add rfl rfl rfl (by omega) (by omega)) ?_
     refine .mv rfl (.nil ?_)
     refine hKL4 ((g + 1, row ++ [h3], _, _)) _ _ ?_ ?_ ⟨rfl, rfl, rfl, rfl, rfl, rfl, rfl, rfl, rfl, trivial⟩
     ·
      refine ⟨lst4, by (rw [hh3]; assumption), by exact ⟨.inr (by omega)⟩, by (simp only [List.length_append, List.length_cons, List.length_nil] <;> omega), ?_⟩
      exact ⟨⟨by omega, by simp; omega⟩, hW.snoc (by omega) (by omega)⟩
     (dsimp only; omega)
    try simp only [sps] at h82
    refine .seq (fun K29 hK29 => .region (.mv rfl (.mv rfl (.q rfl (.cmp rfl rfl rfl) (.mv rfl ?_)))))
    refine .split (fun h98 => ?_) (fun h98 => ?_)
    ·
     simp only [sps] at h98
     refine .qg rfl (.move rfl) (.qg rfl (.move rfl) (.qg rfl (.cmp rfl rfl rfl) (.q rfl (.pickT rfl rfl) (.mv rfl (.nil (hK29 _ _ ?_))))))
     refine .cond rfl (fun h94 => ?_) (fun h94 => ?_)
     ·
      simp only [sps] at h94
      have n1 := e10 f (by omega) g (by omega)
      have n2 := e9 f (by omega)
      obtain ⟨h3, hh3, n3⟩ : ∃ h3 : Int, h3 = (E.comp.getD f []).getD g 0 ∧ -60 ≤ h3 ∧ h3 ≤ 120 := ⟨_, rfl, by omega, by omega⟩
      refine .region ?_
      have iE := (hR.st rk (.cons (hR.neT hat9 rfl) (.nil _ _))).intss aC (by omega)
      have u1 := iE.2 f (by omega)
      refine .q rfl (.fieldAddr fo_27_4_B rfl) ?_
      refine .q rfl (.load on_25_B rfl (by first | assumption | exact Mem.of_get at_Lg5 4 _ rfl)) ?_
      refine .mv rfl ?_
      refine .q rfl (.idxN sl_25_B (by first | exact (Intss.sl (by assumption)) | exact SlA.of_row aC (by first | rfl | (simp; done) | (simp <;> omega))) rfl rfl (by omega)) ?_
      refine .q rfl (.loadR on_24_B (by assumption) rfl (by omega)) ?_
      refine .mv rfl ?_
      refine .q rfl (.idxN sl_24_A (by assumption) rfl rfl (by omega)) ?_
      refine .q rfl (.loadI on_2_A (by assumption) rfl (by omega)) ?_
      refine .mv rfl (.nil (hK27 _ _ (.region (.mv rfl (.mv rfl ?_)))))
      refine .R rfl (.litA rfl sl_24_A ze_2_L rfl rfl rfl rfl) ?_
      rintro _ H113x2 ⟨g113x2, rfl, le113x2, ge113x2, at113x2⟩
      replace hle := hle.trans le113x2
      replace lst4 := lst4.le le113x2
      replace at2 := le113x2.2 _ _ at2
      replace at3 := le113x2.2 _ _ at3
      replace at_L11 := le113x2.2 _ _ at_L11
      have lt_at113x2 := GHeap.ltg at113x2
      replace hin := base_hin.mono hle
      replace hin1 := base_hin1.mono hle
      have hb2 : Cat.At _ g2 0 c p := ⟨Mem.of_get at2, hin⟩
      have hb3 : Cat.At _ g3 0 d q := ⟨Mem.of_get at3, hin1⟩
      refine .R rfl (.appendI rfl sl_24_A ze_2_L rfl by_2_L sl_24_A rfl rfl (by assumption) (by assumption) (by first | omega | (simp <;> omega)) (by omega) (by omega)) ?_
      rintro _ H114x2 ⟨g114x2, rfl, st114x2, ge114x2, at114x2⟩
      replace hle := hle.st st114x2 (fun k hk => ⟨by omega, trivial⟩)
      replace lst4 := lst4.sP st114x2
      have ne_g2_gL11 : NE g2 gL11 := ⟨pl_L11.ne ne_g2_g55.ne (by omega)⟩
      replace at2 := st114x2.s at2 ne_g2_gL11.ne
      have ne_g3_gL11 : NE g3 gL11 := ⟨pl_L11.ne ne_g3_g55.ne (by omega)⟩
      replace at3 := st114x2.s at3 ne_g3_gL11.ne
      replace hin := base_hin.mono hle
      replace hin1 := base_hin1.mono hle
      clear hb2
      have hb2 : Cat.At _ g2 0 c p := ⟨Mem.of_get at2, hin⟩
      clear hb3
      have hb3 : Cat.At _ g3 0 d q := ⟨Mem.of_get at3, hin1⟩
      refine .mv rfl (.nil (hK25 _ _ (.region (.mv rfl ?_))))
      refine .q rfl (.add rfl rfl rfl (by omega) (by omega)) ?_
      refine .mv rfl (.nil ?_)
      refine hKL4 ((g + 1, row ++ [h3], _, _)) _ _ ?_ ?_ ⟨rfl, rfl, rfl, rfl, rfl, rfl, rfl, rfl, rfl, trivial⟩
      ·
       refine ⟨lst4, by (rw [hh3]; assumption), by exact ⟨.inr (by omega)⟩, by (simp only [List.length_append, List.length_cons, List.length_nil] <;> omega), ?_⟩
       exact ⟨⟨by omega, by simp; omega⟩, hW.snoc (by omega) (by omega)⟩
      (dsimp only; omega)
     obtain ⟨h3, hh3, n3⟩ : ∃ h3 : Int, h3 = (E.src.length : Int) + ss.getD f 0 * d.obj + ts.getD g 0 - c.obj ∧ -60 ≤ h3 ∧ h3 ≤ 120 := ⟨_, rfl, by omega, by omega⟩
     refine .regionD mo_B (.q 0 (.q 1 (.q 2 (.q 3 (.q 4 (.q 5 (.q 6 (.q 7 (.q 8 (.q 9 (.q 10 (.q 11 (.q 12 (.q 13 (.q 14 (.q 15 (.q 16 (.q 17 (.q 18 (.q 19 (.done))))))))))))))))))))) (by kernel_rfl) ?_
     refine .mv rfl rfl (.q rfl (.fieldAddr fo_27_1_B rfl) ?_)
     refine .q rfl (.load on_24_B rfl (by first | assumption | exact Mem.of_get at_Lg5 1 _ rfl)) ?_
     refine .mv rfl rfl ?_
     refine .q rfl (.idxN sl_24_A (by first | assumption | exact SlA.of_row at_LF (by first | rfl | (simp; done) | (simp <;> omega))) rfl rfl (by omega)) ?_
     refine .q rfl (.loadI on_2_A (by first | assumption | exact Ints.of_get at_LF) rfl (by omega)) ?_
     refine .q rfl (.fieldAddr fo_27_0_B rfl) ?_
     refine .q rfl (.load on_2_A rfl (by first | assumption | exact Mem.of_get at3 0 _ rfl)) ?_
     refine .q rfl (.mul rfl rfl rfl (by omega) (by omega)) ?_
     refine .q rfl (.add rfl rfl rfl (by omega) (by omega)) ?_
     refine .q rfl (.fieldAddr fo_27_2_B rfl) ?_
     refine .q rfl (.load on_24_B rfl (by first | assumption | exact Mem.of_get at_Lg5 2 _ rfl)) ?_
     refine .mv rfl rfl ?_
     refine .q rfl (.idxN sl_24_A (by first | assumption | exact SlA.of_row at_LT (by first | rfl | (simp; done) | (simp <;> omega))) rfl rfl (by omega)) ?_
     refine .q rfl (.loadI on_2_A (by first | assumption | exact Ints.of_get at_LT) rfl (by omega)) ?_
     refine .q rfl (.add rfl rfl rfl (by omega) (by omega)) ?_
     refine .q rfl (.fieldAddr fo_27_0_B rfl) ?_
     refine .q rfl (.load on_2_A rfl (by first | assumption | exact Mem.of_get at2 0 _ rfl)) ?_
     refine .q rfl (.sub rfl rfl rfl (by omega) (by omega)) ?_
     refine .mv rfl rfl ?_
     refine .done ?_
     refine hK27 _ _ (.region (.mv rfl (.mv rfl ?_)))
     refine .R rfl (.litA rfl sl_24_A ze_2_L rfl rfl rfl rfl) ?_
     rintro _ H113x3 ⟨g113x3, rfl, le113x3, ge113x3, at113x3⟩
     replace hle := hle.trans le113x3
     replace lst4 := lst4.le le113x3
     replace at2 := le113x3.2 _ _ at2
     replace at3 := le113x3.2 _ _ at3
     replace at_L11 := le113x3.2 _ _ at_L11
     have lt_at113x3 := GHeap.ltg at113x3
     replace hin := base_hin.mono hle
     replace hin1 := base_hin1.mono hle
     have hb2 : Cat.At _ g2 0 c p := ⟨Mem.of_get at2, hin⟩
     have hb3 : Cat.At _ g3 0 d q := ⟨Mem.of_get at3, hin1⟩
     refine .R rfl (.appendI rfl sl_24_A ze_2_L rfl by_2_L sl_24_A rfl rfl (by assumption) (by assumption) (by first | omega | (simp <;> omega)) (by omega) (by omega)) ?_
     rintro _ H114x3 ⟨g114x3, rfl, st114x3, ge114x3, at114x3⟩
     replace hle := hle.st st114x3 (fun k hk => ⟨by omega, trivial⟩)
     replace lst4 := lst4.sP st114x3
     have ne_g2_gL11 : NE g2 gL11 := ⟨pl_L11.ne ne_g2_g55.ne (by omega)⟩
     replace at2 := st114x3.s at2 ne_g2_gL11.ne
     have ne_g3_gL11 : NE g3 gL11 := ⟨pl_L11.ne ne_g3_g55.ne (by omega)⟩
     replace at3 := st114x3.s at3 ne_g3_gL11.ne
     replace hin := base_hin.mono hle
     replace hin1 := base_hin1.mono hle
     clear hb2
     have hb2 : Cat.At _ g2 0 c p := ⟨Mem.of_get at2, hin⟩
     clear hb3
     have hb3 : Cat.At _ g3 0 d q := ⟨Mem.of_get at3, hin1⟩
     refine .mv rfl (.nil (hK25 _ _ (.region (.mv rfl ?_))))
     refine .q rfl (.add rfl rfl rfl (by omega) (by omega)) ?_
     refine .mv rfl (.nil ?_)
     refine hKL4 ((g + 1, row ++ [h3], _, _)) _ _ ?_ ?_ ⟨rfl, rfl, rfl, rfl, rfl, rfl, rfl, rfl, rfl, trivial⟩
     ·
      refine ⟨lst4, by (rw [hh3]; assumption), by exact ⟨.inr (by omega)⟩, by (simp only [List.length_append, List.length_cons, List.length_nil] <;> omega), ?_⟩
      exact ⟨⟨by omega, by simp; omega⟩, hW.snoc (by omega) (by omega)⟩
     (dsimp only; omega)
    obtain ⟨h3, hh3, n3⟩ : ∃ h3 : Int, h3 = (E.src.length : Int) + ss.getD f 0 * d.obj + ts.getD g 0 - c.obj ∧ -60 ≤ h3 ∧ h3 ≤ 120 := ⟨_, rfl, by omega, by omega⟩
    refine .z rfl (.z rfl (.z rfl (.q rfl (.pickF rfl rfl) (.mv rfl (.nil (hK29 _ _ ?_))))))
    refine .condF rfl ?_
    refine .regionD mo_B (.q 0 (.q 1 (.q 2 (.q 3 (.q 4 (.q 5 (.q 6 (.q 7 (.q 8 (.q 9 (.q 10 (.q 11 (.q 12 (.q 13 (.q 14 (.q 15 (.q 16 (.q 17 (.q 18 (.q 19 (.done))))))))))))))))))))) (by kernel_rfl) ?_
    refine .mv rfl rfl (.q rfl (.fieldAddr fo_27_1_B rfl) ?_)
    refine .q rfl (.load on_24_B rfl (by first | assumption | exact Mem.of_get at_Lg5 1 _ rfl)) ?_
    refine .mv rfl rfl ?_
    refine .q rfl (.idxN sl_24_A (by first | assumption | exact SlA.of_row at_LF (by first | rfl | (simp; done) | (simp <;> omega))) rfl rfl (by omega)) ?_
    refine .q rfl (.loadI on_2_A (by first | assumption | exact Ints.of_get at_LF) rfl (by omega)) ?_
    refine .q rfl (.fieldAddr fo_27_0_B rfl) ?_
    refine .q rfl (.load on_2_A rfl (by first | assumption | exact Mem.of_get at3 0 _ rfl)) ?_
    refine .q rfl (.mul rfl rfl rfl (by omega) (by omega)) ?_
    refine .q rfl (.add rfl rfl rfl (by omega) (by omega)) ?_
    refine .q rfl (.fieldAddr fo_27_2_B rfl) ?_
    refine .q rfl (.load on_24_B rfl (by first | assumption | exact Mem.of_get at_Lg5 2 _ rfl)) ?_
    refine .mv rfl rfl ?_
    refine .q rfl (.idxN sl_24_A (by first | assumption | exact SlA.of_row at_LT (by first | rfl | (simp; done) | (simp <;> omega))) rfl rfl (by omega)) ?_
    refine .q rfl (.loadI on_2_A (by first | assumption | exact Ints.of_get at_LT) rfl (by omega)) ?_
    refine .q rfl (.add rfl rfl rfl (by omega) (by omega)) ?_
    refine .q rfl (.fieldAddr fo_27_0_B rfl) ?_
    refine .q rfl (.load on_2_A rfl (by first | assumption | exact Mem.of_get at2 0 _ rfl)) ?_
    refine .q rfl (.sub rfl rfl rfl (by omega) (by omega)) ?_
    refine .mv rfl rfl ?_
    refine .done ?_
    refine hK27 _ _ (.region (.mv rfl (.mv rfl ?_)))
    refine .R rfl (.litA rfl sl_24_A ze_2_L rfl rfl rfl rfl) ?_
    rintro _ H113x4 ⟨g113x4, rfl, le113x4, ge113x4, at113x4⟩
    replace hle := hle.trans le113x4
    replace lst4 := lst4.le le113x4
    replace at2 := le113x4.2 _ _ at2
    replace at3 := le113x4.2 _ _ at3
    replace at_L11 := le113x4.2 _ _ at_L11
    have lt_at113x4 := GHeap.ltg at113x4
    replace hin := base_hin.mono hle
    replace hin1 := base_hin1.mono hle
    have hb2 : Cat.At _ g2 0 c p := ⟨Mem.of_get at2, hin⟩
    have hb3 : Cat.At _ g3 0 d q := ⟨Mem.of_get at3, hin1⟩
    refine .R rfl (.appendI rfl sl_24_A ze_2_L rfl by_2_L sl_24_A rfl rfl (by assumption) (by assumption) (by first | omega | (simp <;> omega)) (by omega) (by omega)) ?_
    rintro _ H114x4 ⟨g114x4, rfl, st114x4, ge114x4, at114x4⟩
    replace hle := hle.st st114x4 (fun k hk => ⟨by omega, trivial⟩)
    replace lst4 := lst4.sP st114x4
    have ne_g2_gL11 : NE g2 gL11 := ⟨pl_L11.ne ne_g2_g55.ne (by omega)⟩
    replace at2 := st114x4.s at2 ne_g2_gL11.ne
    have ne_g3_gL11 : NE g3 gL11 := ⟨pl_L11.ne ne_g3_g55.ne (by omega)⟩
    replace at3 := st114x4.s at3 ne_g3_gL11.ne
    replace hin := base_hin.mono hle
    replace hin1 := base_hin1.mono hle
    clear hb2
    have hb2 : Cat.At _ g2 0 c p := ⟨Mem.of_get at2, hin⟩
    clear hb3
    have hb3 : Cat.At _ g3 0 d q := ⟨Mem.of_get at3, hin1⟩
    refine .mv rfl (.nil (hK25 _ _ (.region (.mv rfl ?_))))
    refine .q rfl (.add rfl rfl rfl (by omega) (by omega)) ?_
    refine .mv rfl (.nil ?_)
    refine hKL4 ((g + 1, row ++ [h3], _, _)) _ _ ?_ ?_ ⟨rfl, rfl, rfl, rfl, rfl, rfl, rfl, rfl, rfl, trivial⟩
    ·
     refine ⟨lst4, by (rw [hh3]; assumption), by exact ⟨.inr (by omega)⟩, by (simp only [List.length_append, List.length_cons, List.length_nil] <;> omega), ?_⟩
     exact ⟨⟨by omega, by simp; omega⟩, hW.snoc (by omega) (by omega)⟩
    (dsimp only; omega)
   try simp only [sps] at h60
   refine .exit ?_
   refine hK21 _ _ (.region ?_)
   obtain rfl : g = ss.length := by omega
   obtain rfl := ln_L11
   refine .mv rfl (.mv rfl ?_)
   refine .R rfl (.litA rfl sl_25_B ze_24_Hj rfl rfl rfl rfl) ?_
   rintro _ H117 ⟨g117, rfl, le117, ge117, at117⟩
   replace hle := hle.trans le117
   replace lst3 := lst3.le le117
   replace rk := rk.le le117
   replace at2 := le117.2 _ _ at2
   replace at3 := le117.2 _ _ at3
   replace at_L9 := le117.2 _ _ at_L9
   replace at_L11 := le117.2 _ _ at_L11
   have lt_at117 := GHeap.ltg at117
   replace hin := base_hin.mono hle
   replace hin1 := base_hin1.mono hle
   have hb2 : Cat.At _ g2 0 c p := ⟨Mem.of_get at2, hin⟩
   have hb3 : Cat.At _ g3 0 d q := ⟨Mem.of_get at3, hin1⟩
   refine .R rfl (.appendV rfl sl_25_B ze_24_Hj rfl by_24_Hj sl_25_B rfl rfl (by assumption) (by assumption) (by first | omega | (simp <;> omega)) rfl rfl (by omega) (by omega)) ?_
   rintro _ H118 ⟨g118, rfl, st118, ge118, at118⟩
   replace hle := hle.st st118 (fun k hk => ⟨by omega, trivial⟩)
   replace lst3 := lst3.sP st118
   replace rk := rk.sP st118
   replace at2 := st118.same _ _ ⟨(pl_L9.ne ne_g2_g47.ne (by omega)), trivial⟩ at2
   replace at3 := st118.same _ _ ⟨(pl_L9.ne ne_g3_g47.ne (by omega)), trivial⟩ at3
   replace at_L11 := st118.same _ _ ⟨(Ne.symm (pl_L11.ne ne_gL9_g55.ne (by omega))), trivial⟩ at_L11
   replace hin := base_hin.mono hle
   replace hin1 := base_hin1.mono hle
   clear hb2
   have hb2 : Cat.At _ g2 0 c p := ⟨Mem.of_get at2, hin⟩
   clear hb3
   have hb3 : Cat.At _ g3 0 d q := ⟨Mem.of_get at3, hin1⟩
   refine .mv rfl (.nil (hK19 _ _ (.region (.mv rfl ?_))))
   refine .q rfl (.add rfl rfl rfl (by omega) (by omega)) ?_
   refine .mv rfl (.nil ?_)
   refine hKL3 ((f + 1, upd rq cs.length (some ⟨gL11, 0, none⟩), cs ++ [row], _, _)) _ _ ?_ ?_ ⟨rfl, rfl, rfl, rfl, rfl, rfl, rfl, trivial⟩
   ·
    refine ⟨lst3, by (rw [slsL_snoc]; assumption), by exact ⟨.inr (by omega)⟩, by (rw [slsL_snoc] <;> (first | omega | (simp only [List.length_append, List.length_cons, List.length_nil] <;> omega))), ?_⟩
    have hR' := hR.st rk (.cons (hR.neT hat9 rfl) (.nil _ _))
    have hQ' := hQ.st rk (.cons (hQ.neT hat9 rfl) (.nil _ _))
    exact ⟨⟨by omega, by simp; omega⟩, hC.snoc (by omega) hW, hR', hQ'.snoc2 (by assumption) (hQ.ne (pl_L11.ge (by omega) (by omega))) (pl_L11.ge (by omega) (by omega))⟩
   (dsimp only; omega)
  try simp only [sps] at h52
  refine .exit ?_
  refine hK15 _ _ (.seq (fun K30 hK30 => .region ?_))
  obtain rfl : f = ss.length := by omega
  have hat5 := at_Lg5
  refine .mv rfl (.q rfl (.fieldAddr fo_27_4_B rfl) ?_)
  refine .r0 rfl rfl (.storeR rfl sz_25_Ch rfl rfl rfl (by assumption) (by first | exact Nat.le_of_ble_eq_true rfl | (simp; done) | (simp <;> omega))) ?_
  rintro _ H26002 ⟨rfl, st26002, at26002⟩
  replace hle := hle.st st26002 (fun k hk => ⟨by omega, trivial⟩)
  replace at2 := st26002.s at2 ne_g2_g5.ne
  replace at3 := st26002.s at3 ne_g3_g5.ne
  replace at4 := st26002.s at4 ne_g4_g5.ne
  replace aI := st26002.s aI ne_gI_g5.ne
  replace at_LF := st26002.same _ _ ⟨ap1_1, trivial⟩ at_LF
  replace at_LT := st26002.same _ _ ⟨ap1_2, trivial⟩ at_LT
  replace at_L9 := st26002.same _ _ ⟨(Ne.symm (pl_L9.ne ne_g5_g47.ne (by omega))), trivial⟩ at_L9
  replace hin := base_hin.mono hle
  replace hin1 := base_hin1.mono hle
  have hb2 : Cat.At _ g2 0 c p := ⟨Mem.of_get at2, hin⟩
  have hb3 : Cat.At _ g3 0 d q := ⟨Mem.of_get at3, hin1⟩
  try simp only [Nat.zero_add, List.set_cons_succ, List.set_cons_zero] at at26002
  refine .nil (hK30 _ _ (.seq (fun K31 hK31 => .region ?_)))
  have hat4 := at4
  refine .q rfl (.loadM ag_27_D rfl ⟨rfl, Mem.of_get at26002⟩) ?_
  refine .r0 rfl rfl (.fillA rfl sz_27_D rfl rfl rfl rfl) ?_
  rintro _ H27001 ⟨rfl, st27001, at27001⟩
  replace hle := hle.st st27001 (fun k hk => ⟨by omega, trivial⟩)
  replace at2 := st27001.s at2
  replace at3 := st27001.s at3
  replace aI := st27001.s aI
  replace at_LF := st27001.same _ _ ⟨(Ne.symm (pl_LF.ne ne_g4_gF.ne (by omega))), trivial⟩ at_LF
  replace at_LT := st27001.same _ _ ⟨(Ne.symm (pl_LT.ne ne_g4_gT.ne (by omega))), trivial⟩ at_LT
  replace at_L9 := st27001.same _ _ ⟨(Ne.symm (pl_L9.ne ne_g4_g47.ne (by omega))), trivial⟩ at_L9
  replace hin := base_hin.mono hle
  replace hin1 := base_hin1.mono hle
  clear hb2
  have hb2 : Cat.At _ g2 0 c p := ⟨Mem.of_get at2, hin⟩
  clear hb3
  have hb3 : Cat.At _ g3 0 d q := ⟨Mem.of_get at3, hin1⟩
  refine .nil (hK31 _ _ ?_)
  refine .ret ?_
  refine hret _ _ ?_
  refine ⟨_, _, _, _, rfl, ag_27_D, (by rfl), (Mem.of_get at27001), ?_⟩
  have hx4 : gLF ≠ gI := pl_LF.ne' (by omega) (by omega)
  have hx5 : gLT ≠ gI := pl_LT.ne' (by omega) (by omega)
  have hQ1 := hQ.st st26002 (.cons (hQ.neT hat5 rfl) (.nil _ _))
  have hQ2 := hQ1.st st27001 (.cons (hQ1.neT hat4 rfl) (.nil _ _))
  exact ⟨⟨E.obj, ss, ts, E.idn, cs⟩, rect_mk (by omega) (by omega) hts (hS.mono (by omega) (by omega)) (hT.mono (by omega) (by omega)) e6 (Bd.mono (show Bd 0 12 E.idn from e7) (by omega) (by omega)) (by omega) (hC.mono (by omega) (by omega)), hle, gLF, gLT, gI, gL9, rq, by simp [Cat.cells, ownP, ln_L9], ⟨at_LF, at_LT, aI, at_L9, by omega, by omega, by omega, by omega, by omega, by omega, by omega, hQ2.low (by omega), hQ.lowNe (by omega), hQ.lowNe (by omega), hQ.lowNe (by omega)⟩⟩
end Go.Proofs.Ytolfggcanbpknaa
