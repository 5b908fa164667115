/- Categories of elements: the specification's. No condition but those of each statement. -/
import Derived.Test.YtagkeabmdodfiaaZ9
namespace Go.Proofs.Ytagkeabmdodfiaa
open Go Go.GL Go.RowKit Go.Proofs
theorem ze_81_Ec : zeroT Try.prog 81 = some ([.int .i64 0, .slice none 0 0, .slice none 0 0, .slice none 0 0, .slice none 0 0, .slice none 0 0, .slice none 0 0], 7) := by kernel_rfl
theorem bt_81_Ec : buildT Try.prog 81 = some ([.int .i64 0, .slice none 0 0, .slice none 0 0, .slice none 0 0, .slice none 0 0, .slice none 0 0, .slice none 0 0], [(0, 5), (5, 1), (6, 1)]) := by kernel_rfl
theorem sz_81_Ec : (Try.prog.info? 81).map (·.size) = some 7 := by kernel_rfl
theorem fo_81_1_Ec : fieldOff Try.prog 81 1 = some 5 := by kernel_rfl
theorem ag_81_Ec : aggT Try.prog 81 = some 7 := by kernel_rfl
theorem fo_81_2_Ec : fieldOff Try.prog 81 2 = some 6 := by kernel_rfl
theorem bt_31_Ec : buildT Try.prog 31 = some ([.int .i64 0, .slice none 0 0, .slice none 0 0, .slice none 0 0, .slice none 0 0], [(0, 1), (1, 1), (2, 1), (3, 1), (4, 1)]) := by kernel_rfl
theorem fo_81_0_Ec : fieldOff Try.prog 81 0 = some 0 := by kernel_rfl
def EcNew (H : GHeap) (f : SFun) (v : Value) (H' : GHeap) : Prop := H.Le H' ∧ ∃ p a r a2 r2, v = .tuple #[.agg (f.elsR.cells p ++ [Value.slice a f.elsO.length f.elsO.length, Value.slice a2 f.elsA.length f.elsA.length]).toArray, .bool (B f.ecOk)] ∧ CatR H.next H' f.elsR p ∧ IntssR H.next H' a f.elsO r ∧ IntssR H.next H' a2 f.elsA r2
set_option maxHeartbeats 16000000 in
theorem l20Elements_c {f : SFun} {p : SFunP} {H : GHeap} (hin : f.In H p := by assumption) (hf : f.Is) :
    GCalls Try.prog 47 [.agg (f.cells p).toArray] H (EcNew H f) := by
  obtain ⟨l1, l2, l3, l4, l5⟩ := hf.nums
  have hS := hf.1.c.1
  refine GCalls.body (N := 245) (rs := [.cell 2 81, .tmp 3]) Try.func47 rfl rfl rfl rfl (fun Qx hret hend => ?_)
  refine .forget (fr' := [(0, some _)]) ⟨rfl, trivial⟩ ?_
  have hle := GHeap.Le.refl H
  have base_hin := hin
  refine .seq (fun K1 hK1 => .region ?_)
  refine .r rfl rfl rfl (.boxR rfl sz_46_VSFun rfl) ?_
  rintro _ H1 ⟨g1, rfl, le1, ge1, at1⟩
  have nx_H1 := le1.1
  replace hle := hle.trans le1
  have lt_at1 := GHeap.ltg at1
  replace hin := base_hin.mono hle
  have hb1 : SFun.At _ g1 0 f p := ⟨Mem.of_get at1, hin⟩
  obtain ⟨fsh1, c51, c61, i11, i21⟩ := hb1.get
  have hm1 : MemN _ _ _ _ _ := ⟨rfl, hb1.1⟩
  have hi1 := hb1.2
  have hmsh1 : MemN _ _ _ _ _ := ⟨rfl, fsh1.1⟩
  have hish1 := fsh1.2
  refine .r rfl rfl rfl (.allocR rfl ze_81_Ec rfl) ?_
  rintro _ H2 ⟨g2, rfl, le2, ge2, at2⟩
  have nx_H2 := le2.1
  replace hle := hle.trans le2
  replace at1 := le2.2 _ _ at1
  have lt_at2 := GHeap.ltg at2
  replace hin := base_hin.mono hle
  clear hb1 fsh1 c51 c61 i11 i21 hm1 hi1 hmsh1 hish1
  have hb1 : SFun.At _ g1 0 f p := ⟨Mem.of_get at1, hin⟩
  obtain ⟨fsh1, c51, c61, i11, i21⟩ := hb1.get
  have hm1 : MemN _ _ _ _ _ := ⟨rfl, hb1.1⟩
  have hi1 := hb1.2
  have hmsh1 : MemN _ _ _ _ _ := ⟨rfl, fsh1.1⟩
  have hish1 := fsh1.2
  refine .mv rfl (.nil (hK1 _ _ (.seq (fun K2 hK2 => .region (.m rfl rfl rfl (.build bt_81_Ec rfl rfl rfl) ?_)))))
  refine .r rfl rfl rfl (.allocR rfl ze_81_Ec rfl) ?_
  rintro _ H4 ⟨g4, rfl, le4, ge4, at4⟩
  have nx_H4 := le4.1
  replace hle := hle.trans le4
  replace at1 := le4.2 _ _ at1
  replace at2 := le4.2 _ _ at2
  have lt_at4 := GHeap.ltg at4
  replace hin := base_hin.mono hle
  clear hb1 fsh1 c51 c61 i11 i21 hm1 hi1 hmsh1 hish1
  have hb1 : SFun.At _ g1 0 f p := ⟨Mem.of_get at1, hin⟩
  obtain ⟨fsh1, c51, c61, i11, i21⟩ := hb1.get
  have hm1 : MemN _ _ _ _ _ := ⟨rfl, hb1.1⟩
  have hi1 := hb1.2
  have hmsh1 : MemN _ _ _ _ _ := ⟨rfl, fsh1.1⟩
  have hish1 := fsh1.2
  refine .r0 rfl rfl (.fillR rfl sz_81_Ec rfl rfl rfl rfl (by assumption) (by first | rfl | exact Nat.le_of_ble_eq_true rfl | simp)) ?_
  rintro _ H1002 ⟨rfl, st1002, at1002⟩
  have nx_H1002 := st1002.nx
  replace hle := hle.st st1002 (fun k hk => ⟨by omega, trivial⟩)
  have ne_g1_g4 : g1 ≠ g4 := by first | assumption | omega
  replace at1 := st1002.same _ _ ⟨ne_g1_g4, trivial⟩ at1
  have ne_g2_g4 : g2 ≠ g4 := by first | assumption | omega
  replace at2 := st1002.same _ _ ⟨ne_g2_g4, trivial⟩ at2
  have lt_at1002 := GHeap.ltg at1002
  replace hin := base_hin.mono hle
  clear hb1 fsh1 c51 c61 i11 i21 hm1 hi1 hmsh1 hish1
  have hb1 : SFun.At _ g1 0 f p := ⟨Mem.of_get at1, hin⟩
  obtain ⟨fsh1, c51, c61, i11, i21⟩ := hb1.get
  have hm1 : MemN _ _ _ _ _ := ⟨rfl, hb1.1⟩
  have hi1 := hb1.2
  have hmsh1 : MemN _ _ _ _ _ := ⟨rfl, fsh1.1⟩
  have hish1 := fsh1.2
  have mm1002 : MemN _ _ _ _ _ := ⟨rfl, Mem.of_get at1002⟩
  refine .nil (hK2 _ _ (.seq (fun K3 hK3 => .seq (fun K4 hK4 => .region (.mv rfl (.nil (hK4 _ _ ?_)))))))
  refine .block ?_
  refine .hold (fun HhO lehO nxhO => ?_)
  obtain ⟨ghO, hghO⟩ : ∃ g, g = GHeap.next H1002 := ⟨_, rfl⟩
  have no_hO : NO HhO ghO [] 22 0 := NO.start (by omega) rfl rfl
  have nx_HhO := lehO.1
  replace hle := hle.trans lehO
  replace at1 := lehO.2 _ _ at1
  replace at2 := lehO.2 _ _ at2
  replace at1002 := lehO.2 _ _ at1002
  have lt_no_hO := no_hO.lt
  replace hin := base_hin.mono hle
  clear hb1 fsh1 c51 c61 i11 i21 hm1 hi1 hmsh1 hish1
  have hb1 : SFun.At _ g1 0 f p := ⟨Mem.of_get at1, hin⟩
  obtain ⟨fsh1, c51, c61, i11, i21⟩ := hb1.get
  have hm1 : MemN _ _ _ _ _ := ⟨rfl, hb1.1⟩
  have hi1 := hb1.2
  have hmsh1 : MemN _ _ _ _ _ := ⟨rfl, fsh1.1⟩
  have hish1 := fsh1.2
  clear mm1002
  have mm1002 : MemN _ _ _ _ _ := ⟨rfl, Mem.of_get at1002⟩
  refine .loopR (σ := Nat × (Nat → Option Addr) × Nat) [(1, some _), (2, some _), (4, some _)] (fun (x, rr, gLO) => [(5, some (.int .i64 (x : Int)))]) (fun (x, rr, gLO) H' => St [ghO, g4] HhO H' ∧ NO H' gLO (slsL rr (elP f x 0)) 22 ((elP f x 0).length) ∧ PL gLO ghO HhO.next ∧ H'.get g4 = some (.row ([.int .i64 0, .slice none 0 0, .slice none 0 0, .slice none 0 0, .slice none 0 0, .slice (nz (elP f x 0).length gLO) (elP f x 0).length (elP f x 0).length, .slice none 0 0]) 81 true) ∧ gLO ≠ g4 ∧ x ≤ f.sz.length ∧ OwnL H1002.next H' 2 rr (elP f x 0)) (fun (x, rr, gLO) => f.sz.length - x) ((0, fun _ => none, ghO)) ⟨rfl, rfl, rfl, trivial⟩ ⟨rfl, trivial⟩ ?_ ?_
  ·
   refine ⟨.refl _ _, by first | assumption | exact NO.start (by omega) (by first | rfl | (simp; done) | omega) (by first | rfl | (simp; done)), ⟨.inl rfl⟩, by first | assumption | exact at1002 | simpa using at1002, by omega, ?_⟩
   exact ⟨by omega, .nil _ _ _ _⟩
  rintro ⟨x, rr, gLO⟩ HL1 ⟨lst1, no_LO, pl_LO, at_Lg4, ap1_0, hI⟩ KL1 hKL1
  refine .forget (fr' := [(5, some (.int .i64 (x : Int))), (1, some _), (2, some _), (4, some _)]) ⟨rfl, rfl, rfl, rfl, trivial⟩ ?_
  have ge_LO : H.next ≤ gLO := pl_LO.ge (by omega) (by omega)
  have nx_HL1 := lst1.nx
  replace hle := hle.st lst1 (fun k hk => ⟨by omega, by omega, trivial⟩)
  have ne_g1_ghO : g1 ≠ ghO := by first | assumption | omega
  replace at1 := lst1.same _ _ ⟨ne_g1_ghO, ne_g1_g4, trivial⟩ at1
  have ne_g2_ghO : g2 ≠ ghO := by first | assumption | omega
  replace at2 := lst1.same _ _ ⟨ne_g2_ghO, ne_g2_g4, trivial⟩ at2
  have lt_no_LO := no_LO.lt
  have lt_at_Lg4 := GHeap.ltg at_Lg4
  replace hin := base_hin.mono hle
  clear hb1 fsh1 c51 c61 i11 i21 hm1 hi1 hmsh1 hish1
  have hb1 : SFun.At _ g1 0 f p := ⟨Mem.of_get at1, hin⟩
  obtain ⟨fsh1, c51, c61, i11, i21⟩ := hb1.get
  have hm1 : MemN _ _ _ _ _ := ⟨rfl, hb1.1⟩
  have hi1 := hb1.2
  have hmsh1 : MemN _ _ _ _ _ := ⟨rfl, fsh1.1⟩
  have hish1 := fsh1.2
  clear mm1002
  have mm1002 : MemN _ _ _ _ _ := ⟨rfl, Mem.of_get at1002⟩
  obtain ⟨hx, hR⟩ := hI
  refine .seq (fun K5 hK5 => .seq (fun K6 hK6 => .region (.mv rfl (.m rfl rfl rfl (.fieldAddr fo_46_0_P rfl) (.m rfl rfl rfl (.fieldAddr fo_31_0_B rfl) ?_)))))
  refine .m rfl rfl rfl (.load on_2_A rfl (by first | assumption | exact Mem.of_get at1 0 _ rfl)) ?_
  refine .m rfl rfl rfl (.cmp rfl rfl rfl) (.nil (hK6 _ _ ?_))
  refine .cond rfl (fun h24 => ?_) (fun h24 => ?_)
  ·
   simp only [sps] at h24
   have hz := hf.1.sz x (by omega)
   refine .skip ?_
   refine hK5 _ _ (.seq (fun K7 hK7 => ?_))
   refine .block ?_
   refine .seq (fun K8 hK8 => .region (.mv rfl (.nil (hK8 _ _ ?_))))
   refine .block ?_
   refine .loopR (σ := Nat × (Nat → Option Addr) × Nat) [(1, some _), (2, some _), (4, some _), (5, some _)] (fun (e, r2, gLO2) => [(6, some (.int .i64 (e : Int)))]) (fun (e, r2, gLO2) H' => St [gLO, g4] HL1 H' ∧ NO H' gLO2 (slsL r2 (elP f x e)) 22 ((elP f x e).length) ∧ PL gLO2 gLO HL1.next ∧ H'.get g4 = some (.row ([.int .i64 0, .slice none 0 0, .slice none 0 0, .slice none 0 0, .slice none 0 0, .slice (nz (elP f x e).length gLO2) (elP f x e).length (elP f x e).length, .slice none 0 0]) 81 true) ∧ gLO2 ≠ g4 ∧ e ≤ (f.sz.getD x 0).toNat ∧ OwnL H1002.next H' 2 r2 (elP f x e)) (fun (e, r2, gLO2) => (f.sz.getD x 0).toNat - e) ((0, rr, gLO)) ⟨rfl, rfl, rfl, rfl, trivial⟩ ⟨rfl, trivial⟩ ?_ ?_
   ·
    refine ⟨.refl _ _, by first | assumption | exact NO.start (by omega) (by first | rfl | (simp; done) | omega) (by first | rfl | (simp; done)), ⟨.inl rfl⟩, by first | assumption | exact at_Lg4 | simpa using at_Lg4, by omega, ?_⟩
    exact ⟨by omega, hR⟩
   rintro ⟨e, r2, gLO2⟩ HL2 ⟨lst2, no_LO2, pl_LO2, at_Lg4, ap2_0, hI⟩ KL2 hKL2
   refine .forget (fr' := [(6, some (.int .i64 (e : Int))), (1, some _), (2, some _), (4, some _), (5, some _)]) ⟨rfl, rfl, rfl, rfl, rfl, trivial⟩ ?_
   have ge_LO2 : H.next ≤ gLO2 := pl_LO2.ge (by omega) (by omega)
   have nx_HL2 := lst2.nx
   replace hle := hle.st lst2 (fun k hk => ⟨by omega, by omega, trivial⟩)
   replace lst1 := lst1.st lst2 (fun k hk ho => by simp only [out, and_true] at ho ⊢ <;> exact ⟨by first | exact ho | exact ho.1 | exact ho.2 | exact ho.2.1 | exact ho.2.2 | exact ho.2.2.1 | exact ho.2.2.2 | exact pl_LO.ne (by first | exact ho | exact ho.1 | exact ho.2 | exact ho.2.1 | exact ho.2.2 | exact ho.2.2.1 | exact ho.2.2.2 | omega) (by omega) | omega, by first | exact ho | exact ho.1 | exact ho.2 | exact ho.2.1 | exact ho.2.2 | exact ho.2.2.1 | exact ho.2.2.2 | omega⟩)
   have ne_g1_gLO : g1 ≠ gLO := pl_LO.ne ne_g1_ghO (by omega)
   replace at1 := lst2.same _ _ ⟨ne_g1_gLO, ne_g1_g4, trivial⟩ at1
   have ne_g2_gLO : g2 ≠ gLO := pl_LO.ne ne_g2_ghO (by omega)
   replace at2 := lst2.same _ _ ⟨ne_g2_gLO, ne_g2_g4, trivial⟩ at2
   have lt_no_LO2 := no_LO2.lt
   have lt_at_Lg4 := GHeap.ltg at_Lg4
   replace hin := base_hin.mono hle
   clear hb1 fsh1 c51 c61 i11 i21 hm1 hi1 hmsh1 hish1
   have hb1 : SFun.At _ g1 0 f p := ⟨Mem.of_get at1, hin⟩
   obtain ⟨fsh1, c51, c61, i11, i21⟩ := hb1.get
   have hm1 : MemN _ _ _ _ _ := ⟨rfl, hb1.1⟩
   have hi1 := hb1.2
   have hmsh1 : MemN _ _ _ _ _ := ⟨rfl, fsh1.1⟩
   have hish1 := fsh1.2
   clear mm1002
   have mm1002 : MemN _ _ _ _ _ := ⟨rfl, Mem.of_get at1002⟩
   have rk := St.refl [gLO2, g4] HL2
   obtain ⟨he, hR⟩ := hI
   have hatO := no_LO2
   have hat4 := at_Lg4
   have hln := elP_le hf (x := x) (e := e) (by omega) he
   have hfl : (slsL r2 (elP f x e)).length = (elP f x e).length := length_slsL _ _
   have hsn : elP f x (e + 1) = elP f x e ++ [[(x : Int), (e : Int)]] := nestL_snoc
   have hsl : (elP f x (e + 1)).length = (elP f x e).length + 1 := by rw [hsn, List.length_append]; rfl
   refine .seq (fun K9 hK9 => .seq (fun K10 hK10 => .region (.mv rfl (.m rfl rfl rfl (.fieldAddr fo_46_1_P rfl) ?_))))
   refine .m rfl rfl rfl (.load on_22_B rfl (by first | assumption | exact Mem.of_get at1 5 _ rfl)) ?_
   refine .mv rfl ?_
   refine .m rfl rfl rfl (.idxN sl_22_A (by assumption) rfl rfl (by omega)) ?_
   refine .m rfl rfl rfl (.loadI on_2_A (by assumption) rfl (by omega)) ?_
   refine .m rfl rfl rfl (.cmp rfl rfl rfl) (.nil (hK10 _ _ ?_))
   refine .cond rfl (fun h33 => ?_) (fun h33 => ?_)
   ·
    simp only [sps] at h33
    refine .skip ?_
    refine hK9 _ _ (.seq (fun K11 hK11 => ?_))
    refine .block ?_
    refine .region (.m rfl rfl rfl (.fieldAddr fo_81_1_Ec rfl) ?_)
    refine .m rfl rfl rfl (.load on_23_B rfl (by first | assumption | exact Mem.of_get at_Lg4 5 _ rfl)) ?_
    refine .mv rfl (.mv rfl ?_)
    refine .r rfl rfl rfl (.litR rfl sl_22_A ze_2_E rfl rfl (by omega) (by omega) rfl rfl) ?_
    rintro _ H40 ⟨g40, rfl, le40, ge40, at40⟩
    have nx_H40 := le40.1
    replace hle := hle.trans le40
    replace lst1 := lst1.le le40
    replace lst2 := lst2.le le40
    replace rk := rk.le le40
    replace at1 := le40.2 _ _ at1
    replace at2 := le40.2 _ _ at2
    replace no_LO2 := no_LO2.le le40
    replace at_Lg4 := le40.2 _ _ at_Lg4
    have lt_at40 := GHeap.ltg at40
    replace hin := base_hin.mono hle
    clear hb1 fsh1 c51 c61 i11 i21 hm1 hi1 hmsh1 hish1
    have hb1 : SFun.At _ g1 0 f p := ⟨Mem.of_get at1, hin⟩
    obtain ⟨fsh1, c51, c61, i11, i21⟩ := hb1.get
    have hm1 : MemN _ _ _ _ _ := ⟨rfl, hb1.1⟩
    have hi1 := hb1.2
    have hmsh1 : MemN _ _ _ _ _ := ⟨rfl, fsh1.1⟩
    have hish1 := fsh1.2
    clear mm1002
    have mm1002 : MemN _ _ _ _ _ := ⟨rfl, Mem.of_get at1002⟩
    refine .r rfl rfl rfl (.litR rfl sl_23_B ze_22_E rfl rfl (by omega) (by omega) rfl rfl) ?_
    rintro _ H41 ⟨g41, rfl, le41, ge41, at41⟩
    have nx_H41 := le41.1
    replace hle := hle.trans le41
    replace lst1 := lst1.le le41
    replace lst2 := lst2.le le41
    replace rk := rk.le le41
    replace at1 := le41.2 _ _ at1
    replace at2 := le41.2 _ _ at2
    replace no_LO2 := no_LO2.le le41
    replace at_Lg4 := le41.2 _ _ at_Lg4
    replace at40 := le41.2 _ _ at40
    have lt_at41 := GHeap.ltg at41
    replace hin := base_hin.mono hle
    clear hb1 fsh1 c51 c61 i11 i21 hm1 hi1 hmsh1 hish1
    have hb1 : SFun.At _ g1 0 f p := ⟨Mem.of_get at1, hin⟩
    obtain ⟨fsh1, c51, c61, i11, i21⟩ := hb1.get
    have hm1 : MemN _ _ _ _ _ := ⟨rfl, hb1.1⟩
    have hi1 := hb1.2
    have hmsh1 : MemN _ _ _ _ _ := ⟨rfl, fsh1.1⟩
    have hish1 := fsh1.2
    clear mm1002
    have mm1002 : MemN _ _ _ _ _ := ⟨rfl, Mem.of_get at1002⟩
    refine .r rfl rfl rfl (.appendNO rfl sl_23_B ze_22_E rfl by_22_E sl_23_B rfl rfl no_LO2 (by assumption) (by first | omega | (simp <;> omega)) rfl rfl (by omega) (by omega)) ?_
    rintro _ H42 ⟨g42, rfl, st42, ge42, at42⟩
    have nx_H42 := st42.nx
    replace hle := hle.st st42 (fun k hk => ⟨by omega, trivial⟩)
    replace lst1 := lst1.st st42 (fun k hk ho => by simp only [out, and_true] at ho ⊢ <;> first | exact ho | exact ho.1 | exact ho.2 | exact ho.2.1 | exact ho.2.2 | exact ho.2.2.1 | exact ho.2.2.2 | exact pl_LO2.ne (by first | exact ho | exact ho.1 | exact ho.2 | exact ho.2.1 | exact ho.2.2 | exact ho.2.2.1 | exact ho.2.2.2 | exact pl_LO.ne (by first | exact ho | exact ho.1 | exact ho.2 | exact ho.2.1 | exact ho.2.2 | exact ho.2.2.1 | exact ho.2.2.2 | omega) (by omega) | omega) (by omega) | omega)
    replace lst2 := lst2.st st42 (fun k hk ho => by simp only [out, and_true] at ho ⊢ <;> first | exact ho | exact ho.1 | exact ho.2 | exact ho.2.1 | exact ho.2.2 | exact ho.2.2.1 | exact ho.2.2.2 | exact pl_LO2.ne (by first | exact ho | exact ho.1 | exact ho.2 | exact ho.2.1 | exact ho.2.2 | exact ho.2.2.1 | exact ho.2.2.2 | exact pl_LO.ne (by first | exact ho | exact ho.1 | exact ho.2 | exact ho.2.1 | exact ho.2.2 | exact ho.2.2.1 | exact ho.2.2.2 | omega) (by omega) | omega) (by omega) | omega)
    replace rk := rk.st st42 (fun k hk ho => by simp only [out, and_true] at ho ⊢ <;> first | exact ho | exact ho.1 | exact ho.2 | exact ho.2.1 | exact ho.2.2 | exact ho.2.2.1 | exact ho.2.2.2 | exact pl_LO2.ne (by first | exact ho | exact ho.1 | exact ho.2 | exact ho.2.1 | exact ho.2.2 | exact ho.2.2.1 | exact ho.2.2.2 | exact pl_LO.ne (by first | exact ho | exact ho.1 | exact ho.2 | exact ho.2.1 | exact ho.2.2 | exact ho.2.2.1 | exact ho.2.2.2 | omega) (by omega) | omega) (by omega) | omega)
    have ne_g1_gLO2 : g1 ≠ gLO2 := pl_LO2.ne ne_g1_gLO (by omega)
    replace at1 := st42.same _ _ ⟨ne_g1_gLO2, trivial⟩ at1
    have ne_g2_gLO2 : g2 ≠ gLO2 := pl_LO2.ne ne_g2_gLO (by omega)
    replace at2 := st42.same _ _ ⟨ne_g2_gLO2, trivial⟩ at2
    replace at_Lg4 := st42.same _ _ ⟨(Ne.symm ap2_0), trivial⟩ at_Lg4
    replace at40 := st42.same _ _ ⟨(by first | assumption | omega), trivial⟩ at40
    replace at41 := st42.same _ _ ⟨(by first | assumption | omega), trivial⟩ at41
    have lt_at42 := GHeap.ltg at42
    replace hin := base_hin.mono hle
    clear hb1 fsh1 c51 c61 i11 i21 hm1 hi1 hmsh1 hish1
    have hb1 : SFun.At _ g1 0 f p := ⟨Mem.of_get at1, hin⟩
    obtain ⟨fsh1, c51, c61, i11, i21⟩ := hb1.get
    have hm1 : MemN _ _ _ _ _ := ⟨rfl, hb1.1⟩
    have hi1 := hb1.2
    have hmsh1 : MemN _ _ _ _ _ := ⟨rfl, fsh1.1⟩
    have hish1 := fsh1.2
    clear mm1002
    have mm1002 : MemN _ _ _ _ _ := ⟨rfl, Mem.of_get at1002⟩
    refine .m rfl rfl rfl (.fieldAddr fo_81_1_Ec rfl) ?_
    refine .r0 rfl rfl (.storeR rfl sz_23_E rfl rfl rfl (by assumption) (by first | exact Nat.le_of_ble_eq_true rfl | (simp; done) | (simp <;> omega))) ?_
    rintro _ H8008 ⟨rfl, st8008, at8008⟩
    have nx_H8008 := st8008.nx
    replace hle := hle.st st8008 (fun k hk => ⟨by omega, trivial⟩)
    replace lst1 := lst1.st st8008 (fun k hk ho => by simp only [out, and_true] at ho ⊢ <;> first | exact ho | exact ho.1 | exact ho.2 | exact ho.2.1 | exact ho.2.2 | exact ho.2.2.1 | exact ho.2.2.2 | omega)
    replace lst2 := lst2.st st8008 (fun k hk ho => by simp only [out, and_true] at ho ⊢ <;> first | exact ho | exact ho.1 | exact ho.2 | exact ho.2.1 | exact ho.2.2 | exact ho.2.2.1 | exact ho.2.2.2 | omega)
    replace rk := rk.st st8008 (fun k hk ho => by simp only [out, and_true] at ho ⊢ <;> first | exact ho | exact ho.1 | exact ho.2 | exact ho.2.1 | exact ho.2.2 | exact ho.2.2.1 | exact ho.2.2.2 | omega)
    replace at1 := st8008.same _ _ ⟨ne_g1_g4, trivial⟩ at1
    replace at2 := st8008.same _ _ ⟨ne_g2_g4, trivial⟩ at2
    replace at40 := st8008.same _ _ ⟨(by first | assumption | omega), trivial⟩ at40
    replace at41 := st8008.same _ _ ⟨(by first | assumption | omega), trivial⟩ at41
    replace at42 := st8008.same _ _ ⟨(by first | assumption | omega), trivial⟩ at42
    have lt_at8008 := GHeap.ltg at8008
    replace hin := base_hin.mono hle
    clear hb1 fsh1 c51 c61 i11 i21 hm1 hi1 hmsh1 hish1
    have hb1 : SFun.At _ g1 0 f p := ⟨Mem.of_get at1, hin⟩
    obtain ⟨fsh1, c51, c61, i11, i21⟩ := hb1.get
    have hm1 : MemN _ _ _ _ _ := ⟨rfl, hb1.1⟩
    have hi1 := hb1.2
    have hmsh1 : MemN _ _ _ _ _ := ⟨rfl, fsh1.1⟩
    have hish1 := fsh1.2
    clear mm1002
    have mm1002 : MemN _ _ _ _ _ := ⟨rfl, Mem.of_get at1002⟩
    try simp only [Nat.zero_add, List.set_cons_succ, List.set_cons_zero] at at8008
    refine .nil (hK11 _ _ (.region (.mv rfl ?_)))
    refine .m rfl rfl rfl (.add rfl rfl rfl (by omega) (by omega)) ?_
    refine .mv rfl (.nil ?_)
    refine hKL2 ((e + 1, upd r2 (elP f x e).length (some ⟨g40, 0, none⟩), g42)) _ _ ?_ ?_ ⟨rfl, rfl, rfl, rfl, rfl, trivial⟩
    ·
     refine ⟨lst2, by first | (first | assumption | (rw [hsn, slsL_snoc]; assumption) | (rw [hsn, List.length_append]; assumption)) | exact NO.of (by first | assumption | (rw [hsn, slsL_snoc]; assumption) | (rw [hsn, List.length_append]; assumption)) (by omega), by first | assumption | exact ⟨.inr (by omega)⟩ | exact ⟨.inl rfl⟩, by first | assumption | (rw [hsn, slsL_snoc]; assumption) | (rw [hsn, List.length_append]; assumption), by first | assumption | omega, ?_⟩
     have hR' := hR.st rk (.cons (hR.neNO hatO rfl rfl) (.cons (hR.neT hat4 rfl) (.nil _ _)))
     exact ⟨by omega, by rw [hsn]; exact hR'.snoc2 (x := [(x : Int), (e : Int)]) (by assumption) (hR.ne (by omega)) (by omega)⟩
    (dsimp only; omega)
   try simp only [sps] at h33
   refine .exit ?_
   refine hK7 _ _ (.region (.mv rfl ?_))
   refine .m rfl rfl rfl (.add rfl rfl rfl (by omega) (by omega)) ?_
   refine .mv rfl (.nil ?_)
   obtain rfl : e = (f.sz.getD x 0).toNat := by omega
   have hnx : elP f (x + 1) 0 = elP f x (f.sz.getD x 0).toNat := nestL_next
   refine hKL1 ((x + 1, r2, gLO2)) _ _ ?_ ?_ ⟨rfl, rfl, rfl, rfl, trivial⟩
   ·
    refine ⟨lst1, by first | (first | assumption | (rw [hnx]; assumption)) | exact NO.of (by first | assumption | (rw [hnx]; assumption)) (by omega), by first | assumption | exact pl_LO2.trans pl_LO (by omega) | exact ⟨.inr (by omega)⟩ | exact ⟨.inl rfl⟩, by first | assumption | (rw [hnx]; assumption), by first | assumption | omega, ?_⟩
    exact ⟨by omega, by rw [hnx]; exact hR⟩
   (dsimp only; omega)
  try simp only [sps] at h24
  refine .exit ?_
  refine hK3 _ _ (.seq (fun K12 hK12 => .seq (fun K13 hK13 => .region ?_)))
  obtain rfl : x = f.sz.length := by omega
  rw [show elP f f.sz.length 0 = elE f from rfl] at no_LO at_Lg4 hR
  have gO : H1002.next ≤ gLO := pl_LO.ge (by omega) (by omega)
  have vO : IntssR H1002.next HL1 (nz (elE f).length gLO) (elE f) rr := hR.doneNO no_LO rfl gO
  have hel := elE_le hf
  have hat0 := at_Lg4
  refine .m rfl rfl rfl (.fieldAddr fo_81_1_Ec rfl) ?_
  have bs_vO := vO
  have lv_vO : Keep H1002.next HL1 HL1 := fun _ _ _ h => h
  have iO := vO.intss
  refine .m rfl rfl rfl (.load on_23_B rfl (by first | assumption | exact Mem.of_get at_Lg4 5 _ rfl)) ?_
  refine .m rfl rfl rfl (.len sl_23_B rfl) (.m rfl rfl rfl (.cmp rfl rfl rfl) (.nil (hK13 _ _ ?_)))
  refine .cond rfl (fun h47 => ?_) (fun h47 => ?_)
  ·
   simp only [sps] at h47
   refine .seq (fun K14 hK14 => .region (.m rfl rfl rfl (.build bt_81_Ec rfl rfl rfl) ?_))
   refine .r0 rfl rfl (.fillR rfl sz_81_Ec rfl rfl rfl rfl (by assumption) (by first | rfl | exact Nat.le_of_ble_eq_true rfl | simp)) ?_
   rintro _ H10001 ⟨rfl, st10001, at10001⟩
   have nx_H10001 := st10001.nx
   replace hle := hle.st st10001 (fun k hk => ⟨by omega, trivial⟩)
   have ne_g1_g2 : g1 ≠ g2 := by first | assumption | omega
   replace at1 := st10001.same _ _ ⟨ne_g1_g2, trivial⟩ at1
   have ne_g2_gLO : g2 ≠ gLO := pl_LO.ne ne_g2_ghO (by omega)
   replace no_LO := no_LO.st st10001 ⟨(Ne.symm ne_g2_gLO), trivial⟩
   replace at_Lg4 := st10001.same _ _ ⟨(Ne.symm ne_g2_g4), trivial⟩ at_Lg4
   replace lv_vO := Keep.st lv_vO st10001 (fun k hb hk => ⟨(by omega), trivial⟩)
   replace vO := bs_vO.keep lv_vO (Nat.le_refl _)
   have lt_at10001 := GHeap.ltg at10001
   replace hin := base_hin.mono hle
   clear hb1 fsh1 c51 c61 i11 i21 hm1 hi1 hmsh1 hish1
   have hb1 : SFun.At _ g1 0 f p := ⟨Mem.of_get at1, hin⟩
   obtain ⟨fsh1, c51, c61, i11, i21⟩ := hb1.get
   have hm1 : MemN _ _ _ _ _ := ⟨rfl, hb1.1⟩
   have hi1 := hb1.2
   have hmsh1 : MemN _ _ _ _ _ := ⟨rfl, fsh1.1⟩
   have hish1 := fsh1.2
   clear mm1002
   have mm1002 : MemN _ _ _ _ _ := ⟨rfl, Mem.of_get at1002⟩
   clear iO
   have iO := vO.intss
   have mm10001 : MemN _ _ _ _ _ := ⟨rfl, Mem.of_get at10001⟩
   refine .mv rfl (.nil (hK14 _ _ ?_))
   refine .ret ?_
   refine hret _ _ ?_
   refine ⟨_, _, _, _, _, rfl, ag_81_Ec, (by rfl), (Mem.of_get at10001), rfl, ?_⟩
   obtain ⟨e1, e2, e3, _⟩ := els_3 hf (fun h => by omega)
   refine ⟨hle, .zero, none, fun _ => none, none, fun _ => none, ?_⟩
   rw [e1, e2, e3, B_false (p := f.ecOk) (fun h => by have := h.2; omega)]
   exact ⟨rfl, .zero _ _, .nil _ _ _, .nil _ _ _⟩
  simp only [sps] at h47
  have hn8 : (elE f).length ≤ 8 := by omega
  refine .skip ?_
  refine hK12 _ _ (.seq (fun K15 hK15 => .seq (fun K16 hK16 => .region (.mv rfl (.nil (hK16 _ _ ?_))))))
  refine .block ?_
  refine .hold (fun HhA lehA nxhA => ?_)
  obtain ⟨ghA, hghA⟩ : ∃ g, g = GHeap.next HL1 := ⟨_, rfl⟩
  have no_hA : NO HhA ghA [] 22 0 := NO.start (by omega) rfl rfl
  have nx_HhA := lehA.1
  replace hle := hle.trans lehA
  replace lst1 := lst1.le lehA
  replace at1 := lehA.2 _ _ at1
  replace at2 := lehA.2 _ _ at2
  replace no_LO := no_LO.le lehA
  replace at_Lg4 := lehA.2 _ _ at_Lg4
  replace lv_vO := Keep.le lv_vO lehA
  replace vO := bs_vO.keep lv_vO (Nat.le_refl _)
  have lt_no_hA := no_hA.lt
  replace hin := base_hin.mono hle
  clear hb1 fsh1 c51 c61 i11 i21 hm1 hi1 hmsh1 hish1
  have hb1 : SFun.At _ g1 0 f p := ⟨Mem.of_get at1, hin⟩
  obtain ⟨fsh1, c51, c61, i11, i21⟩ := hb1.get
  have hm1 : MemN _ _ _ _ _ := ⟨rfl, hb1.1⟩
  have hi1 := hb1.2
  have hmsh1 : MemN _ _ _ _ _ := ⟨rfl, fsh1.1⟩
  have hish1 := fsh1.2
  clear mm1002
  have mm1002 : MemN _ _ _ _ _ := ⟨rfl, Mem.of_get at1002⟩
  clear iO
  have iO := vO.intss
  refine .loopR (σ := Nat × (Nat → Option Addr) × Nat) [(1, some _), (2, some _), (4, some _)] (fun (i, ra, gLA) => [(7, some (.int .i64 (i : Int)))]) (fun (i, ra, gLA) H' => St [ghA, g4] HhA H' ∧ NO H' gLA (slsL ra (ecL f i 0 0)) 22 ((ecL f i 0 0).length) ∧ PL gLA ghA HhA.next ∧ H'.get g4 = some (.row ([.int .i64 0, .slice none 0 0, .slice none 0 0, .slice none 0 0, .slice none 0 0, .slice (nz (elE f).length gLO) (elE f).length (elE f).length, .slice (nz (ecL f i 0 0).length gLA) (ecL f i 0 0).length (ecL f i 0 0).length]) 81 true) ∧ gLA ≠ g4 ∧ i ≤ (elE f).length ∧ OwnL HL1.next H' 2 ra (ecL f i 0 0)) (fun (i, ra, gLA) => (elE f).length - i) ((0, fun _ => none, ghA)) ⟨rfl, rfl, rfl, trivial⟩ ⟨rfl, trivial⟩ ?_ ?_
  ·
   refine ⟨.refl _ _, by first | assumption | exact NO.start (by omega) (by first | rfl | (simp; done) | omega) (by first | rfl | (simp; done)), ⟨.inl rfl⟩, by first | assumption | exact at_Lg4 | simpa using at_Lg4, by omega, ?_⟩
   exact ⟨by omega, .nil _ _ _ _⟩
  rintro ⟨i, ra, gLA⟩ HL3 ⟨lst3, no_LA, pl_LA, at_Lg4, ap3_0, hI⟩ KL3 hKL3
  refine .forget (fr' := [(7, some (.int .i64 (i : Int))), (1, some _), (2, some _), (4, some _)]) ⟨rfl, rfl, rfl, rfl, trivial⟩ ?_
  have ge_LA : H.next ≤ gLA := pl_LA.ge (by omega) (by omega)
  have nx_HL3 := lst3.nx
  replace hle := hle.st lst3 (fun k hk => ⟨by omega, by omega, trivial⟩)
  replace lst1 := lst1.st lst3 (fun k hk ho => by simp only [out, and_true] at ho ⊢ <;> exact ⟨by first | exact ho | exact ho.1 | exact ho.2 | exact ho.2.1 | exact ho.2.2 | exact ho.2.2.1 | exact ho.2.2.2 | omega, by first | exact ho | exact ho.1 | exact ho.2 | exact ho.2.1 | exact ho.2.2 | exact ho.2.2.1 | exact ho.2.2.2 | omega⟩)
  have ne_g1_ghA : g1 ≠ ghA := by first | assumption | omega
  replace at1 := lst3.same _ _ ⟨ne_g1_ghA, ne_g1_g4, trivial⟩ at1
  have ne_g2_ghA : g2 ≠ ghA := by first | assumption | omega
  replace at2 := lst3.same _ _ ⟨ne_g2_ghA, ne_g2_g4, trivial⟩ at2
  have ne_gLO_ghA : gLO ≠ ghA := by first | assumption | omega
  replace no_LO := no_LO.st lst3 ⟨ne_gLO_ghA, ap1_0, trivial⟩
  replace lv_vO := Keep.st lv_vO lst3 (fun k hb hk => ⟨(by omega), (by omega), trivial⟩)
  replace vO := bs_vO.keep lv_vO (Nat.le_refl _)
  have lt_no_LA := no_LA.lt
  have lt_at_Lg4 := GHeap.ltg at_Lg4
  replace hin := base_hin.mono hle
  clear hb1 fsh1 c51 c61 i11 i21 hm1 hi1 hmsh1 hish1
  have hb1 : SFun.At _ g1 0 f p := ⟨Mem.of_get at1, hin⟩
  obtain ⟨fsh1, c51, c61, i11, i21⟩ := hb1.get
  have hm1 : MemN _ _ _ _ _ := ⟨rfl, hb1.1⟩
  have hi1 := hb1.2
  have hmsh1 : MemN _ _ _ _ _ := ⟨rfl, fsh1.1⟩
  have hish1 := fsh1.2
  clear mm1002
  have mm1002 : MemN _ _ _ _ _ := ⟨rfl, Mem.of_get at1002⟩
  clear iO
  have iO := vO.intss
  obtain ⟨hi2, hR⟩ := hI
  refine .seq (fun K17 hK17 => .seq (fun K18 hK18 => .region (.mv rfl (.m rfl rfl rfl (.fieldAddr fo_81_1_Ec rfl) ?_))))
  refine .m rfl rfl rfl (.load on_23_B rfl (by first | assumption | exact Mem.of_get at_Lg4 5 _ rfl)) ?_
  refine .m rfl rfl rfl (.len sl_23_B rfl) (.m rfl rfl rfl (.cmp rfl rfl rfl) (.nil (hK18 _ _ ?_)))
  refine .cond rfl (fun h53 => ?_) (fun h53 => ?_)
  ·
   simp only [sps] at h53
   have oi := hf.ecO (i := i) (by omega)
   obtain ⟨oi1, oi2, oi3, oi4, oi5, oi6, oi7, oi8⟩ := oi
   simp only [ecO] at oi1 oi2 oi3 oi4 oi5 oi6 oi7
   refine .skip ?_
   refine hK17 _ _ (.seq (fun K19 hK19 => ?_))
   refine .block ?_
   refine .seq (fun K20 hK20 => .region (.mv rfl (.nil (hK20 _ _ ?_))))
   refine .block ?_
   refine .loopR (σ := Nat × (Nat → Option Addr) × Nat) [(1, some _), (2, some _), (4, some _), (7, some _)] (fun (j, ra2, gLA2) => [(8, some (.int .i64 (j : Int)))]) (fun (j, ra2, gLA2) H' => St [gLA, g4] HL3 H' ∧ NO H' gLA2 (slsL ra2 (ecL f i j 0)) 22 ((ecL f i j 0).length) ∧ PL gLA2 gLA HL3.next ∧ H'.get g4 = some (.row ([.int .i64 0, .slice none 0 0, .slice none 0 0, .slice none 0 0, .slice none 0 0, .slice (nz (elE f).length gLO) (elE f).length (elE f).length, .slice (nz (ecL f i j 0).length gLA2) (ecL f i j 0).length (ecL f i j 0).length]) 81 true) ∧ gLA2 ≠ g4 ∧ j ≤ (elE f).length ∧ OwnL HL1.next H' 2 ra2 (ecL f i j 0)) (fun (j, ra2, gLA2) => (elE f).length - j) ((0, ra, gLA)) ⟨rfl, rfl, rfl, rfl, trivial⟩ ⟨rfl, trivial⟩ ?_ ?_
   ·
    refine ⟨.refl _ _, by first | assumption | exact NO.start (by omega) (by first | rfl | (simp; done) | omega) (by first | rfl | (simp; done)), ⟨.inl rfl⟩, by first | assumption | exact at_Lg4 | simpa using at_Lg4, by omega, ?_⟩
    exact ⟨by omega, hR⟩
   rintro ⟨j, ra2, gLA2⟩ HL4 ⟨lst4, no_LA2, pl_LA2, at_Lg4, ap4_0, hI⟩ KL4 hKL4
   refine .forget (fr' := [(8, some (.int .i64 (j : Int))), (1, some _), (2, some _), (4, some _), (7, some _)]) ⟨rfl, rfl, rfl, rfl, rfl, trivial⟩ ?_
   have ge_LA2 : H.next ≤ gLA2 := pl_LA2.ge (by omega) (by omega)
   have nx_HL4 := lst4.nx
   replace hle := hle.st lst4 (fun k hk => ⟨by omega, by omega, trivial⟩)
   replace lst1 := lst1.st lst4 (fun k hk ho => by simp only [out, and_true] at ho ⊢ <;> exact ⟨by first | exact ho | exact ho.1 | exact ho.2 | exact ho.2.1 | exact ho.2.2 | exact ho.2.2.1 | exact ho.2.2.2 | exact pl_LA.ne (by first | exact ho | exact ho.1 | exact ho.2 | exact ho.2.1 | exact ho.2.2 | exact ho.2.2.1 | exact ho.2.2.2 | omega) (by omega) | omega, by first | exact ho | exact ho.1 | exact ho.2 | exact ho.2.1 | exact ho.2.2 | exact ho.2.2.1 | exact ho.2.2.2 | omega⟩)
   replace lst3 := lst3.st lst4 (fun k hk ho => by simp only [out, and_true] at ho ⊢ <;> exact ⟨by first | exact ho | exact ho.1 | exact ho.2 | exact ho.2.1 | exact ho.2.2 | exact ho.2.2.1 | exact ho.2.2.2 | exact pl_LA.ne (by first | exact ho | exact ho.1 | exact ho.2 | exact ho.2.1 | exact ho.2.2 | exact ho.2.2.1 | exact ho.2.2.2 | omega) (by omega) | omega, by first | exact ho | exact ho.1 | exact ho.2 | exact ho.2.1 | exact ho.2.2 | exact ho.2.2.1 | exact ho.2.2.2 | omega⟩)
   have ne_g1_gLA : g1 ≠ gLA := pl_LA.ne ne_g1_ghA (by omega)
   replace at1 := lst4.same _ _ ⟨ne_g1_gLA, ne_g1_g4, trivial⟩ at1
   have ne_g2_gLA : g2 ≠ gLA := pl_LA.ne ne_g2_ghA (by omega)
   replace at2 := lst4.same _ _ ⟨ne_g2_gLA, ne_g2_g4, trivial⟩ at2
   have ne_gLO_gLA : gLO ≠ gLA := pl_LA.ne ne_gLO_ghA (by omega)
   replace no_LO := no_LO.st lst4 ⟨ne_gLO_gLA, ap1_0, trivial⟩
   replace lv_vO := Keep.st lv_vO lst4 (fun k hb hk => ⟨(by first | exact pl_LA.ne (by omega) (by omega) | omega), (by omega), trivial⟩)
   replace vO := bs_vO.keep lv_vO (Nat.le_refl _)
   have lt_no_LA2 := no_LA2.lt
   have lt_at_Lg4 := GHeap.ltg at_Lg4
   replace hin := base_hin.mono hle
   clear hb1 fsh1 c51 c61 i11 i21 hm1 hi1 hmsh1 hish1
   have hb1 : SFun.At _ g1 0 f p := ⟨Mem.of_get at1, hin⟩
   obtain ⟨fsh1, c51, c61, i11, i21⟩ := hb1.get
   have hm1 : MemN _ _ _ _ _ := ⟨rfl, hb1.1⟩
   have hi1 := hb1.2
   have hmsh1 : MemN _ _ _ _ _ := ⟨rfl, fsh1.1⟩
   have hish1 := fsh1.2
   clear mm1002
   have mm1002 : MemN _ _ _ _ _ := ⟨rfl, Mem.of_get at1002⟩
   clear iO
   have iO := vO.intss
   obtain ⟨hj2, hR⟩ := hI
   refine .seq (fun K21 hK21 => .seq (fun K22 hK22 => .region (.mv rfl (.m rfl rfl rfl (.fieldAddr fo_81_1_Ec rfl) ?_))))
   refine .m rfl rfl rfl (.load on_23_B rfl (by first | assumption | exact Mem.of_get at_Lg4 5 _ rfl)) ?_
   refine .m rfl rfl rfl (.len sl_23_B rfl) (.m rfl rfl rfl (.cmp rfl rfl rfl) (.nil (hK22 _ _ ?_)))
   refine .cond rfl (fun h60 => ?_) (fun h60 => ?_)
   ·
    simp only [sps] at h60
    have oj := hf.ecO (i := j) (by omega)
    obtain ⟨oj1, oj2, oj3, oj4, oj5, oj6, oj7, oj8⟩ := oj
    simp only [ecO] at oj1 oj2 oj3 oj4 oj5 oj6 oj7
    have u1 := iO.2 i (by omega)
    have u2 := iO.2 j (by omega)
    refine .skip ?_
    refine hK21 _ _ (.seq (fun K23 hK23 => ?_))
    refine .block ?_
    refine .seq (fun K24 hK24 => ?_)
    refine .regionD mo_B (.q 0 (.q 1 (.q 2 (.q 3 (.q 4 (.q 5 (.q 6 (.q 7 (.q 8 (.q 9 (.q 10 (.q 11 (.done))))))))))))) (by kernel_rfl) ?_
    refine .m rfl rfl rfl rfl (.refl _) (.fieldAddr fo_81_1_Ec rfl) ?_
    refine .m rfl rfl rfl rfl (.refl _) (.load on_23_B rfl (by first | assumption | exact Mem.of_get at_Lg4 5 _ rfl)) ?_
    refine .mv rfl rfl ?_
    refine .m rfl rfl rfl rfl (.refl _) (.idxN sl_23_B (by first | exact (Intss.sl (by assumption)) | exact SlA.of_row no_LO (by first | rfl | (simp; done) | (simp <;> omega))) rfl rfl (by omega)) ?_
    refine .m rfl rfl rfl rfl (.refl _) (.loadR on_22_B (by assumption) rfl (by omega)) ?_
    refine .m rfl rfl rfl rfl (.refl _) (.fieldAddr fo_81_1_Ec rfl) ?_
    refine .m rfl rfl rfl rfl (.refl _) (.load on_23_B rfl (by first | assumption | exact Mem.of_get at_Lg4 5 _ rfl)) ?_
    refine .mv rfl rfl ?_
    refine .m rfl rfl rfl rfl (.refl _) (.idxN sl_23_B (by first | exact (Intss.sl (by assumption)) | exact SlA.of_row no_LO (by first | rfl | (simp; done) | (simp <;> omega))) rfl rfl (by omega)) ?_
    refine .m rfl rfl rfl rfl (.refl _) (.loadR on_22_B (by assumption) rfl (by omega)) ?_
    refine .mv rfl rfl (.mv rfl rfl ?_)
    refine .done ?_
    refine hK24 _ _ (.seq (fun K25 hK25 => ?_))
    refine .regionD mo_B (.q 0 (.q 1 (.q 2 (.q 3 (.q 4 (.q 5 (.q 6 (.q 7 (.c 8 0 (.q 9 (.done))))))))))) (by kernel_rfl) ?_
    refine .m rfl rfl rfl rfl (.refl _) (.fieldAddr fo_46_0_P rfl) ?_
    refine .m rfl rfl rfl rfl (.refl _) (.loadM ag_31_D rfl (by assumption)) ?_
    refine .mv rfl rfl ?_
    refine .m rfl rfl rfl rfl (.refl _) (.idxN (j := 0) sl_22_A (by assumption) rfl rfl (by omega)) ?_
    refine .m rfl rfl rfl rfl (.refl _) (.loadI on_2_A (by assumption) rfl (by omega)) ?_
    refine .mv rfl rfl ?_
    refine .m rfl rfl rfl rfl (.refl _) (.idxN (j := 0) sl_22_A (by assumption) rfl rfl (by omega)) ?_
    refine .m rfl rfl rfl rfl (.refl _) (.loadI on_2_A (by assumption) rfl (by omega)) ?_
    refine .call0 rfl rfl rfl rfl rfl @Try.call85 rfl (l02Hom_c) ?_
    rintro _ H81 ⟨le81, g81, rfl, at81, ge81⟩
    have nx_H81 := le81.1
    replace hle := hle.trans le81
    replace lst1 := lst1.le le81
    replace lst3 := lst3.le le81
    replace lst4 := lst4.le le81
    replace at1 := le81.2 _ _ at1
    replace at2 := le81.2 _ _ at2
    replace no_LO := no_LO.le le81
    replace no_LA2 := no_LA2.le le81
    replace at_Lg4 := le81.2 _ _ at_Lg4
    replace lv_vO := Keep.le lv_vO le81
    replace vO := bs_vO.keep lv_vO (Nat.le_refl _)
    have lt_at81 := GHeap.ltg at81
    replace hin := base_hin.mono hle
    clear hb1 fsh1 c51 c61 i11 i21 hm1 hi1 hmsh1 hish1
    have hb1 : SFun.At _ g1 0 f p := ⟨Mem.of_get at1, hin⟩
    obtain ⟨fsh1, c51, c61, i11, i21⟩ := hb1.get
    have hm1 : MemN _ _ _ _ _ := ⟨rfl, hb1.1⟩
    have hi1 := hb1.2
    have hmsh1 : MemN _ _ _ _ _ := ⟨rfl, fsh1.1⟩
    have hish1 := fsh1.2
    clear mm1002
    have mm1002 : MemN _ _ _ _ _ := ⟨rfl, Mem.of_get at1002⟩
    clear iO
    have iO := vO.intss
    clear u1 u2
    have u1 := iO.2 i (by omega)
    have u2 := iO.2 j (by omega)
    have i81 := Ints.of_get at81
    refine .mv rfl rfl ?_
    refine .done ?_
    refine hK25 _ _ (.seq (fun K26 hK26 => .region (.mv rfl (.nil (hK26 _ _ ?_)))))
    refine .block ?_
    refine .loopR (σ := Nat × (Nat → Option Addr) × Nat) [(1, some _), (2, some _), (4, some _), (7, some _), (8, some _), (9, some _), (10, some _), (11, some _)] (fun (k, ra3, gLA3) => [(12, some (.int .i64 (k : Int)))]) (fun (k, ra3, gLA3) H' => St [gLA2, g4] H81 H' ∧ NO H' gLA3 (slsL ra3 (ecL f i j k)) 22 ((ecL f i j k).length) ∧ PL gLA3 gLA2 H81.next ∧ H'.get g4 = some (.row ([.int .i64 0, .slice none 0 0, .slice none 0 0, .slice none 0 0, .slice none 0 0, .slice (nz (elE f).length gLO) (elE f).length (elE f).length, .slice (nz (ecL f i j k).length gLA3) (ecL f i j k).length (ecL f i j k).length]) 81 true) ∧ gLA3 ≠ g4 ∧ k ≤ (f.sh.hom (((elE f).getD i []).getD 0 0) (((elE f).getD j []).getD 0 0)).length ∧ OwnL HL1.next H' 2 ra3 (ecL f i j k)) (fun (k, ra3, gLA3) => (f.sh.hom (((elE f).getD i []).getD 0 0) (((elE f).getD j []).getD 0 0)).length - k) ((0, ra2, gLA2)) ⟨rfl, rfl, rfl, rfl, rfl, rfl, rfl, rfl, trivial⟩ ⟨rfl, trivial⟩ ?_ ?_
    ·
     refine ⟨.refl _ _, by first | assumption | exact NO.start (by omega) (by first | rfl | (simp; done) | omega) (by first | rfl | (simp; done)), ⟨.inl rfl⟩, by first | assumption | exact at_Lg4 | simpa using at_Lg4, by omega, ?_⟩
     exact ⟨by omega, hR.keep (.of_le le81)⟩
    rintro ⟨k, ra3, gLA3⟩ HL5 ⟨lst5, no_LA3, pl_LA3, at_Lg4, ap5_0, hI⟩ KL5 hKL5
    refine .forget (fr' := [(12, some (.int .i64 (k : Int))), (1, some _), (2, some _), (4, some _), (7, some _), (8, some _), (9, some _), (10, some _), (11, some _)]) ⟨rfl, rfl, rfl, rfl, rfl, rfl, rfl, rfl, rfl, trivial⟩ ?_
    have ge_LA3 : H.next ≤ gLA3 := pl_LA3.ge (by omega) (by omega)
    have nx_HL5 := lst5.nx
    replace hle := hle.st lst5 (fun k hk => ⟨by omega, by omega, trivial⟩)
    replace lst1 := lst1.st lst5 (fun k hk ho => by simp only [out, and_true] at ho ⊢ <;> exact ⟨by first | exact ho | exact ho.1 | exact ho.2 | exact ho.2.1 | exact ho.2.2 | exact ho.2.2.1 | exact ho.2.2.2 | exact pl_LA2.ne (by first | exact ho | exact ho.1 | exact ho.2 | exact ho.2.1 | exact ho.2.2 | exact ho.2.2.1 | exact ho.2.2.2 | exact pl_LA.ne (by first | exact ho | exact ho.1 | exact ho.2 | exact ho.2.1 | exact ho.2.2 | exact ho.2.2.1 | exact ho.2.2.2 | omega) (by omega) | omega) (by omega) | omega, by first | exact ho | exact ho.1 | exact ho.2 | exact ho.2.1 | exact ho.2.2 | exact ho.2.2.1 | exact ho.2.2.2 | omega⟩)
    replace lst3 := lst3.st lst5 (fun k hk ho => by simp only [out, and_true] at ho ⊢ <;> exact ⟨by first | exact ho | exact ho.1 | exact ho.2 | exact ho.2.1 | exact ho.2.2 | exact ho.2.2.1 | exact ho.2.2.2 | exact pl_LA2.ne (by first | exact ho | exact ho.1 | exact ho.2 | exact ho.2.1 | exact ho.2.2 | exact ho.2.2.1 | exact ho.2.2.2 | exact pl_LA.ne (by first | exact ho | exact ho.1 | exact ho.2 | exact ho.2.1 | exact ho.2.2 | exact ho.2.2.1 | exact ho.2.2.2 | omega) (by omega) | omega) (by omega) | omega, by first | exact ho | exact ho.1 | exact ho.2 | exact ho.2.1 | exact ho.2.2 | exact ho.2.2.1 | exact ho.2.2.2 | omega⟩)
    replace lst4 := lst4.st lst5 (fun k hk ho => by simp only [out, and_true] at ho ⊢ <;> exact ⟨by first | exact ho | exact ho.1 | exact ho.2 | exact ho.2.1 | exact ho.2.2 | exact ho.2.2.1 | exact ho.2.2.2 | exact pl_LA2.ne (by first | exact ho | exact ho.1 | exact ho.2 | exact ho.2.1 | exact ho.2.2 | exact ho.2.2.1 | exact ho.2.2.2 | exact pl_LA.ne (by first | exact ho | exact ho.1 | exact ho.2 | exact ho.2.1 | exact ho.2.2 | exact ho.2.2.1 | exact ho.2.2.2 | omega) (by omega) | omega) (by omega) | omega, by first | exact ho | exact ho.1 | exact ho.2 | exact ho.2.1 | exact ho.2.2 | exact ho.2.2.1 | exact ho.2.2.2 | omega⟩)
    have ne_g1_gLA2 : g1 ≠ gLA2 := pl_LA2.ne ne_g1_gLA (by omega)
    replace at1 := lst5.same _ _ ⟨ne_g1_gLA2, ne_g1_g4, trivial⟩ at1
    have ne_g2_gLA2 : g2 ≠ gLA2 := pl_LA2.ne ne_g2_gLA (by omega)
    replace at2 := lst5.same _ _ ⟨ne_g2_gLA2, ne_g2_g4, trivial⟩ at2
    have ne_gLO_gLA2 : gLO ≠ gLA2 := pl_LA2.ne ne_gLO_gLA (by omega)
    replace no_LO := no_LO.st lst5 ⟨ne_gLO_gLA2, ap1_0, trivial⟩
    have ne_g81_gLA2 : g81 ≠ gLA2 := by first | assumption | omega
    have ne_g81_g4 : g81 ≠ g4 := by first | assumption | omega
    replace at81 := lst5.same _ _ ⟨ne_g81_gLA2, ne_g81_g4, trivial⟩ at81
    replace lv_vO := Keep.st lv_vO lst5 (fun k hb hk => ⟨(by first | exact pl_LA2.ne (by first | exact pl_LA.ne (by omega) (by omega) | omega) (by omega) | omega), (by omega), trivial⟩)
    replace vO := bs_vO.keep lv_vO (Nat.le_refl _)
    have lt_no_LA3 := no_LA3.lt
    have lt_at_Lg4 := GHeap.ltg at_Lg4
    replace hin := base_hin.mono hle
    clear hb1 fsh1 c51 c61 i11 i21 hm1 hi1 hmsh1 hish1
    have hb1 : SFun.At _ g1 0 f p := ⟨Mem.of_get at1, hin⟩
    obtain ⟨fsh1, c51, c61, i11, i21⟩ := hb1.get
    have hm1 : MemN _ _ _ _ _ := ⟨rfl, hb1.1⟩
    have hi1 := hb1.2
    have hmsh1 : MemN _ _ _ _ _ := ⟨rfl, fsh1.1⟩
    have hish1 := fsh1.2
    clear mm1002
    have mm1002 : MemN _ _ _ _ _ := ⟨rfl, Mem.of_get at1002⟩
    clear iO
    have iO := vO.intss
    clear u1 u2
    have u1 := iO.2 i (by omega)
    have u2 := iO.2 j (by omega)
    clear i81
    have i81 := Ints.of_get at81
    have rk := St.refl [gLA3, g4] HL5
    obtain ⟨hk2, hR⟩ := hI
    have hatA := no_LA3
    have hat4 := at_Lg4
    have hln := ecL_le hf hn8 (i := i) (j := j) (k := k) (by omega) (by omega) hk2
    have hfl : (slsL ra3 (ecL f i j k)).length = (ecL f i j k).length := length_slsL _ _
    refine .seq (fun K27 hK27 => .seq (fun K28 hK28 => .region (.mv rfl (.mv rfl (.m rfl rfl rfl (.len sl_22_A rfl) (.m rfl rfl rfl (.cmp rfl rfl rfl) (.nil (hK28 _ _ ?_))))))))
    refine .cond rfl (fun h85 => ?_) (fun h85 => ?_)
    ·
     simp only [sps] at h85
     have hhl := f.sh.hom_le (((elE f).getD i []).getD 0 0) (((elE f).getD j []).getD 0 0)
     obtain ⟨hh1, hh2, hh3⟩ := hf.ecH (i := i) (j := j) (k := k) (by omega) (show k < (ecH f i j).length from (by omega : k < (f.sh.hom (((elE f).getD i []).getD 0 0) (((elE f).getD j []).getD 0 0)).length))
     simp only [ecO, ecH] at hh1 hh2 hh3
     have u3 := i21.2 ((f.sh.hom (((elE f).getD i []).getD 0 0) (((elE f).getD j []).getD 0 0)).getD k 0).toNat (by omega)
     refine .skip ?_
     refine hK27 _ _ (.seq (fun K29 hK29 => ?_))
     refine .block ?_
     refine .seq (fun K30 hK30 => ?_)
     refine .regionD mo_B (.q 0 (.q 1 (.q 2 (.q 3 (.q 4 (.q 5 (.q 6 (.q 7 (.q 8 (.q 9 (.q 10 (.q 11 (.q 12 (.q 13 (.q 14 (.q 15 (.q 16 (.done)))))))))))))))))) (by kernel_rfl) ?_
     refine .m rfl rfl rfl rfl (.refl _) (.fieldAddr fo_46_2_P rfl) ?_
     refine .m rfl rfl rfl rfl (.refl _) (.load on_23_B rfl (by first | assumption | exact Mem.of_get at1 6 _ rfl)) ?_
     refine .mv rfl rfl (.mv rfl rfl ?_)
     refine .m rfl rfl rfl rfl (.refl _) (.idxN sl_22_A (by first | assumption | exact SlA.of_row at81 (by first | rfl | (simp; done) | (simp <;> omega))) rfl rfl (by omega)) ?_
     refine .m rfl rfl rfl rfl (.refl _) (.loadI on_2_A (by first | assumption | exact Ints.of_get at81) rfl (by omega)) ?_
     refine .m rfl rfl rfl rfl (.refl _) (.idx1 sl_23_B (Intss.sl (by assumption)) rfl rfl (by omega) (by omega)) ?_
     refine .m rfl rfl rfl rfl (.refl _) (.loadR on_22_B (by assumption) rfl (by omega)) ?_
     refine .mv rfl rfl ?_
     refine .m rfl rfl rfl rfl (.refl _) (.idxN (j := 1) sl_22_A (by assumption) rfl rfl (by omega)) ?_
     refine .m rfl rfl rfl rfl (.refl _) (.loadI on_2_A (by assumption) rfl (by omega)) ?_
     refine .m rfl rfl rfl rfl (.refl _) (.idx1 sl_22_A (by assumption) rfl rfl (by omega) (by omega)) ?_
     refine .m rfl rfl rfl rfl (.refl _) (.loadI on_2_A (by assumption) rfl (by omega)) ?_
     refine .mv rfl rfl ?_
     refine .m rfl rfl rfl rfl (.refl _) (.idxN (j := 1) sl_22_A (by assumption) rfl rfl (by omega)) ?_
     refine .m rfl rfl rfl rfl (.refl _) (.loadI on_2_A (by assumption) rfl (by omega)) ?_
     refine .m rfl rfl rfl rfl (.refl _) (.cmp rfl rfl rfl) ?_
     refine .done ?_
     refine hK30 _ _ ?_
     refine .cond rfl (fun h104 => ?_) (fun h104 => ?_)
     ·
      simp only [sps] at h104
      have hsl : (ecL f i j (k + 1)).length = (ecL f i j k).length + 1 := by rw [ecL_T h104, List.length_append]; rfl
      refine .regionD mo_B (.q 0 (.q 1 (.q 2 (.q 3 (.q 4 (.q 5 (.q 6 (.q 7 (.c 8 1 (.c 9 1 (.c 10 0 (.q 11 (.c 12 0 (.done)))))))))))))) (by kernel_rfl) ?_
      refine .m rfl rfl rfl rfl (.refl _) (.fieldAddr fo_81_2_Ec rfl) ?_
      refine .m rfl rfl rfl rfl (.refl _) (.load on_23_B rfl (by first | assumption | exact Mem.of_get at_Lg4 6 _ rfl)) ?_
      refine .mv rfl rfl (.mv rfl rfl (.mv rfl rfl (.mv rfl rfl ?_)))
      refine .m rfl rfl rfl rfl (.refl _) (.idxN sl_22_A (by first | assumption | exact SlA.of_row at81 (by first | rfl | (simp; done) | (simp <;> omega))) rfl rfl (by omega)) ?_
      refine .m rfl rfl rfl rfl (.refl _) (.loadI on_2_A (by first | assumption | exact Ints.of_get at81) rfl (by omega)) ?_
      refine .c1 rfl rfl rfl rfl (.litR rfl sl_22_A ze_2_E rfl rfl (by omega) (by omega) rfl rfl) ?_
      rintro _ H113 ⟨g113, rfl, le113, ge113, at113⟩
      have hbl := le113
      refine ⟨hbl, ?_⟩
      have nx_H113 := le113.1
      replace hle := hle.trans le113
      replace lst1 := lst1.le le113
      replace lst3 := lst3.le le113
      replace lst4 := lst4.le le113
      replace lst5 := lst5.le le113
      replace rk := rk.le le113
      replace at1 := le113.2 _ _ at1
      replace at2 := le113.2 _ _ at2
      replace no_LO := no_LO.le le113
      replace at81 := le113.2 _ _ at81
      replace no_LA3 := no_LA3.le le113
      replace at_Lg4 := le113.2 _ _ at_Lg4
      replace lv_vO := Keep.le lv_vO le113
      replace vO := bs_vO.keep lv_vO (Nat.le_refl _)
      have lt_at113 := GHeap.ltg at113
      replace hin := base_hin.mono hle
      clear hb1 fsh1 c51 c61 i11 i21 hm1 hi1 hmsh1 hish1
      have hb1 : SFun.At _ g1 0 f p := ⟨Mem.of_get at1, hin⟩
      obtain ⟨fsh1, c51, c61, i11, i21⟩ := hb1.get
      have hm1 : MemN _ _ _ _ _ := ⟨rfl, hb1.1⟩
      have hi1 := hb1.2
      have hmsh1 : MemN _ _ _ _ _ := ⟨rfl, fsh1.1⟩
      have hish1 := fsh1.2
      clear mm1002
      have mm1002 : MemN _ _ _ _ _ := ⟨rfl, Mem.of_get at1002⟩
      clear iO
      have iO := vO.intss
      clear u1 u2
      have u1 := iO.2 i (by omega)
      have u2 := iO.2 j (by omega)
      clear i81
      have i81 := Ints.of_get at81
      clear u3
      have u3 := i21.2 ((f.sh.hom (((elE f).getD i []).getD 0 0) (((elE f).getD j []).getD 0 0)).getD k 0).toNat (by omega)
      refine .c1 rfl rfl rfl rfl (.litR rfl sl_23_B ze_22_E rfl rfl (by omega) (by omega) rfl rfl) ?_
      rintro _ H114 ⟨g114, rfl, le114, ge114, at114⟩
      replace hbl := hbl.trans le114
      refine ⟨hbl, ?_⟩
      have nx_H114 := le114.1
      replace hle := hle.trans le114
      replace lst1 := lst1.le le114
      replace lst3 := lst3.le le114
      replace lst4 := lst4.le le114
      replace lst5 := lst5.le le114
      replace rk := rk.le le114
      replace at1 := le114.2 _ _ at1
      replace at2 := le114.2 _ _ at2
      replace no_LO := no_LO.le le114
      replace at81 := le114.2 _ _ at81
      replace no_LA3 := no_LA3.le le114
      replace at_Lg4 := le114.2 _ _ at_Lg4
      replace at113 := le114.2 _ _ at113
      replace lv_vO := Keep.le lv_vO le114
      replace vO := bs_vO.keep lv_vO (Nat.le_refl _)
      have lt_at114 := GHeap.ltg at114
      replace hin := base_hin.mono hle
      clear hb1 fsh1 c51 c61 i11 i21 hm1 hi1 hmsh1 hish1
      have hb1 : SFun.At _ g1 0 f p := ⟨Mem.of_get at1, hin⟩
      obtain ⟨fsh1, c51, c61, i11, i21⟩ := hb1.get
      have hm1 : MemN _ _ _ _ _ := ⟨rfl, hb1.1⟩
      have hi1 := hb1.2
      have hmsh1 : MemN _ _ _ _ _ := ⟨rfl, fsh1.1⟩
      have hish1 := fsh1.2
      clear mm1002
      have mm1002 : MemN _ _ _ _ _ := ⟨rfl, Mem.of_get at1002⟩
      clear iO
      have iO := vO.intss
      clear u1 u2
      have u1 := iO.2 i (by omega)
      have u2 := iO.2 j (by omega)
      clear i81
      have i81 := Ints.of_get at81
      clear u3
      have u3 := i21.2 ((f.sh.hom (((elE f).getD i []).getD 0 0) (((elE f).getD j []).getD 0 0)).getD k 0).toNat (by omega)
      refine .c0 rfl rfl rfl rfl (.appendNO rfl sl_23_B ze_22_E rfl by_22_E sl_23_B rfl rfl no_LA3 (by assumption) (by first | omega | (simp <;> omega)) rfl rfl (by omega) (by omega)) ?_
      rintro _ H115 ⟨g115, rfl, st115, ge115, at115⟩
      have nx_H115 := st115.nx
      replace hle := hle.st st115 (fun k hk => ⟨by omega, trivial⟩)
      replace lst1 := lst1.st st115 (fun k hk ho => by simp only [out, and_true] at ho ⊢ <;> first | exact ho | exact ho.1 | exact ho.2 | exact ho.2.1 | exact ho.2.2 | exact ho.2.2.1 | exact ho.2.2.2 | exact pl_LA3.ne (by first | exact ho | exact ho.1 | exact ho.2 | exact ho.2.1 | exact ho.2.2 | exact ho.2.2.1 | exact ho.2.2.2 | exact pl_LA2.ne (by first | exact ho | exact ho.1 | exact ho.2 | exact ho.2.1 | exact ho.2.2 | exact ho.2.2.1 | exact ho.2.2.2 | exact pl_LA.ne (by first | exact ho | exact ho.1 | exact ho.2 | exact ho.2.1 | exact ho.2.2 | exact ho.2.2.1 | exact ho.2.2.2 | omega) (by omega) | omega) (by omega) | omega) (by omega) | omega)
      replace lst3 := lst3.st st115 (fun k hk ho => by simp only [out, and_true] at ho ⊢ <;> first | exact ho | exact ho.1 | exact ho.2 | exact ho.2.1 | exact ho.2.2 | exact ho.2.2.1 | exact ho.2.2.2 | exact pl_LA3.ne (by first | exact ho | exact ho.1 | exact ho.2 | exact ho.2.1 | exact ho.2.2 | exact ho.2.2.1 | exact ho.2.2.2 | exact pl_LA2.ne (by first | exact ho | exact ho.1 | exact ho.2 | exact ho.2.1 | exact ho.2.2 | exact ho.2.2.1 | exact ho.2.2.2 | exact pl_LA.ne (by first | exact ho | exact ho.1 | exact ho.2 | exact ho.2.1 | exact ho.2.2 | exact ho.2.2.1 | exact ho.2.2.2 | omega) (by omega) | omega) (by omega) | omega) (by omega) | omega)
      replace lst4 := lst4.st st115 (fun k hk ho => by simp only [out, and_true] at ho ⊢ <;> first | exact ho | exact ho.1 | exact ho.2 | exact ho.2.1 | exact ho.2.2 | exact ho.2.2.1 | exact ho.2.2.2 | exact pl_LA3.ne (by first | exact ho | exact ho.1 | exact ho.2 | exact ho.2.1 | exact ho.2.2 | exact ho.2.2.1 | exact ho.2.2.2 | exact pl_LA2.ne (by first | exact ho | exact ho.1 | exact ho.2 | exact ho.2.1 | exact ho.2.2 | exact ho.2.2.1 | exact ho.2.2.2 | exact pl_LA.ne (by first | exact ho | exact ho.1 | exact ho.2 | exact ho.2.1 | exact ho.2.2 | exact ho.2.2.1 | exact ho.2.2.2 | omega) (by omega) | omega) (by omega) | omega) (by omega) | omega)
      replace lst5 := lst5.st st115 (fun k hk ho => by simp only [out, and_true] at ho ⊢ <;> first | exact ho | exact ho.1 | exact ho.2 | exact ho.2.1 | exact ho.2.2 | exact ho.2.2.1 | exact ho.2.2.2 | exact pl_LA3.ne (by first | exact ho | exact ho.1 | exact ho.2 | exact ho.2.1 | exact ho.2.2 | exact ho.2.2.1 | exact ho.2.2.2 | exact pl_LA2.ne (by first | exact ho | exact ho.1 | exact ho.2 | exact ho.2.1 | exact ho.2.2 | exact ho.2.2.1 | exact ho.2.2.2 | exact pl_LA.ne (by first | exact ho | exact ho.1 | exact ho.2 | exact ho.2.1 | exact ho.2.2 | exact ho.2.2.1 | exact ho.2.2.2 | omega) (by omega) | omega) (by omega) | omega) (by omega) | omega)
      replace rk := rk.st st115 (fun k hk ho => by simp only [out, and_true] at ho ⊢ <;> first | exact ho | exact ho.1 | exact ho.2 | exact ho.2.1 | exact ho.2.2 | exact ho.2.2.1 | exact ho.2.2.2 | exact pl_LA3.ne (by first | exact ho | exact ho.1 | exact ho.2 | exact ho.2.1 | exact ho.2.2 | exact ho.2.2.1 | exact ho.2.2.2 | exact pl_LA2.ne (by first | exact ho | exact ho.1 | exact ho.2 | exact ho.2.1 | exact ho.2.2 | exact ho.2.2.1 | exact ho.2.2.2 | exact pl_LA.ne (by first | exact ho | exact ho.1 | exact ho.2 | exact ho.2.1 | exact ho.2.2 | exact ho.2.2.1 | exact ho.2.2.2 | omega) (by omega) | omega) (by omega) | omega) (by omega) | omega)
      have ne_g1_gLA3 : g1 ≠ gLA3 := pl_LA3.ne ne_g1_gLA2 (by omega)
      replace at1 := st115.same _ _ ⟨ne_g1_gLA3, trivial⟩ at1
      have ne_g2_gLA3 : g2 ≠ gLA3 := pl_LA3.ne ne_g2_gLA2 (by omega)
      replace at2 := st115.same _ _ ⟨ne_g2_gLA3, trivial⟩ at2
      have ne_gLO_gLA3 : gLO ≠ gLA3 := pl_LA3.ne ne_gLO_gLA2 (by omega)
      replace no_LO := no_LO.st st115 ⟨ne_gLO_gLA3, trivial⟩
      have ne_g81_gLA3 : g81 ≠ gLA3 := pl_LA3.ne ne_g81_gLA2 (by omega)
      replace at81 := st115.same _ _ ⟨ne_g81_gLA3, trivial⟩ at81
      replace at_Lg4 := st115.same _ _ ⟨(Ne.symm ap5_0), trivial⟩ at_Lg4
      replace at113 := st115.same _ _ ⟨(by first | assumption | omega), trivial⟩ at113
      replace at114 := st115.same _ _ ⟨(by first | assumption | omega), trivial⟩ at114
      replace lv_vO := Keep.st lv_vO st115 (fun k hb hk => ⟨(by first | exact pl_LA3.ne (by first | exact pl_LA2.ne (by first | exact pl_LA.ne (by omega) (by omega) | omega) (by omega) | omega) (by omega) | omega), trivial⟩)
      replace vO := bs_vO.keep lv_vO (Nat.le_refl _)
      have lt_at115 := GHeap.ltg at115
      replace hin := base_hin.mono hle
      clear hb1 fsh1 c51 c61 i11 i21 hm1 hi1 hmsh1 hish1
      have hb1 : SFun.At _ g1 0 f p := ⟨Mem.of_get at1, hin⟩
      obtain ⟨fsh1, c51, c61, i11, i21⟩ := hb1.get
      have hm1 : MemN _ _ _ _ _ := ⟨rfl, hb1.1⟩
      have hi1 := hb1.2
      have hmsh1 : MemN _ _ _ _ _ := ⟨rfl, fsh1.1⟩
      have hish1 := fsh1.2
      clear mm1002
      have mm1002 : MemN _ _ _ _ _ := ⟨rfl, Mem.of_get at1002⟩
      clear iO
      have iO := vO.intss
      clear u1 u2
      have u1 := iO.2 i (by omega)
      have u2 := iO.2 j (by omega)
      clear i81
      have i81 := Ints.of_get at81
      clear u3
      have u3 := i21.2 ((f.sh.hom (((elE f).getD i []).getD 0 0) (((elE f).getD j []).getD 0 0)).getD k 0).toNat (by omega)
      refine .m rfl rfl rfl rfl (.refl _) (.fieldAddr fo_81_2_Ec rfl) ?_
      refine .r0 rfl rfl rfl (.storeR rfl sz_23_E rfl rfl rfl (by assumption) (by first | exact Nat.le_of_ble_eq_true rfl | (simp; done) | (simp <;> omega))) ?_
      rintro _ H23012 ⟨rfl, st23012, at23012⟩
      have nx_H23012 := st23012.nx
      replace hle := hle.st st23012 (fun k hk => ⟨by omega, trivial⟩)
      replace lst1 := lst1.st st23012 (fun k hk ho => by simp only [out, and_true] at ho ⊢ <;> first | exact ho | exact ho.1 | exact ho.2 | exact ho.2.1 | exact ho.2.2 | exact ho.2.2.1 | exact ho.2.2.2 | omega)
      replace lst3 := lst3.st st23012 (fun k hk ho => by simp only [out, and_true] at ho ⊢ <;> first | exact ho | exact ho.1 | exact ho.2 | exact ho.2.1 | exact ho.2.2 | exact ho.2.2.1 | exact ho.2.2.2 | omega)
      replace lst4 := lst4.st st23012 (fun k hk ho => by simp only [out, and_true] at ho ⊢ <;> first | exact ho | exact ho.1 | exact ho.2 | exact ho.2.1 | exact ho.2.2 | exact ho.2.2.1 | exact ho.2.2.2 | omega)
      replace lst5 := lst5.st st23012 (fun k hk ho => by simp only [out, and_true] at ho ⊢ <;> first | exact ho | exact ho.1 | exact ho.2 | exact ho.2.1 | exact ho.2.2 | exact ho.2.2.1 | exact ho.2.2.2 | omega)
      replace rk := rk.st st23012 (fun k hk ho => by simp only [out, and_true] at ho ⊢ <;> first | exact ho | exact ho.1 | exact ho.2 | exact ho.2.1 | exact ho.2.2 | exact ho.2.2.1 | exact ho.2.2.2 | omega)
      replace at1 := st23012.same _ _ ⟨ne_g1_g4, trivial⟩ at1
      replace at2 := st23012.same _ _ ⟨ne_g2_g4, trivial⟩ at2
      replace no_LO := no_LO.st st23012 ⟨ap1_0, trivial⟩
      replace at81 := st23012.same _ _ ⟨ne_g81_g4, trivial⟩ at81
      replace at113 := st23012.same _ _ ⟨(by first | assumption | omega), trivial⟩ at113
      replace at114 := st23012.same _ _ ⟨(by first | assumption | omega), trivial⟩ at114
      replace at115 := st23012.same _ _ ⟨(by first | assumption | omega), trivial⟩ at115
      replace lv_vO := Keep.st lv_vO st23012 (fun k hb hk => ⟨(by omega), trivial⟩)
      replace vO := bs_vO.keep lv_vO (Nat.le_refl _)
      have lt_at23012 := GHeap.ltg at23012
      replace hin := base_hin.mono hle
      clear hb1 fsh1 c51 c61 i11 i21 hm1 hi1 hmsh1 hish1
      have hb1 : SFun.At _ g1 0 f p := ⟨Mem.of_get at1, hin⟩
      obtain ⟨fsh1, c51, c61, i11, i21⟩ := hb1.get
      have hm1 : MemN _ _ _ _ _ := ⟨rfl, hb1.1⟩
      have hi1 := hb1.2
      have hmsh1 : MemN _ _ _ _ _ := ⟨rfl, fsh1.1⟩
      have hish1 := fsh1.2
      clear mm1002
      have mm1002 : MemN _ _ _ _ _ := ⟨rfl, Mem.of_get at1002⟩
      clear iO
      have iO := vO.intss
      clear u1 u2
      have u1 := iO.2 i (by omega)
      have u2 := iO.2 j (by omega)
      clear i81
      have i81 := Ints.of_get at81
      clear u3
      have u3 := i21.2 ((f.sh.hom (((elE f).getD i []).getD 0 0) (((elE f).getD j []).getD 0 0)).getD k 0).toNat (by omega)
      try simp only [Nat.zero_add, List.set_cons_succ, List.set_cons_zero] at at23012
      refine .done ?_
      refine hK29 _ _ (.region (.mv rfl ?_))
      refine .m rfl rfl rfl (.add rfl rfl rfl (by omega) (by omega)) ?_
      refine .mv rfl (.nil ?_)
      refine hKL5 ((k + 1, by first | exact upd ra3 (ecL f i j k).length (some ⟨g113, 0, none⟩) | exact ra3, g115)) _ _ ?_ ?_ ⟨rfl, rfl, rfl, rfl, rfl, rfl, rfl, rfl, rfl, trivial⟩
      ·
       refine ⟨lst5, by first | (first | assumption | (rw [ecL_T h104, slsL_snoc]; assumption) | (rw [ecL_T h104, List.length_append]; assumption) | (rw [ecL_F h104]; assumption)) | exact NO.of (by first | assumption | (rw [ecL_T h104, slsL_snoc]; assumption) | (rw [ecL_T h104, List.length_append]; assumption) | (rw [ecL_F h104]; assumption)) (by omega), by first | assumption | exact ⟨.inr (by omega)⟩ | exact ⟨.inl rfl⟩, by first | assumption | (rw [ecL_T h104, slsL_snoc]; assumption) | (rw [ecL_T h104, List.length_append]; assumption) | (rw [ecL_F h104]; assumption), by first | assumption | omega, ?_⟩
       first | (rw [ecL_F h104]; exact ⟨by omega, hR⟩) | (rw [ecL_T h104]; exact ⟨by omega, (hR.st rk (.cons (hR.neNO hatA rfl rfl) (.cons (hR.neT hat4 rfl) (.nil _ _)))).snoc2 (x := ecP f i j k) (by assumption) (hR.ne (by omega)) (by omega)⟩)
      (dsimp only; omega)
     simp only [sps] at h104
     refine .skip ?_
     refine hK29 _ _ (.region (.mv rfl ?_))
     refine .m rfl rfl rfl (.add rfl rfl rfl (by omega) (by omega)) ?_
     refine .mv rfl (.nil ?_)
     refine hKL5 ((k + 1, by first | exact upd ra3 (ecL f i j k).length (some ⟨g113, 0, none⟩) | exact ra3, gLA3)) _ _ ?_ ?_ ⟨rfl, rfl, rfl, rfl, rfl, rfl, rfl, rfl, rfl, trivial⟩
     ·
      refine ⟨lst5, by first | (first | assumption | (rw [ecL_T h104, slsL_snoc]; assumption) | (rw [ecL_T h104, List.length_append]; assumption) | (rw [ecL_F h104]; assumption)) | exact NO.of (by first | assumption | (rw [ecL_T h104, slsL_snoc]; assumption) | (rw [ecL_T h104, List.length_append]; assumption) | (rw [ecL_F h104]; assumption)) (by omega), by first | assumption | exact ⟨.inr (by omega)⟩ | exact ⟨.inl rfl⟩, by first | assumption | (rw [ecL_T h104, slsL_snoc]; assumption) | (rw [ecL_T h104, List.length_append]; assumption) | (rw [ecL_F h104]; assumption), by first | assumption | omega, ?_⟩
      first | (rw [ecL_F h104]; exact ⟨by omega, hR⟩) | (rw [ecL_T h104]; exact ⟨by omega, (hR.st rk (.cons (hR.neNO hatA rfl rfl) (.cons (hR.neT hat4 rfl) (.nil _ _)))).snoc2 (x := ecP f i j k) (by assumption) (hR.ne (by omega)) (by omega)⟩)
     (dsimp only; omega)
    try simp only [sps] at h85
    refine .exit ?_
    refine hK23 _ _ (.region (.mv rfl ?_))
    refine .m rfl rfl rfl (.add rfl rfl rfl (by omega) (by omega)) ?_
    refine .mv rfl (.nil ?_)
    obtain rfl : k = (f.sh.hom (((elE f).getD i []).getD 0 0) (((elE f).getD j []).getD 0 0)).length := by omega
    refine hKL4 ((j + 1, ra3, gLA3)) _ _ ?_ ?_ ⟨rfl, rfl, rfl, rfl, rfl, trivial⟩
    ·
     refine ⟨lst4, by first | (first | assumption | (rw [ecL_next2]; assumption)) | exact NO.of (by first | assumption | (rw [ecL_next2]; assumption)) (by omega), by first | assumption | exact pl_LA3.trans pl_LA2 (by omega) | exact ⟨.inr (by omega)⟩ | exact ⟨.inl rfl⟩, by first | assumption | (rw [ecL_next2]; assumption), by first | assumption | omega, ?_⟩
     exact ⟨by omega, by rw [ecL_next2]; exact hR⟩
    (dsimp only; omega)
   try simp only [sps] at h60
   refine .exit ?_
   refine hK19 _ _ (.region (.mv rfl ?_))
   refine .m rfl rfl rfl (.add rfl rfl rfl (by omega) (by omega)) ?_
   refine .mv rfl (.nil ?_)
   obtain rfl : j = (elE f).length := by omega
   refine hKL3 ((i + 1, ra2, gLA2)) _ _ ?_ ?_ ⟨rfl, rfl, rfl, rfl, trivial⟩
   ·
    refine ⟨lst3, by first | (first | assumption | (rw [ecL_next1]; assumption)) | exact NO.of (by first | assumption | (rw [ecL_next1]; assumption)) (by omega), by first | assumption | exact pl_LA2.trans pl_LA (by omega) | exact ⟨.inr (by omega)⟩ | exact ⟨.inl rfl⟩, by first | assumption | (rw [ecL_next1]; assumption), by first | assumption | omega, ?_⟩
    exact ⟨by omega, by rw [ecL_next1]; exact hR⟩
   (dsimp only; omega)
  try simp only [sps] at h53
  refine .exit ?_
  refine hK15 _ _ (.seq (fun K31 hK31 => .seq (fun K32 hK32 => .region ?_)))
  obtain rfl : i = (elE f).length := by omega
  rw [show ecL f (elE f).length 0 0 = ecA f from rfl] at no_LA at_Lg4 hR
  have gA : HL1.next ≤ gLA := pl_LA.ge (by omega) (by omega)
  have vA : IntssR HL1.next HL3 (nz (ecA f).length gLA) (ecA f) ra := hR.doneNO no_LA rfl gA
  have hal := ecA_le hf hn8
  have hat1 := at_Lg4
  refine .m rfl rfl rfl (.fieldAddr fo_81_2_Ec rfl) ?_
  have bs_vA := vA
  have lv_vA : Keep HL1.next HL3 HL3 := fun _ _ _ h => h
  have iA := vA.intss
  refine .m rfl rfl rfl (.load on_23_B rfl (by first | assumption | exact Mem.of_get at_Lg4 6 _ rfl)) ?_
  refine .m rfl rfl rfl (.len sl_23_B rfl) (.m rfl rfl rfl (.cmp rfl rfl rfl) (.nil (hK32 _ _ ?_)))
  refine .cond rfl (fun h120 => ?_) (fun h120 => ?_)
  ·
   simp only [sps] at h120
   refine .seq (fun K33 hK33 => .region (.m rfl rfl rfl (.build bt_81_Ec rfl rfl rfl) ?_))
   refine .r0 rfl rfl (.fillR rfl sz_81_Ec rfl rfl rfl rfl (by assumption) (by first | rfl | exact Nat.le_of_ble_eq_true rfl | simp)) ?_
   rintro _ H25001 ⟨rfl, st25001, at25001⟩
   have nx_H25001 := st25001.nx
   replace hle := hle.st st25001 (fun k hk => ⟨by omega, trivial⟩)
   have ne_g1_g2 : g1 ≠ g2 := by first | assumption | omega
   replace at1 := st25001.same _ _ ⟨ne_g1_g2, trivial⟩ at1
   have ne_g2_gLO : g2 ≠ gLO := pl_LO.ne ne_g2_ghO (by omega)
   replace no_LO := no_LO.st st25001 ⟨(Ne.symm ne_g2_gLO), trivial⟩
   have ne_g2_gLA : g2 ≠ gLA := pl_LA.ne ne_g2_ghA (by omega)
   replace no_LA := no_LA.st st25001 ⟨(Ne.symm ne_g2_gLA), trivial⟩
   replace at_Lg4 := st25001.same _ _ ⟨(Ne.symm ne_g2_g4), trivial⟩ at_Lg4
   replace lv_vO := Keep.st lv_vO st25001 (fun k hb hk => ⟨(by omega), trivial⟩)
   replace vO := bs_vO.keep lv_vO (Nat.le_refl _)
   replace lv_vA := Keep.st lv_vA st25001 (fun k hb hk => ⟨(by omega), trivial⟩)
   replace vA := bs_vA.keep lv_vA (Nat.le_refl _)
   have lt_at25001 := GHeap.ltg at25001
   replace hin := base_hin.mono hle
   clear hb1 fsh1 c51 c61 i11 i21 hm1 hi1 hmsh1 hish1
   have hb1 : SFun.At _ g1 0 f p := ⟨Mem.of_get at1, hin⟩
   obtain ⟨fsh1, c51, c61, i11, i21⟩ := hb1.get
   have hm1 : MemN _ _ _ _ _ := ⟨rfl, hb1.1⟩
   have hi1 := hb1.2
   have hmsh1 : MemN _ _ _ _ _ := ⟨rfl, fsh1.1⟩
   have hish1 := fsh1.2
   clear mm1002
   have mm1002 : MemN _ _ _ _ _ := ⟨rfl, Mem.of_get at1002⟩
   clear iO
   have iO := vO.intss
   clear iA
   have iA := vA.intss
   have mm25001 : MemN _ _ _ _ _ := ⟨rfl, Mem.of_get at25001⟩
   refine .mv rfl (.nil (hK33 _ _ ?_))
   refine .ret ?_
   refine hret _ _ ?_
   refine ⟨_, _, _, _, _, rfl, ag_81_Ec, (by rfl), (Mem.of_get at25001), rfl, ?_⟩
   obtain ⟨e1, e2, e3, _⟩ := els_3 hf (fun h => by omega)
   refine ⟨hle, .zero, none, fun _ => none, none, fun _ => none, ?_⟩
   rw [e1, e2, e3, B_false (p := f.ecOk) (fun h => by have := h.2; omega)]
   exact ⟨rfl, .zero _ _, .nil _ _ _, .nil _ _ _⟩
  simp only [sps] at h120
  have hm40 : (ecA f).length ≤ 40 := by omega
  refine .skip ?_
  refine hK31 _ _ (.seq (fun K34 hK34 => .region (.m rfl rfl rfl (.fieldAddr fo_81_1_Ec rfl) ?_)))
  refine .m rfl rfl rfl (.load on_23_B rfl (by first | assumption | exact Mem.of_get at_Lg4 5 _ rfl)) ?_
  refine .m rfl rfl rfl (.len sl_23_B rfl) (.m rfl rfl rfl (.build bt_31_Ec rfl rfl rfl) (.m rfl rfl rfl (.fieldAddr fo_81_0_Ec rfl) ?_))
  refine .r0 rfl rfl (.storeNR rfl sz_31_D rfl rfl rfl rfl (by assumption) (by first | rfl | exact Nat.le_of_ble_eq_true rfl | simp)) ?_
  rintro _ H26005 ⟨rfl, st26005, at26005⟩
  have nx_H26005 := st26005.nx
  replace hle := hle.st st26005 (fun k hk => ⟨by omega, trivial⟩)
  replace lst1 := lst1.st st26005 (fun k hk ho => by simp only [out, and_true] at ho ⊢ <;> first | exact ho | exact ho.1 | exact ho.2 | exact ho.2.1 | exact ho.2.2 | exact ho.2.2.1 | exact ho.2.2.2 | omega)
  replace at1 := st26005.same _ _ ⟨ne_g1_g4, trivial⟩ at1
  replace at2 := st26005.same _ _ ⟨ne_g2_g4, trivial⟩ at2
  replace no_LO := no_LO.st st26005 ⟨ap1_0, trivial⟩
  replace no_LA := no_LA.st st26005 ⟨ap3_0, trivial⟩
  replace lv_vO := Keep.st lv_vO st26005 (fun k hb hk => ⟨(by omega), trivial⟩)
  replace vO := bs_vO.keep lv_vO (Nat.le_refl _)
  replace lv_vA := Keep.st lv_vA st26005 (fun k hb hk => ⟨(by omega), trivial⟩)
  replace vA := bs_vA.keep lv_vA (Nat.le_refl _)
  have lt_at26005 := GHeap.ltg at26005
  replace hin := base_hin.mono hle
  clear hb1 fsh1 c51 c61 i11 i21 hm1 hi1 hmsh1 hish1
  have hb1 : SFun.At _ g1 0 f p := ⟨Mem.of_get at1, hin⟩
  obtain ⟨fsh1, c51, c61, i11, i21⟩ := hb1.get
  have hm1 : MemN _ _ _ _ _ := ⟨rfl, hb1.1⟩
  have hi1 := hb1.2
  have hmsh1 : MemN _ _ _ _ _ := ⟨rfl, fsh1.1⟩
  have hish1 := fsh1.2
  clear mm1002
  have mm1002 : MemN _ _ _ _ _ := ⟨rfl, Mem.of_get at1002⟩
  clear iO
  have iO := vO.intss
  clear iA
  have iA := vA.intss
  replace at26005 : GHeap.get H26005 g4 = some (.row [.int .i64 ((elE f).length : Int), .slice none 0 0, .slice none 0 0, .slice none 0 0, .slice none 0 0, .slice (nz (elE f).length gLO) (elE f).length (elE f).length, .slice (nz (ecA f).length gLA) (ecA f).length (ecA f).length] 81 true) := at26005
  refine .nil (hK34 _ _ (.seq (fun K35 hK35 => .seq (fun K36 hK36 => .region (.mv rfl (.nil (hK36 _ _ ?_)))))))
  refine .block ?_
  refine .hold (fun HhI lehI nxhI => ?_)
  obtain ⟨ghI, hghI⟩ : ∃ g, g = GHeap.next H26005 := ⟨_, rfl⟩
  have no_hI : NO HhI ghI [] 2 0 := NO.start (by omega) rfl rfl
  have nx_HhI := lehI.1
  replace hle := hle.trans lehI
  replace lst1 := lst1.le lehI
  replace at1 := lehI.2 _ _ at1
  replace at2 := lehI.2 _ _ at2
  replace no_LO := no_LO.le lehI
  replace no_LA := no_LA.le lehI
  replace at26005 := lehI.2 _ _ at26005
  replace lv_vO := Keep.le lv_vO lehI
  replace vO := bs_vO.keep lv_vO (Nat.le_refl _)
  replace lv_vA := Keep.le lv_vA lehI
  replace vA := bs_vA.keep lv_vA (Nat.le_refl _)
  have lt_no_hI := no_hI.lt
  replace hin := base_hin.mono hle
  clear hb1 fsh1 c51 c61 i11 i21 hm1 hi1 hmsh1 hish1
  have hb1 : SFun.At _ g1 0 f p := ⟨Mem.of_get at1, hin⟩
  obtain ⟨fsh1, c51, c61, i11, i21⟩ := hb1.get
  have hm1 : MemN _ _ _ _ _ := ⟨rfl, hb1.1⟩
  have hi1 := hb1.2
  have hmsh1 : MemN _ _ _ _ _ := ⟨rfl, fsh1.1⟩
  have hish1 := fsh1.2
  clear mm1002
  have mm1002 : MemN _ _ _ _ _ := ⟨rfl, Mem.of_get at1002⟩
  clear iO
  have iO := vO.intss
  clear iA
  have iA := vA.intss
  refine .loopR (σ := Nat × Nat) [(1, some _), (2, some _), (4, some _)] (fun (x, gLI) => [(13, some (.int .i64 (x : Int)))]) (fun (x, gLI) H' => St [ghI, g4] HhI H' ∧ NO H' gLI (ints ((List.range x).map fun i => idxLL (ecA f) (ecI f i))) 2 (x) ∧ PL gLI ghI HhI.next ∧ H'.get g4 = some (.row ([.int .i64 ((elE f).length : Int), .slice none 0 0, .slice none 0 0, .slice (nz x gLI) x x, .slice none 0 0, .slice (nz (elE f).length gLO) (elE f).length (elE f).length, .slice (nz (ecA f).length gLA) (ecA f).length (ecA f).length]) 81 true) ∧ gLI ≠ g4 ∧ x ≤ (elE f).length) (fun (x, gLI) => (elE f).length - x) ((0, ghI)) ⟨rfl, rfl, rfl, trivial⟩ ⟨rfl, trivial⟩ ?_ ?_
  ·
   refine ⟨.refl _ _, by first | assumption | exact NO.start (by omega) (by first | rfl | (simp; done) | omega) (by first | rfl | (simp; done)), ⟨.inl rfl⟩, by first | assumption | exact at26005 | simpa using at26005, by omega, ?_⟩
   omega
  rintro ⟨x, gLI⟩ HL6 ⟨lst6, no_LI, pl_LI, at_Lg4, ap6_0, hI⟩ KL6 hKL6
  refine .forget (fr' := [(13, some (.int .i64 (x : Int))), (1, some _), (2, some _), (4, some _)]) ⟨rfl, rfl, rfl, rfl, trivial⟩ ?_
  have ge_LI : H.next ≤ gLI := pl_LI.ge (by omega) (by omega)
  have nx_HL6 := lst6.nx
  replace hle := hle.st lst6 (fun k hk => ⟨by omega, by omega, trivial⟩)
  replace lst1 := lst1.st lst6 (fun k hk ho => by simp only [out, and_true] at ho ⊢ <;> exact ⟨by first | exact ho | exact ho.1 | exact ho.2 | exact ho.2.1 | exact ho.2.2 | exact ho.2.2.1 | exact ho.2.2.2 | omega, by first | exact ho | exact ho.1 | exact ho.2 | exact ho.2.1 | exact ho.2.2 | exact ho.2.2.1 | exact ho.2.2.2 | omega⟩)
  have ne_g1_ghI : g1 ≠ ghI := by first | assumption | omega
  replace at1 := lst6.same _ _ ⟨ne_g1_ghI, ne_g1_g4, trivial⟩ at1
  have ne_g2_ghI : g2 ≠ ghI := by first | assumption | omega
  replace at2 := lst6.same _ _ ⟨ne_g2_ghI, ne_g2_g4, trivial⟩ at2
  have ne_gLO_ghI : gLO ≠ ghI := by first | assumption | omega
  replace no_LO := no_LO.st lst6 ⟨ne_gLO_ghI, ap1_0, trivial⟩
  have ne_gLA_ghI : gLA ≠ ghI := by first | assumption | omega
  replace no_LA := no_LA.st lst6 ⟨ne_gLA_ghI, ap3_0, trivial⟩
  replace lv_vO := Keep.st lv_vO lst6 (fun k hb hk => ⟨(by omega), (by omega), trivial⟩)
  replace vO := bs_vO.keep lv_vO (Nat.le_refl _)
  replace lv_vA := Keep.st lv_vA lst6 (fun k hb hk => ⟨(by omega), (by omega), trivial⟩)
  replace vA := bs_vA.keep lv_vA (Nat.le_refl _)
  have lt_no_LI := no_LI.lt
  have lt_at_Lg4 := GHeap.ltg at_Lg4
  replace hin := base_hin.mono hle
  clear hb1 fsh1 c51 c61 i11 i21 hm1 hi1 hmsh1 hish1
  have hb1 : SFun.At _ g1 0 f p := ⟨Mem.of_get at1, hin⟩
  obtain ⟨fsh1, c51, c61, i11, i21⟩ := hb1.get
  have hm1 : MemN _ _ _ _ _ := ⟨rfl, hb1.1⟩
  have hi1 := hb1.2
  have hmsh1 : MemN _ _ _ _ _ := ⟨rfl, fsh1.1⟩
  have hish1 := fsh1.2
  clear mm1002
  have mm1002 : MemN _ _ _ _ _ := ⟨rfl, Mem.of_get at1002⟩
  clear iO
  have iO := vO.intss
  clear iA
  have iA := vA.intss
  have hil : ((List.range x).map fun i => idxLL (ecA f) (ecI f i)).length = x := by simp
  refine .seq (fun K37 hK37 => .seq (fun K38 hK38 => .region (.mv rfl (.m rfl rfl rfl (.fieldAddr fo_81_1_Ec rfl) ?_))))
  refine .m rfl rfl rfl (.load on_23_B rfl (by first | assumption | exact Mem.of_get at_Lg4 5 _ rfl)) ?_
  refine .m rfl rfl rfl (.len sl_23_B rfl) (.m rfl rfl rfl (.cmp rfl rfl rfl) (.nil (hK38 _ _ ?_)))
  refine .cond rfl (fun h131 => ?_) (fun h131 => ?_)
  ·
   simp only [sps] at h131
   have ox := hf.ecO (i := x) (by omega)
   obtain ⟨ox1, ox2, ox3, ox4, ox5, ox6, ox7, ox8⟩ := ox
   simp only [ecO] at ox1 ox2 ox3 ox4 ox5 ox6 ox7
   have u1 := iO.2 x (by omega)
   obtain ⟨-, -, -, s3, -, -, -, si3, -⟩ := fsh1.get
   refine .skip ?_
   refine hK37 _ _ (.seq (fun K39 hK39 => ?_))
   refine .block ?_
   refine .regionD mo_B (.q 0 (.q 1 (.q 2 (.q 3 (.q 4 (.q 5 (.q 6 (.q 7 (.q 8 (.q 9 (.q 10 (.q 11 (.q 12 (.q 13 (.q 14 (.q 15 (.q 16 (.q 17 (.q 18 (.c 19 1 (.c 20 1 (.c 21 1 (.c 22 0 (.q 23 (.q 24 (.c 25 0 (.done))))))))))))))))))))))))))) (by kernel_rfl) ?_
   refine .m rfl rfl rfl rfl (.refl _) (.fieldAddr fo_81_0_Ec rfl) (.m rfl rfl rfl rfl (.refl _) (.fieldAddr fo_31_3_B rfl) ?_)
   refine .m rfl rfl rfl rfl (.refl _) (.load on_22_B rfl (by first | assumption | exact Mem.of_get at_Lg4 3 _ rfl)) ?_
   refine .m rfl rfl rfl rfl (.refl _) (.fieldAddr fo_81_2_Ec rfl) ?_
   refine .m rfl rfl rfl rfl (.refl _) (.load on_23_B rfl (by first | assumption | exact Mem.of_get at_Lg4 6 _ rfl)) ?_
   refine .mv rfl rfl (.mv rfl rfl (.m rfl rfl rfl rfl (.refl _) (.fieldAddr fo_46_0_P rfl) (.m rfl rfl rfl rfl (.refl _) (.fieldAddr fo_31_3_B rfl) ?_)))
   refine .m rfl rfl rfl rfl (.refl _) (.load on_22_B rfl (by first | assumption | exact Mem.of_get at1 3 _ rfl)) ?_
   refine .m rfl rfl rfl rfl (.refl _) (.fieldAddr fo_81_1_Ec rfl) ?_
   refine .m rfl rfl rfl rfl (.refl _) (.load on_23_B rfl (by first | assumption | exact Mem.of_get at_Lg4 5 _ rfl)) ?_
   refine .mv rfl rfl ?_
   refine .m rfl rfl rfl rfl (.refl _) (.idxN sl_23_B (by first | exact (Intss.sl (by assumption)) | exact SlA.of_row no_LO (by first | rfl | (simp; done) | (simp <;> omega))) rfl rfl (by omega)) ?_
   refine .m rfl rfl rfl rfl (.refl _) (.loadR on_22_B (by assumption) rfl (by omega)) ?_
   refine .m rfl rfl rfl rfl (.refl _) (.idxN (j := 0) sl_22_A (by assumption) rfl rfl (by omega)) ?_
   refine .m rfl rfl rfl rfl (.refl _) (.loadI on_2_A (by assumption) rfl (by omega)) ?_
   refine .m rfl rfl rfl rfl (.refl _) (.idx1 sl_22_A (by assumption) rfl rfl (by omega) (by omega)) ?_
   refine .m rfl rfl rfl rfl (.refl _) (.loadI on_2_A (by assumption) rfl (by omega)) ?_
   refine .c1 rfl rfl rfl rfl (.litR rfl sl_22_A ze_2_E rfl rfl (by omega) (by omega) rfl rfl) ?_
   rintro _ H153 ⟨g153, rfl, le153, ge153, at153⟩
   have hbl := le153
   refine ⟨hbl, ?_⟩
   have nx_H153 := le153.1
   replace hle := hle.trans le153
   replace lst1 := lst1.le le153
   replace lst6 := lst6.le le153
   replace at1 := le153.2 _ _ at1
   replace at2 := le153.2 _ _ at2
   replace no_LO := no_LO.le le153
   replace no_LA := no_LA.le le153
   replace no_LI := no_LI.le le153
   replace at_Lg4 := le153.2 _ _ at_Lg4
   replace lv_vO := Keep.le lv_vO le153
   replace vO := bs_vO.keep lv_vO (Nat.le_refl _)
   replace lv_vA := Keep.le lv_vA le153
   replace vA := bs_vA.keep lv_vA (Nat.le_refl _)
   have lt_at153 := GHeap.ltg at153
   replace hin := base_hin.mono hle
   clear hb1 fsh1 c51 c61 i11 i21 hm1 hi1 hmsh1 hish1
   have hb1 : SFun.At _ g1 0 f p := ⟨Mem.of_get at1, hin⟩
   obtain ⟨fsh1, c51, c61, i11, i21⟩ := hb1.get
   have hm1 : MemN _ _ _ _ _ := ⟨rfl, hb1.1⟩
   have hi1 := hb1.2
   have hmsh1 : MemN _ _ _ _ _ := ⟨rfl, fsh1.1⟩
   have hish1 := fsh1.2
   clear mm1002
   have mm1002 : MemN _ _ _ _ _ := ⟨rfl, Mem.of_get at1002⟩
   clear iO
   have iO := vO.intss
   clear iA
   have iA := vA.intss
   clear u1 s3 si3
   have u1 := iO.2 x (by omega)
   obtain ⟨-, -, -, s3, -, -, -, si3, -⟩ := fsh1.get
   refine .call1 rfl rfl rfl rfl rfl @Try.call86 rfl ((l05Place_c iA (Ints.of_get (xs := ecI f x) (by assumption)) (by omega) (fun i => by have := ecA_row hf hn8 i; omega) (by show 3 ≤ 1048576; omega))) ?_
   rintro _ _ ⟨rfl, rfl⟩
   refine ⟨(by assumption), ?_⟩
   refine .c1 rfl rfl rfl rfl (.litR rfl sl_22_A ze_2_E rfl rfl (by omega) (by omega) rfl rfl) ?_
   rintro _ H155 ⟨g155, rfl, le155, ge155, at155⟩
   replace hbl := hbl.trans le155
   refine ⟨hbl, ?_⟩
   have nx_H155 := le155.1
   replace hle := hle.trans le155
   replace lst1 := lst1.le le155
   replace lst6 := lst6.le le155
   replace at1 := le155.2 _ _ at1
   replace at2 := le155.2 _ _ at2
   replace no_LO := no_LO.le le155
   replace no_LA := no_LA.le le155
   replace no_LI := no_LI.le le155
   replace at_Lg4 := le155.2 _ _ at_Lg4
   replace at153 := le155.2 _ _ at153
   replace lv_vO := Keep.le lv_vO le155
   replace vO := bs_vO.keep lv_vO (Nat.le_refl _)
   replace lv_vA := Keep.le lv_vA le155
   replace vA := bs_vA.keep lv_vA (Nat.le_refl _)
   have lt_at155 := GHeap.ltg at155
   replace hin := base_hin.mono hle
   clear hb1 fsh1 c51 c61 i11 i21 hm1 hi1 hmsh1 hish1
   have hb1 : SFun.At _ g1 0 f p := ⟨Mem.of_get at1, hin⟩
   obtain ⟨fsh1, c51, c61, i11, i21⟩ := hb1.get
   have hm1 : MemN _ _ _ _ _ := ⟨rfl, hb1.1⟩
   have hi1 := hb1.2
   have hmsh1 : MemN _ _ _ _ _ := ⟨rfl, fsh1.1⟩
   have hish1 := fsh1.2
   clear mm1002
   have mm1002 : MemN _ _ _ _ _ := ⟨rfl, Mem.of_get at1002⟩
   clear iO
   have iO := vO.intss
   clear iA
   have iA := vA.intss
   clear u1 s3 si3
   have u1 := iO.2 x (by omega)
   obtain ⟨-, -, -, s3, -, -, -, si3, -⟩ := fsh1.get
   refine .c0 rfl rfl rfl rfl (.appendNOI rfl sl_22_A ze_2_E rfl by_2_E sl_22_A rfl rfl no_LI (by assumption) (by first | omega | (simp <;> omega)) (by omega) (by omega)) ?_
   rintro _ H156 ⟨g156, rfl, st156, ge156, at156⟩
   have nx_H156 := st156.nx
   replace hle := hle.st st156 (fun k hk => ⟨by omega, trivial⟩)
   replace lst1 := lst1.st st156 (fun k hk ho => by simp only [out, and_true] at ho ⊢ <;> first | exact ho | exact ho.1 | exact ho.2 | exact ho.2.1 | exact ho.2.2 | exact ho.2.2.1 | exact ho.2.2.2 | exact pl_LI.ne (by first | exact ho | exact ho.1 | exact ho.2 | exact ho.2.1 | exact ho.2.2 | exact ho.2.2.1 | exact ho.2.2.2 | omega) (by omega) | omega)
   replace lst6 := lst6.st st156 (fun k hk ho => by simp only [out, and_true] at ho ⊢ <;> first | exact ho | exact ho.1 | exact ho.2 | exact ho.2.1 | exact ho.2.2 | exact ho.2.2.1 | exact ho.2.2.2 | exact pl_LI.ne (by first | exact ho | exact ho.1 | exact ho.2 | exact ho.2.1 | exact ho.2.2 | exact ho.2.2.1 | exact ho.2.2.2 | omega) (by omega) | omega)
   have ne_g1_gLI : g1 ≠ gLI := pl_LI.ne ne_g1_ghI (by omega)
   replace at1 := st156.same _ _ ⟨ne_g1_gLI, trivial⟩ at1
   have ne_g2_gLI : g2 ≠ gLI := pl_LI.ne ne_g2_ghI (by omega)
   replace at2 := st156.same _ _ ⟨ne_g2_gLI, trivial⟩ at2
   have ne_gLO_gLI : gLO ≠ gLI := pl_LI.ne ne_gLO_ghI (by omega)
   replace no_LO := no_LO.st st156 ⟨ne_gLO_gLI, trivial⟩
   have ne_gLA_gLI : gLA ≠ gLI := pl_LI.ne ne_gLA_ghI (by omega)
   replace no_LA := no_LA.st st156 ⟨ne_gLA_gLI, trivial⟩
   replace at_Lg4 := st156.same _ _ ⟨(Ne.symm ap6_0), trivial⟩ at_Lg4
   replace at153 := st156.same _ _ ⟨(by first | assumption | omega), trivial⟩ at153
   replace at155 := st156.same _ _ ⟨(by first | assumption | omega), trivial⟩ at155
   replace lv_vO := Keep.st lv_vO st156 (fun k hb hk => ⟨(by first | exact pl_LI.ne (by omega) (by omega) | omega), trivial⟩)
   replace vO := bs_vO.keep lv_vO (Nat.le_refl _)
   replace lv_vA := Keep.st lv_vA st156 (fun k hb hk => ⟨(by first | exact pl_LI.ne (by omega) (by omega) | omega), trivial⟩)
   replace vA := bs_vA.keep lv_vA (Nat.le_refl _)
   have lt_at156 := GHeap.ltg at156
   replace hin := base_hin.mono hle
   clear hb1 fsh1 c51 c61 i11 i21 hm1 hi1 hmsh1 hish1
   have hb1 : SFun.At _ g1 0 f p := ⟨Mem.of_get at1, hin⟩
   obtain ⟨fsh1, c51, c61, i11, i21⟩ := hb1.get
   have hm1 : MemN _ _ _ _ _ := ⟨rfl, hb1.1⟩
   have hi1 := hb1.2
   have hmsh1 : MemN _ _ _ _ _ := ⟨rfl, fsh1.1⟩
   have hish1 := fsh1.2
   clear mm1002
   have mm1002 : MemN _ _ _ _ _ := ⟨rfl, Mem.of_get at1002⟩
   clear iO
   have iO := vO.intss
   clear iA
   have iA := vA.intss
   clear u1 s3 si3
   have u1 := iO.2 x (by omega)
   obtain ⟨-, -, -, s3, -, -, -, si3, -⟩ := fsh1.get
   refine .m rfl rfl rfl rfl (.refl _) (.fieldAddr fo_81_0_Ec rfl) (.m rfl rfl rfl rfl (.refl _) (.fieldAddr fo_31_3_B rfl) ?_)
   refine .r0 rfl rfl rfl (.storeR rfl sz_22_E rfl rfl rfl (by assumption) (by first | exact Nat.le_of_ble_eq_true rfl | (simp; done) | (simp <;> omega))) ?_
   rintro _ H30025 ⟨rfl, st30025, at30025⟩
   have nx_H30025 := st30025.nx
   replace hle := hle.st st30025 (fun k hk => ⟨by omega, trivial⟩)
   replace lst1 := lst1.st st30025 (fun k hk ho => by simp only [out, and_true] at ho ⊢ <;> first | exact ho | exact ho.1 | exact ho.2 | exact ho.2.1 | exact ho.2.2 | exact ho.2.2.1 | exact ho.2.2.2 | omega)
   replace lst6 := lst6.st st30025 (fun k hk ho => by simp only [out, and_true] at ho ⊢ <;> first | exact ho | exact ho.1 | exact ho.2 | exact ho.2.1 | exact ho.2.2 | exact ho.2.2.1 | exact ho.2.2.2 | omega)
   replace at1 := st30025.same _ _ ⟨ne_g1_g4, trivial⟩ at1
   replace at2 := st30025.same _ _ ⟨ne_g2_g4, trivial⟩ at2
   replace no_LO := no_LO.st st30025 ⟨ap1_0, trivial⟩
   replace no_LA := no_LA.st st30025 ⟨ap3_0, trivial⟩
   replace at153 := st30025.same _ _ ⟨(by first | assumption | omega), trivial⟩ at153
   replace at155 := st30025.same _ _ ⟨(by first | assumption | omega), trivial⟩ at155
   replace at156 := st30025.same _ _ ⟨(by first | assumption | omega), trivial⟩ at156
   replace lv_vO := Keep.st lv_vO st30025 (fun k hb hk => ⟨(by omega), trivial⟩)
   replace vO := bs_vO.keep lv_vO (Nat.le_refl _)
   replace lv_vA := Keep.st lv_vA st30025 (fun k hb hk => ⟨(by omega), trivial⟩)
   replace vA := bs_vA.keep lv_vA (Nat.le_refl _)
   have lt_at30025 := GHeap.ltg at30025
   replace hin := base_hin.mono hle
   clear hb1 fsh1 c51 c61 i11 i21 hm1 hi1 hmsh1 hish1
   have hb1 : SFun.At _ g1 0 f p := ⟨Mem.of_get at1, hin⟩
   obtain ⟨fsh1, c51, c61, i11, i21⟩ := hb1.get
   have hm1 : MemN _ _ _ _ _ := ⟨rfl, hb1.1⟩
   have hi1 := hb1.2
   have hmsh1 : MemN _ _ _ _ _ := ⟨rfl, fsh1.1⟩
   have hish1 := fsh1.2
   clear mm1002
   have mm1002 : MemN _ _ _ _ _ := ⟨rfl, Mem.of_get at1002⟩
   clear iO
   have iO := vO.intss
   clear iA
   have iA := vA.intss
   clear u1 s3 si3
   have u1 := iO.2 x (by omega)
   obtain ⟨-, -, -, s3, -, -, -, si3, -⟩ := fsh1.get
   try simp only [Nat.zero_add, List.set_cons_succ, List.set_cons_zero] at at30025
   refine .done ?_
   refine hK39 _ _ (.region (.mv rfl ?_))
   refine .m rfl rfl rfl (.add rfl rfl rfl (by omega) (by omega)) ?_
   refine .mv rfl (.nil ?_)
   refine hKL6 ((x + 1, g156)) _ _ ?_ ?_ ⟨rfl, rfl, rfl, rfl, trivial⟩
   ·
    refine ⟨lst6, by first | (first | assumption | (rw [range_snocI]; assumption)) | exact NO.of (by first | assumption | (rw [range_snocI]; assumption)) (by omega), by first | assumption | exact ⟨.inr (by omega)⟩ | exact ⟨.inl rfl⟩, by first | assumption | (rw [range_snocI]; assumption), by first | assumption | omega, ?_⟩
    omega
   (dsimp only; omega)
  try simp only [sps] at h131
  refine .exit ?_
  refine hK35 _ _ (.seq (fun K40 hK40 => .seq (fun K41 hK41 => .region ?_)))
  obtain rfl : x = (elE f).length := by omega
  refine .mv rfl (.nil (hK41 _ _ ?_))
  refine .block ?_
  refine .hold (fun HhF lehF nxhF => ?_)
  obtain ⟨ghF, hghF⟩ : ∃ g, g = GHeap.next HL6 := ⟨_, rfl⟩
  have no_hF : NO HhF ghF [] 2 0 := NO.start (by omega) rfl rfl
  have nx_HhF := lehF.1
  replace hle := hle.trans lehF
  replace lst1 := lst1.le lehF
  replace at1 := lehF.2 _ _ at1
  replace at2 := lehF.2 _ _ at2
  replace no_LO := no_LO.le lehF
  replace no_LA := no_LA.le lehF
  replace no_LI := no_LI.le lehF
  replace at_Lg4 := lehF.2 _ _ at_Lg4
  replace lv_vO := Keep.le lv_vO lehF
  replace vO := bs_vO.keep lv_vO (Nat.le_refl _)
  replace lv_vA := Keep.le lv_vA lehF
  replace vA := bs_vA.keep lv_vA (Nat.le_refl _)
  have lt_no_hF := no_hF.lt
  replace hin := base_hin.mono hle
  clear hb1 fsh1 c51 c61 i11 i21 hm1 hi1 hmsh1 hish1
  have hb1 : SFun.At _ g1 0 f p := ⟨Mem.of_get at1, hin⟩
  obtain ⟨fsh1, c51, c61, i11, i21⟩ := hb1.get
  have hm1 : MemN _ _ _ _ _ := ⟨rfl, hb1.1⟩
  have hi1 := hb1.2
  have hmsh1 : MemN _ _ _ _ _ := ⟨rfl, fsh1.1⟩
  have hish1 := fsh1.2
  clear mm1002
  have mm1002 : MemN _ _ _ _ _ := ⟨rfl, Mem.of_get at1002⟩
  clear iO
  have iO := vO.intss
  clear iA
  have iA := vA.intss
  refine .hold (fun HhT lehT nxhT => ?_)
  obtain ⟨ghT, hghT⟩ : ∃ g, g = GHeap.next HhF := ⟨_, rfl⟩
  have no_hT : NO HhT ghT [] 2 0 := NO.start (by omega) rfl rfl
  have nx_HhT := lehT.1
  replace hle := hle.trans lehT
  replace lst1 := lst1.le lehT
  replace at1 := lehT.2 _ _ at1
  replace at2 := lehT.2 _ _ at2
  replace no_LO := no_LO.le lehT
  replace no_LA := no_LA.le lehT
  replace no_LI := no_LI.le lehT
  replace at_Lg4 := lehT.2 _ _ at_Lg4
  replace no_hF := no_hF.le lehT
  replace lv_vO := Keep.le lv_vO lehT
  replace vO := bs_vO.keep lv_vO (Nat.le_refl _)
  replace lv_vA := Keep.le lv_vA lehT
  replace vA := bs_vA.keep lv_vA (Nat.le_refl _)
  have lt_no_hT := no_hT.lt
  replace hin := base_hin.mono hle
  clear hb1 fsh1 c51 c61 i11 i21 hm1 hi1 hmsh1 hish1
  have hb1 : SFun.At _ g1 0 f p := ⟨Mem.of_get at1, hin⟩
  obtain ⟨fsh1, c51, c61, i11, i21⟩ := hb1.get
  have hm1 : MemN _ _ _ _ _ := ⟨rfl, hb1.1⟩
  have hi1 := hb1.2
  have hmsh1 : MemN _ _ _ _ _ := ⟨rfl, fsh1.1⟩
  have hish1 := fsh1.2
  clear mm1002
  have mm1002 : MemN _ _ _ _ _ := ⟨rfl, Mem.of_get at1002⟩
  clear iO
  have iO := vO.intss
  clear iA
  have iA := vA.intss
  refine .hold (fun HhC lehC nxhC => ?_)
  obtain ⟨ghC, hghC⟩ : ∃ g, g = GHeap.next HhT := ⟨_, rfl⟩
  have no_hC : NO HhC ghC [] 22 0 := NO.start (by omega) rfl rfl
  have nx_HhC := lehC.1
  replace hle := hle.trans lehC
  replace lst1 := lst1.le lehC
  replace at1 := lehC.2 _ _ at1
  replace at2 := lehC.2 _ _ at2
  replace no_LO := no_LO.le lehC
  replace no_LA := no_LA.le lehC
  replace no_LI := no_LI.le lehC
  replace at_Lg4 := lehC.2 _ _ at_Lg4
  replace no_hF := no_hF.le lehC
  replace no_hT := no_hT.le lehC
  replace lv_vO := Keep.le lv_vO lehC
  replace vO := bs_vO.keep lv_vO (Nat.le_refl _)
  replace lv_vA := Keep.le lv_vA lehC
  replace vA := bs_vA.keep lv_vA (Nat.le_refl _)
  have lt_no_hC := no_hC.lt
  replace hin := base_hin.mono hle
  clear hb1 fsh1 c51 c61 i11 i21 hm1 hi1 hmsh1 hish1
  have hb1 : SFun.At _ g1 0 f p := ⟨Mem.of_get at1, hin⟩
  obtain ⟨fsh1, c51, c61, i11, i21⟩ := hb1.get
  have hm1 : MemN _ _ _ _ _ := ⟨rfl, hb1.1⟩
  have hi1 := hb1.2
  have hmsh1 : MemN _ _ _ _ _ := ⟨rfl, fsh1.1⟩
  have hish1 := fsh1.2
  clear mm1002
  have mm1002 : MemN _ _ _ _ _ := ⟨rfl, Mem.of_get at1002⟩
  clear iO
  have iO := vO.intss
  clear iA
  have iA := vA.intss
  refine .loopR (σ := Nat × (Nat → Option Addr) × Nat × Nat × Nat) [(1, some _), (2, some _), (4, some _)] (fun (a, rc, gLF, gLT, gLC) => [(14, some (.int .i64 (a : Int)))]) (fun (a, rc, gLF, gLT, gLC) H' => St [ghF, ghT, ghC, g4] HhC H' ∧ NO H' gLF (ints (colI ((ecA f).take a) 0)) 2 (a) ∧ PL gLF ghF HhC.next ∧ NO H' gLT (ints (colI ((ecA f).take a) 1)) 2 (a) ∧ PL gLT ghT HhC.next ∧ NO H' gLC (slsL rc (ecT f a)) 22 (a) ∧ PL gLC ghC HhC.next ∧ H'.get g4 = some (.row ([.int .i64 ((elE f).length : Int), .slice (nz a gLF) a a, .slice (nz a gLT) a a, .slice (nz (elE f).length gLI) (elE f).length (elE f).length, .slice (nz a gLC) a a, .slice (nz (elE f).length gLO) (elE f).length (elE f).length, .slice (nz (ecA f).length gLA) (ecA f).length (ecA f).length]) 81 true) ∧ gLF ≠ gLT ∧ gLF ≠ gLC ∧ gLF ≠ g4 ∧ gLT ≠ gLC ∧ gLT ≠ g4 ∧ gLC ≠ g4 ∧ a ≤ (ecA f).length ∧ OwnL HL6.next H' 2 rc (ecT f a) ∧ (∀ j, j < (ecT f a).length → rc j ≠ some ⟨gLF, 0, none⟩) ∧ (∀ j, j < (ecT f a).length → rc j ≠ some ⟨gLT, 0, none⟩)) (fun (a, rc, gLF, gLT, gLC) => (ecA f).length - a) ((0, fun _ => none, ghF, ghT, ghC)) ⟨rfl, rfl, rfl, trivial⟩ ⟨rfl, trivial⟩ ?_ ?_
  ·
   refine ⟨.refl _ _, by first | assumption | exact NO.start (by omega) (by first | rfl | (simp; done) | omega) (by first | rfl | (simp; done)), ⟨.inl rfl⟩, by first | assumption | exact NO.start (by omega) (by first | rfl | (simp; done) | omega) (by first | rfl | (simp; done)), ⟨.inl rfl⟩, by first | assumption | exact NO.start (by omega) (by first | rfl | (simp; done) | omega) (by first | rfl | (simp; done)), ⟨.inl rfl⟩, by first | assumption | exact at_Lg4 | simpa using at_Lg4, by omega, by omega, by omega, by omega, by omega, by omega, ?_⟩
   exact ⟨by omega, .nil _ _ _ _, fun _ h => by simp [ecT] at h, fun _ h => by simp [ecT] at h⟩
  rintro ⟨a, rc, gLF, gLT, gLC⟩ HL7 ⟨lst7, no_LF, pl_LF, no_LT, pl_LT, no_LC, pl_LC, at_Lg4, ap7_0, ap7_1, ap7_2, ap7_3, ap7_4, ap7_5, hI⟩ KL7 hKL7
  refine .forget (fr' := [(14, some (.int .i64 (a : Int))), (1, some _), (2, some _), (4, some _)]) ⟨rfl, rfl, rfl, rfl, trivial⟩ ?_
  have ge_LF : H.next ≤ gLF := pl_LF.ge (by omega) (by omega)
  have ge_LT : H.next ≤ gLT := pl_LT.ge (by omega) (by omega)
  have ge_LC : H.next ≤ gLC := pl_LC.ge (by omega) (by omega)
  have nx_HL7 := lst7.nx
  replace hle := hle.st lst7 (fun k hk => ⟨by omega, by omega, by omega, by omega, trivial⟩)
  replace lst1 := lst1.st lst7 (fun k hk ho => by simp only [out, and_true] at ho ⊢ <;> exact ⟨by first | exact ho | exact ho.1 | exact ho.2 | exact ho.2.1 | exact ho.2.2 | exact ho.2.2.1 | exact ho.2.2.2 | omega, by first | exact ho | exact ho.1 | exact ho.2 | exact ho.2.1 | exact ho.2.2 | exact ho.2.2.1 | exact ho.2.2.2 | omega, by first | exact ho | exact ho.1 | exact ho.2 | exact ho.2.1 | exact ho.2.2 | exact ho.2.2.1 | exact ho.2.2.2 | omega, by first | exact ho | exact ho.1 | exact ho.2 | exact ho.2.1 | exact ho.2.2 | exact ho.2.2.1 | exact ho.2.2.2 | omega⟩)
  have ne_g1_ghF : g1 ≠ ghF := by first | assumption | omega
  have ne_g1_ghT : g1 ≠ ghT := by first | assumption | omega
  have ne_g1_ghC : g1 ≠ ghC := by first | assumption | omega
  replace at1 := lst7.same _ _ ⟨ne_g1_ghF, ne_g1_ghT, ne_g1_ghC, ne_g1_g4, trivial⟩ at1
  have ne_g2_ghF : g2 ≠ ghF := by first | assumption | omega
  have ne_g2_ghT : g2 ≠ ghT := by first | assumption | omega
  have ne_g2_ghC : g2 ≠ ghC := by first | assumption | omega
  replace at2 := lst7.same _ _ ⟨ne_g2_ghF, ne_g2_ghT, ne_g2_ghC, ne_g2_g4, trivial⟩ at2
  have ne_gLO_ghF : gLO ≠ ghF := by first | assumption | omega
  have ne_gLO_ghT : gLO ≠ ghT := by first | assumption | omega
  have ne_gLO_ghC : gLO ≠ ghC := by first | assumption | omega
  replace no_LO := no_LO.st lst7 ⟨ne_gLO_ghF, ne_gLO_ghT, ne_gLO_ghC, ap1_0, trivial⟩
  have ne_gLA_ghF : gLA ≠ ghF := by first | assumption | omega
  have ne_gLA_ghT : gLA ≠ ghT := by first | assumption | omega
  have ne_gLA_ghC : gLA ≠ ghC := by first | assumption | omega
  replace no_LA := no_LA.st lst7 ⟨ne_gLA_ghF, ne_gLA_ghT, ne_gLA_ghC, ap3_0, trivial⟩
  have ne_gLI_ghF : gLI ≠ ghF := by first | assumption | omega
  have ne_gLI_ghT : gLI ≠ ghT := by first | assumption | omega
  have ne_gLI_ghC : gLI ≠ ghC := by first | assumption | omega
  replace no_LI := no_LI.st lst7 ⟨ne_gLI_ghF, ne_gLI_ghT, ne_gLI_ghC, ap6_0, trivial⟩
  replace lv_vO := Keep.st lv_vO lst7 (fun k hb hk => ⟨(by omega), (by omega), (by omega), (by omega), trivial⟩)
  replace vO := bs_vO.keep lv_vO (Nat.le_refl _)
  replace lv_vA := Keep.st lv_vA lst7 (fun k hb hk => ⟨(by omega), (by omega), (by omega), (by omega), trivial⟩)
  replace vA := bs_vA.keep lv_vA (Nat.le_refl _)
  have lt_no_LF := no_LF.lt
  have lt_no_LT := no_LT.lt
  have lt_no_LC := no_LC.lt
  have lt_at_Lg4 := GHeap.ltg at_Lg4
  replace hin := base_hin.mono hle
  clear hb1 fsh1 c51 c61 i11 i21 hm1 hi1 hmsh1 hish1
  have hb1 : SFun.At _ g1 0 f p := ⟨Mem.of_get at1, hin⟩
  obtain ⟨fsh1, c51, c61, i11, i21⟩ := hb1.get
  have hm1 : MemN _ _ _ _ _ := ⟨rfl, hb1.1⟩
  have hi1 := hb1.2
  have hmsh1 : MemN _ _ _ _ _ := ⟨rfl, fsh1.1⟩
  have hish1 := fsh1.2
  clear mm1002
  have mm1002 : MemN _ _ _ _ _ := ⟨rfl, Mem.of_get at1002⟩
  clear iO
  have iO := vO.intss
  clear iA
  have iA := vA.intss
  have rk := St.refl [gLF, gLT, gLC, g4] HL7
  obtain ⟨ha, hR, hF, hT⟩ := hI
  have hatC := no_LC
  have hat4 := at_Lg4
  have hql := length_ecT f a
  have hfl : (slsL rc (ecT f a)).length = (ecT f a).length := length_slsL _ _
  have hcl0 : (colI ((ecA f).take a) 0).length = a := by rw [length_colI, List.length_take]; omega
  have hcl1 : (colI ((ecA f).take a) 1).length = a := by rw [length_colI, List.length_take]; omega
  refine .seq (fun K42 hK42 => .seq (fun K43 hK43 => .region (.mv rfl (.m rfl rfl rfl (.fieldAddr fo_81_2_Ec rfl) ?_))))
  refine .m rfl rfl rfl (.load on_23_B rfl (by first | assumption | exact Mem.of_get at_Lg4 6 _ rfl)) ?_
  refine .m rfl rfl rfl (.len sl_23_B rfl) (.m rfl rfl rfl (.cmp rfl rfl rfl) (.nil (hK43 _ _ ?_)))
  refine .cond rfl (fun h163 => ?_) (fun h163 => ?_)
  ·
   simp only [sps] at h163
   obtain ⟨oa1, oa2, oa3, oa4, oa5, oa6, oa7⟩ := ecA_get (f := f) (a := a) (by omega)
   have u1 := iA.2 a (by omega)
   refine .skip ?_
   refine hK42 _ _ (.seq (fun K44 hK44 => ?_))
   refine .block ?_
   refine .seq (fun K45 hK45 => .region (.m rfl rfl rfl (.fieldAddr fo_81_2_Ec rfl) ?_))
   refine .m rfl rfl rfl (.load on_23_B rfl (by first | assumption | exact Mem.of_get at_Lg4 6 _ rfl)) ?_
   refine .mv rfl ?_
   refine .m rfl rfl rfl (.idxN sl_23_B (by first | exact (Intss.sl (by assumption)) | exact SlA.of_row no_LA (by first | rfl | (simp; done) | (simp <;> omega))) rfl rfl (by omega)) ?_
   refine .m rfl rfl rfl (.loadR on_22_B (by assumption) rfl (by omega)) ?_
   refine .mv rfl (.nil (hK45 _ _ (.seq (fun K46 hK46 => ?_))))
   refine .regionD mo_B (.q 0 (.q 1 (.q 2 (.q 3 (.q 4 (.q 5 (.c 6 1 (.c 7 0 (.q 8 (.q 9 (.c 10 0 (.done)))))))))))) (by kernel_rfl) ?_
   refine .m rfl rfl rfl rfl (.refl _) (.fieldAddr fo_81_0_Ec rfl) (.m rfl rfl rfl rfl (.refl _) (.fieldAddr fo_31_1_B rfl) ?_)
   refine .m rfl rfl rfl rfl (.refl _) (.load on_22_B rfl (by first | assumption | exact Mem.of_get at_Lg4 1 _ rfl)) ?_
   refine .mv rfl rfl ?_
   refine .m rfl rfl rfl rfl (.refl _) (.idxN (j := 0) sl_22_A (by assumption) rfl rfl (by omega)) ?_
   refine .m rfl rfl rfl rfl (.refl _) (.loadI on_2_A (by assumption) rfl (by omega)) ?_
   refine .c1 rfl rfl rfl rfl (.litR rfl sl_22_A ze_2_E rfl rfl (by omega) (by omega) rfl rfl) ?_
   rintro _ H177 ⟨g177, rfl, le177, ge177, at177⟩
   have hbl := le177
   refine ⟨hbl, ?_⟩
   have nx_H177 := le177.1
   replace hle := hle.trans le177
   replace lst1 := lst1.le le177
   replace lst7 := lst7.le le177
   replace rk := rk.le le177
   replace at1 := le177.2 _ _ at1
   replace at2 := le177.2 _ _ at2
   replace no_LO := no_LO.le le177
   replace no_LA := no_LA.le le177
   replace no_LI := no_LI.le le177
   replace no_LF := no_LF.le le177
   replace no_LT := no_LT.le le177
   replace no_LC := no_LC.le le177
   replace at_Lg4 := le177.2 _ _ at_Lg4
   replace lv_vO := Keep.le lv_vO le177
   replace vO := bs_vO.keep lv_vO (Nat.le_refl _)
   replace lv_vA := Keep.le lv_vA le177
   replace vA := bs_vA.keep lv_vA (Nat.le_refl _)
   have lt_at177 := GHeap.ltg at177
   replace hin := base_hin.mono hle
   clear hb1 fsh1 c51 c61 i11 i21 hm1 hi1 hmsh1 hish1
   have hb1 : SFun.At _ g1 0 f p := ⟨Mem.of_get at1, hin⟩
   obtain ⟨fsh1, c51, c61, i11, i21⟩ := hb1.get
   have hm1 : MemN _ _ _ _ _ := ⟨rfl, hb1.1⟩
   have hi1 := hb1.2
   have hmsh1 : MemN _ _ _ _ _ := ⟨rfl, fsh1.1⟩
   have hish1 := fsh1.2
   clear mm1002
   have mm1002 : MemN _ _ _ _ _ := ⟨rfl, Mem.of_get at1002⟩
   clear iO
   have iO := vO.intss
   clear iA
   have iA := vA.intss
   clear u1
   have u1 := iA.2 a (by omega)
   refine .c0 rfl rfl rfl rfl (.appendNOI rfl sl_22_A ze_2_E rfl by_2_E sl_22_A rfl rfl no_LF (by assumption) (by first | omega | (simp <;> omega)) (by omega) (by omega)) ?_
   rintro _ H178 ⟨g178, rfl, st178, ge178, at178⟩
   have nx_H178 := st178.nx
   replace hle := hle.st st178 (fun k hk => ⟨by omega, trivial⟩)
   replace lst1 := lst1.st st178 (fun k hk ho => by simp only [out, and_true] at ho ⊢ <;> first | exact ho | exact ho.1 | exact ho.2 | exact ho.2.1 | exact ho.2.2 | exact ho.2.2.1 | exact ho.2.2.2 | exact pl_LF.ne (by first | exact ho | exact ho.1 | exact ho.2 | exact ho.2.1 | exact ho.2.2 | exact ho.2.2.1 | exact ho.2.2.2 | omega) (by omega) | omega)
   replace lst7 := lst7.st st178 (fun k hk ho => by simp only [out, and_true] at ho ⊢ <;> first | exact ho | exact ho.1 | exact ho.2 | exact ho.2.1 | exact ho.2.2 | exact ho.2.2.1 | exact ho.2.2.2 | exact pl_LF.ne (by first | exact ho | exact ho.1 | exact ho.2 | exact ho.2.1 | exact ho.2.2 | exact ho.2.2.1 | exact ho.2.2.2 | omega) (by omega) | omega)
   replace rk := rk.st st178 (fun k hk ho => by simp only [out, and_true] at ho ⊢ <;> first | exact ho | exact ho.1 | exact ho.2 | exact ho.2.1 | exact ho.2.2 | exact ho.2.2.1 | exact ho.2.2.2 | exact pl_LF.ne (by first | exact ho | exact ho.1 | exact ho.2 | exact ho.2.1 | exact ho.2.2 | exact ho.2.2.1 | exact ho.2.2.2 | omega) (by omega) | omega)
   have ne_g1_gLF : g1 ≠ gLF := pl_LF.ne ne_g1_ghF (by omega)
   replace at1 := st178.same _ _ ⟨ne_g1_gLF, trivial⟩ at1
   have ne_g2_gLF : g2 ≠ gLF := pl_LF.ne ne_g2_ghF (by omega)
   replace at2 := st178.same _ _ ⟨ne_g2_gLF, trivial⟩ at2
   have ne_gLO_gLF : gLO ≠ gLF := pl_LF.ne ne_gLO_ghF (by omega)
   replace no_LO := no_LO.st st178 ⟨ne_gLO_gLF, trivial⟩
   have ne_gLA_gLF : gLA ≠ gLF := pl_LF.ne ne_gLA_ghF (by omega)
   replace no_LA := no_LA.st st178 ⟨ne_gLA_gLF, trivial⟩
   have ne_gLI_gLF : gLI ≠ gLF := pl_LF.ne ne_gLI_ghF (by omega)
   replace no_LI := no_LI.st st178 ⟨ne_gLI_gLF, trivial⟩
   replace no_LT := no_LT.st st178 ⟨(Ne.symm ap7_0), trivial⟩
   replace no_LC := no_LC.st st178 ⟨(Ne.symm ap7_1), trivial⟩
   replace at_Lg4 := st178.same _ _ ⟨(Ne.symm ap7_2), trivial⟩ at_Lg4
   replace at177 := st178.same _ _ ⟨(by first | assumption | omega), trivial⟩ at177
   replace lv_vO := Keep.st lv_vO st178 (fun k hb hk => ⟨(by first | exact pl_LF.ne (by omega) (by omega) | omega), trivial⟩)
   replace vO := bs_vO.keep lv_vO (Nat.le_refl _)
   replace lv_vA := Keep.st lv_vA st178 (fun k hb hk => ⟨(by first | exact pl_LF.ne (by omega) (by omega) | omega), trivial⟩)
   replace vA := bs_vA.keep lv_vA (Nat.le_refl _)
   have lt_at178 := GHeap.ltg at178
   replace hin := base_hin.mono hle
   clear hb1 fsh1 c51 c61 i11 i21 hm1 hi1 hmsh1 hish1
   have hb1 : SFun.At _ g1 0 f p := ⟨Mem.of_get at1, hin⟩
   obtain ⟨fsh1, c51, c61, i11, i21⟩ := hb1.get
   have hm1 : MemN _ _ _ _ _ := ⟨rfl, hb1.1⟩
   have hi1 := hb1.2
   have hmsh1 : MemN _ _ _ _ _ := ⟨rfl, fsh1.1⟩
   have hish1 := fsh1.2
   clear mm1002
   have mm1002 : MemN _ _ _ _ _ := ⟨rfl, Mem.of_get at1002⟩
   clear iO
   have iO := vO.intss
   clear iA
   have iA := vA.intss
   clear u1
   have u1 := iA.2 a (by omega)
   refine .m rfl rfl rfl rfl (.refl _) (.fieldAddr fo_81_0_Ec rfl) (.m rfl rfl rfl rfl (.refl _) (.fieldAddr fo_31_1_B rfl) ?_)
   refine .r0 rfl rfl rfl (.storeR rfl sz_22_E rfl rfl rfl (by assumption) (by first | exact Nat.le_of_ble_eq_true rfl | (simp; done) | (simp <;> omega))) ?_
   rintro _ H35010 ⟨rfl, st35010, at35010⟩
   have nx_H35010 := st35010.nx
   replace hle := hle.st st35010 (fun k hk => ⟨by omega, trivial⟩)
   replace lst1 := lst1.st st35010 (fun k hk ho => by simp only [out, and_true] at ho ⊢ <;> first | exact ho | exact ho.1 | exact ho.2 | exact ho.2.1 | exact ho.2.2 | exact ho.2.2.1 | exact ho.2.2.2 | omega)
   replace lst7 := lst7.st st35010 (fun k hk ho => by simp only [out, and_true] at ho ⊢ <;> first | exact ho | exact ho.1 | exact ho.2 | exact ho.2.1 | exact ho.2.2 | exact ho.2.2.1 | exact ho.2.2.2 | omega)
   replace rk := rk.st st35010 (fun k hk ho => by simp only [out, and_true] at ho ⊢ <;> first | exact ho | exact ho.1 | exact ho.2 | exact ho.2.1 | exact ho.2.2 | exact ho.2.2.1 | exact ho.2.2.2 | omega)
   replace at1 := st35010.same _ _ ⟨ne_g1_g4, trivial⟩ at1
   replace at2 := st35010.same _ _ ⟨ne_g2_g4, trivial⟩ at2
   replace no_LO := no_LO.st st35010 ⟨ap1_0, trivial⟩
   replace no_LA := no_LA.st st35010 ⟨ap3_0, trivial⟩
   replace no_LI := no_LI.st st35010 ⟨ap6_0, trivial⟩
   replace no_LT := no_LT.st st35010 ⟨ap7_4, trivial⟩
   replace no_LC := no_LC.st st35010 ⟨ap7_5, trivial⟩
   have ne_g177_g4 : g177 ≠ g4 := by first | assumption | omega
   replace at177 := st35010.same _ _ ⟨ne_g177_g4, trivial⟩ at177
   have ne_g178_g4 : g178 ≠ g4 := by first | assumption | omega
   replace at178 := st35010.same _ _ ⟨ne_g178_g4, trivial⟩ at178
   replace lv_vO := Keep.st lv_vO st35010 (fun k hb hk => ⟨(by omega), trivial⟩)
   replace vO := bs_vO.keep lv_vO (Nat.le_refl _)
   replace lv_vA := Keep.st lv_vA st35010 (fun k hb hk => ⟨(by omega), trivial⟩)
   replace vA := bs_vA.keep lv_vA (Nat.le_refl _)
   have lt_at35010 := GHeap.ltg at35010
   replace hin := base_hin.mono hle
   clear hb1 fsh1 c51 c61 i11 i21 hm1 hi1 hmsh1 hish1
   have hb1 : SFun.At _ g1 0 f p := ⟨Mem.of_get at1, hin⟩
   obtain ⟨fsh1, c51, c61, i11, i21⟩ := hb1.get
   have hm1 : MemN _ _ _ _ _ := ⟨rfl, hb1.1⟩
   have hi1 := hb1.2
   have hmsh1 : MemN _ _ _ _ _ := ⟨rfl, fsh1.1⟩
   have hish1 := fsh1.2
   clear mm1002
   have mm1002 : MemN _ _ _ _ _ := ⟨rfl, Mem.of_get at1002⟩
   clear iO
   have iO := vO.intss
   clear iA
   have iA := vA.intss
   clear u1
   have u1 := iA.2 a (by omega)
   try simp only [Nat.zero_add, List.set_cons_succ, List.set_cons_zero] at at35010
   refine .done ?_
   refine hK46 _ _ (.seq (fun K47 hK47 => ?_))
   refine .regionD mo_B (.q 0 (.q 1 (.q 2 (.q 3 (.q 4 (.q 5 (.c 6 1 (.c 7 0 (.q 8 (.q 9 (.c 10 0 (.done)))))))))))) (by kernel_rfl) ?_
   refine .m rfl rfl rfl rfl (.refl _) (.fieldAddr fo_81_0_Ec rfl) (.m rfl rfl rfl rfl (.refl _) (.fieldAddr fo_31_2_B rfl) ?_)
   refine .m rfl rfl rfl rfl (.refl _) (.load on_22_B rfl (by first | assumption | exact Mem.of_get at35010 2 _ rfl)) ?_
   refine .mv rfl rfl ?_
   refine .m rfl rfl rfl rfl (.refl _) (.idxN (j := 1) sl_22_A (by assumption) rfl rfl (by omega)) ?_
   refine .m rfl rfl rfl rfl (.refl _) (.loadI on_2_A (by assumption) rfl (by omega)) ?_
   refine .c1 rfl rfl rfl rfl (.litR rfl sl_22_A ze_2_E rfl rfl (by omega) (by omega) rfl rfl) ?_
   rintro _ H187 ⟨g187, rfl, le187, ge187, at187⟩
   have hbl := le187
   refine ⟨hbl, ?_⟩
   have nx_H187 := le187.1
   replace hle := hle.trans le187
   replace lst1 := lst1.le le187
   replace lst7 := lst7.le le187
   replace rk := rk.le le187
   replace at1 := le187.2 _ _ at1
   replace at2 := le187.2 _ _ at2
   replace no_LO := no_LO.le le187
   replace no_LA := no_LA.le le187
   replace no_LI := no_LI.le le187
   replace no_LT := no_LT.le le187
   replace no_LC := no_LC.le le187
   replace at177 := le187.2 _ _ at177
   replace at178 := le187.2 _ _ at178
   replace at35010 := le187.2 _ _ at35010
   replace lv_vO := Keep.le lv_vO le187
   replace vO := bs_vO.keep lv_vO (Nat.le_refl _)
   replace lv_vA := Keep.le lv_vA le187
   replace vA := bs_vA.keep lv_vA (Nat.le_refl _)
   have lt_at187 := GHeap.ltg at187
   replace hin := base_hin.mono hle
   clear hb1 fsh1 c51 c61 i11 i21 hm1 hi1 hmsh1 hish1
   have hb1 : SFun.At _ g1 0 f p := ⟨Mem.of_get at1, hin⟩
   obtain ⟨fsh1, c51, c61, i11, i21⟩ := hb1.get
   have hm1 : MemN _ _ _ _ _ := ⟨rfl, hb1.1⟩
   have hi1 := hb1.2
   have hmsh1 : MemN _ _ _ _ _ := ⟨rfl, fsh1.1⟩
   have hish1 := fsh1.2
   clear mm1002
   have mm1002 : MemN _ _ _ _ _ := ⟨rfl, Mem.of_get at1002⟩
   clear iO
   have iO := vO.intss
   clear iA
   have iA := vA.intss
   clear u1
   have u1 := iA.2 a (by omega)
   refine .c0 rfl rfl rfl rfl (.appendNOI rfl sl_22_A ze_2_E rfl by_2_E sl_22_A rfl rfl no_LT (by assumption) (by first | omega | (simp <;> omega)) (by omega) (by omega)) ?_
   rintro _ H188 ⟨g188, rfl, st188, ge188, at188⟩
   have nx_H188 := st188.nx
   replace hle := hle.st st188 (fun k hk => ⟨by omega, trivial⟩)
   replace lst1 := lst1.st st188 (fun k hk ho => by simp only [out, and_true] at ho ⊢ <;> first | exact ho | exact ho.1 | exact ho.2 | exact ho.2.1 | exact ho.2.2 | exact ho.2.2.1 | exact ho.2.2.2 | exact pl_LT.ne (by first | exact ho | exact ho.1 | exact ho.2 | exact ho.2.1 | exact ho.2.2 | exact ho.2.2.1 | exact ho.2.2.2 | omega) (by omega) | omega)
   replace lst7 := lst7.st st188 (fun k hk ho => by simp only [out, and_true] at ho ⊢ <;> first | exact ho | exact ho.1 | exact ho.2 | exact ho.2.1 | exact ho.2.2 | exact ho.2.2.1 | exact ho.2.2.2 | exact pl_LT.ne (by first | exact ho | exact ho.1 | exact ho.2 | exact ho.2.1 | exact ho.2.2 | exact ho.2.2.1 | exact ho.2.2.2 | omega) (by omega) | omega)
   replace rk := rk.st st188 (fun k hk ho => by simp only [out, and_true] at ho ⊢ <;> first | exact ho | exact ho.1 | exact ho.2 | exact ho.2.1 | exact ho.2.2 | exact ho.2.2.1 | exact ho.2.2.2 | exact pl_LT.ne (by first | exact ho | exact ho.1 | exact ho.2 | exact ho.2.1 | exact ho.2.2 | exact ho.2.2.1 | exact ho.2.2.2 | omega) (by omega) | omega)
   have ne_g1_gLT : g1 ≠ gLT := pl_LT.ne ne_g1_ghT (by omega)
   replace at1 := st188.same _ _ ⟨ne_g1_gLT, trivial⟩ at1
   have ne_g2_gLT : g2 ≠ gLT := pl_LT.ne ne_g2_ghT (by omega)
   replace at2 := st188.same _ _ ⟨ne_g2_gLT, trivial⟩ at2
   have ne_gLO_gLT : gLO ≠ gLT := pl_LT.ne ne_gLO_ghT (by omega)
   replace no_LO := no_LO.st st188 ⟨ne_gLO_gLT, trivial⟩
   have ne_gLA_gLT : gLA ≠ gLT := pl_LT.ne ne_gLA_ghT (by omega)
   replace no_LA := no_LA.st st188 ⟨ne_gLA_gLT, trivial⟩
   have ne_gLI_gLT : gLI ≠ gLT := pl_LT.ne ne_gLI_ghT (by omega)
   replace no_LI := no_LI.st st188 ⟨ne_gLI_gLT, trivial⟩
   replace no_LC := no_LC.st st188 ⟨(Ne.symm ap7_3), trivial⟩
   replace at177 := st188.same _ _ ⟨(by first | assumption | omega), trivial⟩ at177
   replace at178 := st188.same _ _ ⟨(by first | assumption | omega), trivial⟩ at178
   replace at35010 := st188.same _ _ ⟨(Ne.symm ap7_4), trivial⟩ at35010
   replace at187 := st188.same _ _ ⟨(by first | assumption | omega), trivial⟩ at187
   replace lv_vO := Keep.st lv_vO st188 (fun k hb hk => ⟨(by first | exact pl_LT.ne (by omega) (by omega) | omega), trivial⟩)
   replace vO := bs_vO.keep lv_vO (Nat.le_refl _)
   replace lv_vA := Keep.st lv_vA st188 (fun k hb hk => ⟨(by first | exact pl_LT.ne (by omega) (by omega) | omega), trivial⟩)
   replace vA := bs_vA.keep lv_vA (Nat.le_refl _)
   have lt_at188 := GHeap.ltg at188
   replace hin := base_hin.mono hle
   clear hb1 fsh1 c51 c61 i11 i21 hm1 hi1 hmsh1 hish1
   have hb1 : SFun.At _ g1 0 f p := ⟨Mem.of_get at1, hin⟩
   obtain ⟨fsh1, c51, c61, i11, i21⟩ := hb1.get
   have hm1 : MemN _ _ _ _ _ := ⟨rfl, hb1.1⟩
   have hi1 := hb1.2
   have hmsh1 : MemN _ _ _ _ _ := ⟨rfl, fsh1.1⟩
   have hish1 := fsh1.2
   clear mm1002
   have mm1002 : MemN _ _ _ _ _ := ⟨rfl, Mem.of_get at1002⟩
   clear iO
   have iO := vO.intss
   clear iA
   have iA := vA.intss
   clear u1
   have u1 := iA.2 a (by omega)
   refine .m rfl rfl rfl rfl (.refl _) (.fieldAddr fo_81_0_Ec rfl) (.m rfl rfl rfl rfl (.refl _) (.fieldAddr fo_31_2_B rfl) ?_)
   refine .r0 rfl rfl rfl (.storeR rfl sz_22_E rfl rfl rfl (by assumption) (by first | exact Nat.le_of_ble_eq_true rfl | (simp; done) | (simp <;> omega))) ?_
   rintro _ H36010 ⟨rfl, st36010, at36010⟩
   have nx_H36010 := st36010.nx
   replace hle := hle.st st36010 (fun k hk => ⟨by omega, trivial⟩)
   replace lst1 := lst1.st st36010 (fun k hk ho => by simp only [out, and_true] at ho ⊢ <;> first | exact ho | exact ho.1 | exact ho.2 | exact ho.2.1 | exact ho.2.2 | exact ho.2.2.1 | exact ho.2.2.2 | omega)
   replace lst7 := lst7.st st36010 (fun k hk ho => by simp only [out, and_true] at ho ⊢ <;> first | exact ho | exact ho.1 | exact ho.2 | exact ho.2.1 | exact ho.2.2 | exact ho.2.2.1 | exact ho.2.2.2 | omega)
   replace rk := rk.st st36010 (fun k hk ho => by simp only [out, and_true] at ho ⊢ <;> first | exact ho | exact ho.1 | exact ho.2 | exact ho.2.1 | exact ho.2.2 | exact ho.2.2.1 | exact ho.2.2.2 | omega)
   replace at1 := st36010.same _ _ ⟨ne_g1_g4, trivial⟩ at1
   replace at2 := st36010.same _ _ ⟨ne_g2_g4, trivial⟩ at2
   replace no_LO := no_LO.st st36010 ⟨ap1_0, trivial⟩
   replace no_LA := no_LA.st st36010 ⟨ap3_0, trivial⟩
   replace no_LI := no_LI.st st36010 ⟨ap6_0, trivial⟩
   replace no_LC := no_LC.st st36010 ⟨ap7_5, trivial⟩
   replace at177 := st36010.same _ _ ⟨ne_g177_g4, trivial⟩ at177
   replace at178 := st36010.same _ _ ⟨ne_g178_g4, trivial⟩ at178
   have ne_g187_g4 : g187 ≠ g4 := by first | assumption | omega
   replace at187 := st36010.same _ _ ⟨ne_g187_g4, trivial⟩ at187
   have ne_g188_g4 : g188 ≠ g4 := by first | assumption | omega
   replace at188 := st36010.same _ _ ⟨ne_g188_g4, trivial⟩ at188
   replace lv_vO := Keep.st lv_vO st36010 (fun k hb hk => ⟨(by omega), trivial⟩)
   replace vO := bs_vO.keep lv_vO (Nat.le_refl _)
   replace lv_vA := Keep.st lv_vA st36010 (fun k hb hk => ⟨(by omega), trivial⟩)
   replace vA := bs_vA.keep lv_vA (Nat.le_refl _)
   have lt_at36010 := GHeap.ltg at36010
   replace hin := base_hin.mono hle
   clear hb1 fsh1 c51 c61 i11 i21 hm1 hi1 hmsh1 hish1
   have hb1 : SFun.At _ g1 0 f p := ⟨Mem.of_get at1, hin⟩
   obtain ⟨fsh1, c51, c61, i11, i21⟩ := hb1.get
   have hm1 : MemN _ _ _ _ _ := ⟨rfl, hb1.1⟩
   have hi1 := hb1.2
   have hmsh1 : MemN _ _ _ _ _ := ⟨rfl, fsh1.1⟩
   have hish1 := fsh1.2
   clear mm1002
   have mm1002 : MemN _ _ _ _ _ := ⟨rfl, Mem.of_get at1002⟩
   clear iO
   have iO := vO.intss
   clear iA
   have iA := vA.intss
   clear u1
   have u1 := iA.2 a (by omega)
   try simp only [Nat.zero_add, List.set_cons_succ, List.set_cons_zero] at at36010
   refine .done ?_
   refine hK47 _ _ (.seq (fun K48 hK48 => .region ?_))
   refine .r rfl rfl rfl (.litR rfl sl_22_A ze_2_E rfl rfl (by omega) (by omega) rfl rfl) ?_
   rintro _ H191 ⟨g191, rfl, le191, ge191, at191⟩
   have nx_H191 := le191.1
   replace hle := hle.trans le191
   replace lst1 := lst1.le le191
   replace lst7 := lst7.le le191
   replace rk := rk.le le191
   replace at1 := le191.2 _ _ at1
   replace at2 := le191.2 _ _ at2
   replace no_LO := no_LO.le le191
   replace no_LA := no_LA.le le191
   replace no_LI := no_LI.le le191
   replace no_LC := no_LC.le le191
   replace at177 := le191.2 _ _ at177
   replace at178 := le191.2 _ _ at178
   replace at187 := le191.2 _ _ at187
   replace at188 := le191.2 _ _ at188
   replace at36010 := le191.2 _ _ at36010
   replace lv_vO := Keep.le lv_vO le191
   replace vO := bs_vO.keep lv_vO (Nat.le_refl _)
   replace lv_vA := Keep.le lv_vA le191
   replace vA := bs_vA.keep lv_vA (Nat.le_refl _)
   have lt_at191 := GHeap.ltg at191
   replace hin := base_hin.mono hle
   clear hb1 fsh1 c51 c61 i11 i21 hm1 hi1 hmsh1 hish1
   have hb1 : SFun.At _ g1 0 f p := ⟨Mem.of_get at1, hin⟩
   obtain ⟨fsh1, c51, c61, i11, i21⟩ := hb1.get
   have hm1 : MemN _ _ _ _ _ := ⟨rfl, hb1.1⟩
   have hi1 := hb1.2
   have hmsh1 : MemN _ _ _ _ _ := ⟨rfl, fsh1.1⟩
   have hish1 := fsh1.2
   clear mm1002
   have mm1002 : MemN _ _ _ _ _ := ⟨rfl, Mem.of_get at1002⟩
   clear iO
   have iO := vO.intss
   clear iA
   have iA := vA.intss
   clear u1
   have u1 := iA.2 a (by omega)
   replace at191 : GHeap.get H191 g191 = some (.row (ints []) 2 true) := at191
   refine .mv rfl (.nil (hK48 _ _ (.seq (fun K49 hK49 => .seq (fun K50 hK50 => .region (.mv rfl (.nil (hK50 _ _ ?_))))))))
   refine .block ?_
   refine .loopR (σ := Nat × Nat × Nat) [(1, some _), (2, some _), (4, some _), (14, some _), (15, some _)] (fun (b, gL16, nL16) => [(17, some (.int .i64 (b : Int))), (16, some (.slice (some ⟨gL16, 0, none⟩) nL16 nL16))]) (fun (b, gL16, nL16) H' => St [g191] H191 H' ∧ H'.get gL16 = some (.row (ints (ecRw f a b)) 2 true) ∧ PL gL16 g191 H191.next ∧ nL16 = (ecRw f a b).length ∧ b ≤ (ecA f).length) (fun (b, gL16, nL16) => (ecA f).length - b) ((0, _, _)) ⟨rfl, rfl, rfl, rfl, rfl, trivial⟩ ⟨rfl, rfl, trivial⟩ ?_ ?_
   ·
    refine ⟨.refl _ _, by first | assumption | exact at191 | simpa using at191, ⟨.inl rfl⟩, by first | rfl | assumption | simp | omega, ?_⟩
    omega
   rintro ⟨b, gL16, nL16⟩ HL8 ⟨lst8, at_L16, pl_L16, ln_L16, hI⟩ KL8 hKL8
   refine .forget (fr' := [(17, some (.int .i64 (b : Int))), (16, some (.slice (some ⟨gL16, 0, none⟩) nL16 nL16)), (1, some _), (2, some _), (4, some _), (14, some _), (15, some _)]) ⟨rfl, rfl, rfl, rfl, rfl, rfl, rfl, trivial⟩ ?_
   have ge_L16 : H.next ≤ gL16 := pl_L16.ge (by omega) (by omega)
   have nx_HL8 := lst8.nx
   replace hle := hle.st lst8 (fun k hk => ⟨by omega, trivial⟩)
   replace lst1 := lst1.st lst8 (fun k hk ho => by simp only [out, and_true] at ho ⊢ <;> first | exact ho | exact ho.1 | exact ho.2 | exact ho.2.1 | exact ho.2.2 | exact ho.2.2.1 | exact ho.2.2.2 | omega)
   replace lst7 := lst7.st lst8 (fun k hk ho => by simp only [out, and_true] at ho ⊢ <;> first | exact ho | exact ho.1 | exact ho.2 | exact ho.2.1 | exact ho.2.2 | exact ho.2.2.1 | exact ho.2.2.2 | omega)
   replace rk := rk.st lst8 (fun k hk ho => by simp only [out, and_true] at ho ⊢ <;> first | exact ho | exact ho.1 | exact ho.2 | exact ho.2.1 | exact ho.2.2 | exact ho.2.2.1 | exact ho.2.2.2 | omega)
   have ne_g1_g191 : g1 ≠ g191 := by first | assumption | omega
   replace at1 := lst8.same _ _ ⟨ne_g1_g191, trivial⟩ at1
   have ne_g2_g191 : g2 ≠ g191 := by first | assumption | omega
   replace at2 := lst8.same _ _ ⟨ne_g2_g191, trivial⟩ at2
   have ne_gLO_g191 : gLO ≠ g191 := by first | assumption | omega
   replace no_LO := no_LO.st lst8 ⟨ne_gLO_g191, trivial⟩
   have ne_gLA_g191 : gLA ≠ g191 := by first | assumption | omega
   replace no_LA := no_LA.st lst8 ⟨ne_gLA_g191, trivial⟩
   have ne_gLI_g191 : gLI ≠ g191 := by first | assumption | omega
   replace no_LI := no_LI.st lst8 ⟨ne_gLI_g191, trivial⟩
   have ne_gLC_g191 : gLC ≠ g191 := by first | assumption | omega
   replace no_LC := no_LC.st lst8 ⟨ne_gLC_g191, trivial⟩
   have ne_g177_g191 : g177 ≠ g191 := by first | assumption | omega
   replace at177 := lst8.same _ _ ⟨ne_g177_g191, trivial⟩ at177
   have ne_g178_g191 : g178 ≠ g191 := by first | assumption | omega
   replace at178 := lst8.same _ _ ⟨ne_g178_g191, trivial⟩ at178
   have ne_g187_g191 : g187 ≠ g191 := by first | assumption | omega
   replace at187 := lst8.same _ _ ⟨ne_g187_g191, trivial⟩ at187
   have ne_g188_g191 : g188 ≠ g191 := by first | assumption | omega
   replace at188 := lst8.same _ _ ⟨ne_g188_g191, trivial⟩ at188
   have ne_g4_g191 : g4 ≠ g191 := by first | assumption | omega
   replace at36010 := lst8.same _ _ ⟨ne_g4_g191, trivial⟩ at36010
   replace lv_vO := Keep.st lv_vO lst8 (fun k hb hk => ⟨(by omega), trivial⟩)
   replace vO := bs_vO.keep lv_vO (Nat.le_refl _)
   replace lv_vA := Keep.st lv_vA lst8 (fun k hb hk => ⟨(by omega), trivial⟩)
   replace vA := bs_vA.keep lv_vA (Nat.le_refl _)
   have lt_at_L16 := GHeap.ltg at_L16
   replace hin := base_hin.mono hle
   clear hb1 fsh1 c51 c61 i11 i21 hm1 hi1 hmsh1 hish1
   have hb1 : SFun.At _ g1 0 f p := ⟨Mem.of_get at1, hin⟩
   obtain ⟨fsh1, c51, c61, i11, i21⟩ := hb1.get
   have hm1 : MemN _ _ _ _ _ := ⟨rfl, hb1.1⟩
   have hi1 := hb1.2
   have hmsh1 : MemN _ _ _ _ _ := ⟨rfl, fsh1.1⟩
   have hish1 := fsh1.2
   clear mm1002
   have mm1002 : MemN _ _ _ _ _ := ⟨rfl, Mem.of_get at1002⟩
   clear iO
   have iO := vO.intss
   clear iA
   have iA := vA.intss
   clear u1
   have u1 := iA.2 a (by omega)
   have hrl := length_ecRw f a b
   refine .seq (fun K51 hK51 => .seq (fun K52 hK52 => .region (.mv rfl (.m rfl rfl rfl (.fieldAddr fo_81_2_Ec rfl) ?_))))
   refine .m rfl rfl rfl (.load on_23_B rfl (by first | assumption | exact Mem.of_get at36010 6 _ rfl)) ?_
   refine .m rfl rfl rfl (.len sl_23_B rfl) (.m rfl rfl rfl (.cmp rfl rfl rfl) (.nil (hK52 _ _ ?_)))
   refine .cond rfl (fun h196 => ?_) (fun h196 => ?_)
   ·
    simp only [sps] at h196
    obtain ⟨ob1, ob2, ob3, ob4, ob5, ob6, ob7⟩ := ecA_get (f := f) (a := b) (by omega)
    have u2 := iA.2 b (by omega)
    refine .skip ?_
    refine hK51 _ _ (.seq (fun K53 hK53 => ?_))
    refine .block ?_
    refine .seq (fun K54 hK54 => .region (.m rfl rfl rfl (.fieldAddr fo_81_2_Ec rfl) ?_))
    refine .m rfl rfl rfl (.load on_23_B rfl (by first | assumption | exact Mem.of_get at36010 6 _ rfl)) ?_
    refine .mv rfl ?_
    refine .m rfl rfl rfl (.idxN sl_23_B (by first | exact (Intss.sl (by assumption)) | exact SlA.of_row no_LA (by first | rfl | (simp; done) | (simp <;> omega))) rfl rfl (by omega)) ?_
    refine .m rfl rfl rfl (.loadR on_22_B (by assumption) rfl (by omega)) ?_
    refine .mv rfl (.nil (hK54 _ _ (.seq (fun K55 hK55 => ?_))))
    refine .regionD mo_B (.q 0 (.q 1 (.q 2 (.q 3 (.q 4 (.q 5 (.q 6 (.done)))))))) (by kernel_rfl) ?_
    refine .mv rfl rfl ?_
    refine .m rfl rfl rfl rfl (.refl _) (.idxN (j := 1) sl_22_A (by assumption) rfl rfl (by omega)) ?_
    refine .m rfl rfl rfl rfl (.refl _) (.loadI on_2_A (by assumption) rfl (by omega)) ?_
    refine .mv rfl rfl ?_
    refine .m rfl rfl rfl rfl (.refl _) (.idxN (j := 0) sl_22_A (by assumption) rfl rfl (by omega)) ?_
    refine .m rfl rfl rfl rfl (.refl _) (.loadI on_2_A (by assumption) rfl (by omega)) ?_
    refine .m rfl rfl rfl rfl (.refl _) (.cmp rfl rfl rfl) ?_
    refine .done ?_
    refine hK55 _ _ ?_
    refine .cond rfl (fun h210 => ?_) (fun h210 => ?_)
    ·
     simp only [sps] at h210
     refine .regionD mo_B (.q 0 (.q 1 (.q 2 (.q 3 (.q 4 (.q 5 (.q 6 (.q 7 (.q 8 (.q 9 (.q 10 (.q 11 (.q 12 (.q 13 (.q 14 (.q 15 (.q 16 (.c 17 1 (.c 18 1 (.c 19 1 (.c 20 1 (.c 21 0 (.c 22 0 (.done)))))))))))))))))))))))) (by kernel_rfl) ?_
     refine .mv rfl rfl (.m rfl rfl rfl rfl (.refl _) (.fieldAddr fo_81_2_Ec rfl) ?_)
     refine .m rfl rfl rfl rfl (.refl _) (.load on_23_B rfl (by first | assumption | exact Mem.of_get at36010 6 _ rfl)) ?_
     refine .mv rfl rfl ?_
     refine .m rfl rfl rfl rfl (.refl _) (.idxN (j := 0) sl_22_A (by assumption) rfl rfl (by omega)) ?_
     refine .m rfl rfl rfl rfl (.refl _) (.loadI on_2_A (by assumption) rfl (by omega)) ?_
     refine .mv rfl rfl ?_
     refine .m rfl rfl rfl rfl (.refl _) (.idxN (j := 1) sl_22_A (by assumption) rfl rfl (by omega)) ?_
     refine .m rfl rfl rfl rfl (.refl _) (.loadI on_2_A (by assumption) rfl (by omega)) ?_
     refine .m rfl rfl rfl rfl (.refl _) (.fieldAddr fo_46_0_P rfl) ?_
     refine .m rfl rfl rfl rfl (.refl _) (.loadM ag_31_D rfl (by assumption)) ?_
     refine .mv rfl rfl ?_
     refine .m rfl rfl rfl rfl (.refl _) (.idxN (j := 2) sl_22_A (by assumption) rfl rfl (by omega)) ?_
     refine .m rfl rfl rfl rfl (.refl _) (.loadI on_2_A (by assumption) rfl (by omega)) ?_
     refine .mv rfl rfl ?_
     refine .m rfl rfl rfl rfl (.refl _) (.idxN (j := 2) sl_22_A (by assumption) rfl rfl (by omega)) ?_
     refine .m rfl rfl rfl rfl (.refl _) (.loadI on_2_A (by assumption) rfl (by omega)) ?_
     refine .callQ1 rfl rfl rfl rfl rfl @Try.call57 rfl (l02Then_c) (.refl _) ?_
     refine .c1 rfl rfl rfl rfl (.litR rfl sl_22_A ze_2_E rfl rfl (by omega) (by omega) rfl rfl) ?_
     rintro _ H229 ⟨g229, rfl, le229, ge229, at229⟩
     have hbl := le229
     refine ⟨hbl, ?_⟩
     have nx_H229 := le229.1
     replace hle := hle.trans le229
     replace lst1 := lst1.le le229
     replace lst7 := lst7.le le229
     replace rk := rk.le le229
     replace lst8 := lst8.le le229
     replace at1 := le229.2 _ _ at1
     replace at2 := le229.2 _ _ at2
     replace no_LO := no_LO.le le229
     replace no_LA := no_LA.le le229
     replace no_LI := no_LI.le le229
     replace no_LC := no_LC.le le229
     replace at177 := le229.2 _ _ at177
     replace at178 := le229.2 _ _ at178
     replace at187 := le229.2 _ _ at187
     replace at188 := le229.2 _ _ at188
     replace at36010 := le229.2 _ _ at36010
     replace at_L16 := le229.2 _ _ at_L16
     replace lv_vO := Keep.le lv_vO le229
     replace vO := bs_vO.keep lv_vO (Nat.le_refl _)
     replace lv_vA := Keep.le lv_vA le229
     replace vA := bs_vA.keep lv_vA (Nat.le_refl _)
     have lt_at229 := GHeap.ltg at229
     replace hin := base_hin.mono hle
     clear hb1 fsh1 c51 c61 i11 i21 hm1 hi1 hmsh1 hish1
     have hb1 : SFun.At _ g1 0 f p := ⟨Mem.of_get at1, hin⟩
     obtain ⟨fsh1, c51, c61, i11, i21⟩ := hb1.get
     have hm1 : MemN _ _ _ _ _ := ⟨rfl, hb1.1⟩
     have hi1 := hb1.2
     have hmsh1 : MemN _ _ _ _ _ := ⟨rfl, fsh1.1⟩
     have hish1 := fsh1.2
     clear mm1002
     have mm1002 : MemN _ _ _ _ _ := ⟨rfl, Mem.of_get at1002⟩
     clear iO
     have iO := vO.intss
     clear iA
     have iA := vA.intss
     clear u1
     have u1 := iA.2 a (by omega)
     clear u2
     have u2 := iA.2 b (by omega)
     refine .call1 rfl rfl rfl rfl rfl @Try.call86 rfl ((l05Place_c iA (Ints.of_get (xs := ecC f a b) (by assumption)) (by omega) (fun i => by have := ecA_row hf hn8 i; omega) (by show 3 ≤ 1048576; omega))) ?_
     rintro _ _ ⟨rfl, rfl⟩
     refine ⟨(by assumption), ?_⟩
     refine .c1 rfl rfl rfl rfl (.litR rfl sl_22_A ze_2_E rfl rfl (by omega) (by omega) rfl rfl) ?_
     rintro _ H231 ⟨g231, rfl, le231, ge231, at231⟩
     replace hbl := hbl.trans le231
     refine ⟨hbl, ?_⟩
     have nx_H231 := le231.1
     replace hle := hle.trans le231
     replace lst1 := lst1.le le231
     replace lst7 := lst7.le le231
     replace rk := rk.le le231
     replace lst8 := lst8.le le231
     replace at1 := le231.2 _ _ at1
     replace at2 := le231.2 _ _ at2
     replace no_LO := no_LO.le le231
     replace no_LA := no_LA.le le231
     replace no_LI := no_LI.le le231
     replace no_LC := no_LC.le le231
     replace at177 := le231.2 _ _ at177
     replace at178 := le231.2 _ _ at178
     replace at187 := le231.2 _ _ at187
     replace at188 := le231.2 _ _ at188
     replace at36010 := le231.2 _ _ at36010
     replace at_L16 := le231.2 _ _ at_L16
     replace at229 := le231.2 _ _ at229
     replace lv_vO := Keep.le lv_vO le231
     replace vO := bs_vO.keep lv_vO (Nat.le_refl _)
     replace lv_vA := Keep.le lv_vA le231
     replace vA := bs_vA.keep lv_vA (Nat.le_refl _)
     have lt_at231 := GHeap.ltg at231
     replace hin := base_hin.mono hle
     clear hb1 fsh1 c51 c61 i11 i21 hm1 hi1 hmsh1 hish1
     have hb1 : SFun.At _ g1 0 f p := ⟨Mem.of_get at1, hin⟩
     obtain ⟨fsh1, c51, c61, i11, i21⟩ := hb1.get
     have hm1 : MemN _ _ _ _ _ := ⟨rfl, hb1.1⟩
     have hi1 := hb1.2
     have hmsh1 : MemN _ _ _ _ _ := ⟨rfl, fsh1.1⟩
     have hish1 := fsh1.2
     clear mm1002
     have mm1002 : MemN _ _ _ _ _ := ⟨rfl, Mem.of_get at1002⟩
     clear iO
     have iO := vO.intss
     clear iA
     have iA := vA.intss
     clear u1
     have u1 := iA.2 a (by omega)
     clear u2
     have u2 := iA.2 b (by omega)
     refine .c0 rfl rfl rfl rfl (.appendI rfl sl_22_A ze_2_E rfl by_2_E sl_22_A rfl rfl (by assumption) (by assumption) (by first | omega | (simp <;> omega)) (by omega) (by omega)) ?_
     rintro _ H232 ⟨g232, rfl, st232, ge232, at232⟩
     have nx_H232 := st232.nx
     replace hle := hle.st st232 (fun k hk => ⟨by omega, trivial⟩)
     replace lst1 := lst1.st st232 (fun k hk ho => by simp only [out, and_true] at ho ⊢ <;> first | exact ho | exact ho.1 | exact ho.2 | exact ho.2.1 | exact ho.2.2 | exact ho.2.2.1 | exact ho.2.2.2 | exact pl_L16.ne (by first | exact ho | exact ho.1 | exact ho.2 | exact ho.2.1 | exact ho.2.2 | exact ho.2.2.1 | exact ho.2.2.2 | omega) (by omega) | omega)
     replace lst7 := lst7.st st232 (fun k hk ho => by simp only [out, and_true] at ho ⊢ <;> first | exact ho | exact ho.1 | exact ho.2 | exact ho.2.1 | exact ho.2.2 | exact ho.2.2.1 | exact ho.2.2.2 | exact pl_L16.ne (by first | exact ho | exact ho.1 | exact ho.2 | exact ho.2.1 | exact ho.2.2 | exact ho.2.2.1 | exact ho.2.2.2 | omega) (by omega) | omega)
     replace rk := rk.st st232 (fun k hk ho => by simp only [out, and_true] at ho ⊢ <;> first | exact ho | exact ho.1 | exact ho.2 | exact ho.2.1 | exact ho.2.2 | exact ho.2.2.1 | exact ho.2.2.2 | exact pl_L16.ne (by first | exact ho | exact ho.1 | exact ho.2 | exact ho.2.1 | exact ho.2.2 | exact ho.2.2.1 | exact ho.2.2.2 | omega) (by omega) | omega)
     replace lst8 := lst8.st st232 (fun k hk ho => by simp only [out, and_true] at ho ⊢ <;> first | exact ho | exact ho.1 | exact ho.2 | exact ho.2.1 | exact ho.2.2 | exact ho.2.2.1 | exact ho.2.2.2 | exact pl_L16.ne (by first | exact ho | exact ho.1 | exact ho.2 | exact ho.2.1 | exact ho.2.2 | exact ho.2.2.1 | exact ho.2.2.2 | omega) (by omega) | omega)
     have ne_g1_gL16 : g1 ≠ gL16 := pl_L16.ne ne_g1_g191 (by omega)
     replace at1 := st232.same _ _ ⟨ne_g1_gL16, trivial⟩ at1
     have ne_g2_gL16 : g2 ≠ gL16 := pl_L16.ne ne_g2_g191 (by omega)
     replace at2 := st232.same _ _ ⟨ne_g2_gL16, trivial⟩ at2
     have ne_gLO_gL16 : gLO ≠ gL16 := pl_L16.ne ne_gLO_g191 (by omega)
     replace no_LO := no_LO.st st232 ⟨ne_gLO_gL16, trivial⟩
     have ne_gLA_gL16 : gLA ≠ gL16 := pl_L16.ne ne_gLA_g191 (by omega)
     replace no_LA := no_LA.st st232 ⟨ne_gLA_gL16, trivial⟩
     have ne_gLI_gL16 : gLI ≠ gL16 := pl_L16.ne ne_gLI_g191 (by omega)
     replace no_LI := no_LI.st st232 ⟨ne_gLI_gL16, trivial⟩
     have ne_gLC_gL16 : gLC ≠ gL16 := pl_L16.ne ne_gLC_g191 (by omega)
     replace no_LC := no_LC.st st232 ⟨ne_gLC_gL16, trivial⟩
     have ne_g177_gL16 : g177 ≠ gL16 := pl_L16.ne ne_g177_g191 (by omega)
     replace at177 := st232.same _ _ ⟨ne_g177_gL16, trivial⟩ at177
     have ne_g178_gL16 : g178 ≠ gL16 := pl_L16.ne ne_g178_g191 (by omega)
     replace at178 := st232.same _ _ ⟨ne_g178_gL16, trivial⟩ at178
     have ne_g187_gL16 : g187 ≠ gL16 := pl_L16.ne ne_g187_g191 (by omega)
     replace at187 := st232.same _ _ ⟨ne_g187_gL16, trivial⟩ at187
     have ne_g188_gL16 : g188 ≠ gL16 := pl_L16.ne ne_g188_g191 (by omega)
     replace at188 := st232.same _ _ ⟨ne_g188_gL16, trivial⟩ at188
     have ne_g4_gL16 : g4 ≠ gL16 := pl_L16.ne ne_g4_g191 (by omega)
     replace at36010 := st232.same _ _ ⟨ne_g4_gL16, trivial⟩ at36010
     replace at229 := st232.same _ _ ⟨(by first | assumption | omega), trivial⟩ at229
     replace at231 := st232.same _ _ ⟨(by first | assumption | omega), trivial⟩ at231
     replace lv_vO := Keep.st lv_vO st232 (fun k hb hk => ⟨(by first | exact pl_L16.ne (by omega) (by omega) | omega), trivial⟩)
     replace vO := bs_vO.keep lv_vO (Nat.le_refl _)
     replace lv_vA := Keep.st lv_vA st232 (fun k hb hk => ⟨(by first | exact pl_L16.ne (by omega) (by omega) | omega), trivial⟩)
     replace vA := bs_vA.keep lv_vA (Nat.le_refl _)
     have lt_at232 := GHeap.ltg at232
     replace hin := base_hin.mono hle
     clear hb1 fsh1 c51 c61 i11 i21 hm1 hi1 hmsh1 hish1
     have hb1 : SFun.At _ g1 0 f p := ⟨Mem.of_get at1, hin⟩
     obtain ⟨fsh1, c51, c61, i11, i21⟩ := hb1.get
     have hm1 : MemN _ _ _ _ _ := ⟨rfl, hb1.1⟩
     have hi1 := hb1.2
     have hmsh1 : MemN _ _ _ _ _ := ⟨rfl, fsh1.1⟩
     have hish1 := fsh1.2
     clear mm1002
     have mm1002 : MemN _ _ _ _ _ := ⟨rfl, Mem.of_get at1002⟩
     clear iO
     have iO := vO.intss
     clear iA
     have iA := vA.intss
     clear u1
     have u1 := iA.2 a (by omega)
     clear u2
     have u2 := iA.2 b (by omega)
     refine .d0 rfl rfl rfl rfl (.quiet (.assign rfl) CIs.mk) ?_
     refine .done ?_
     refine hK53 _ _ (.region (.mv rfl ?_))
     refine .m rfl rfl rfl (.add rfl rfl rfl (by omega) (by omega)) ?_
     refine .mv rfl (.nil ?_)
     refine hKL8 ((b + 1, _, _)) _ _ ?_ ?_ ⟨rfl, rfl, rfl, rfl, rfl, rfl, rfl, trivial⟩
     ·
      refine ⟨lst8, by first | assumption | (rw [ecRw_T (by omega) (by omega) h210]; assumption) | (rw [ecRw_F (by omega) (by omega) h210]; assumption), by first | assumption | exact ⟨.inr (by omega)⟩ | exact ⟨.inl rfl⟩, by first | omega | (simp only [List.length_append, List.length_cons, List.length_nil] <;> omega) | (rw [ecRw_T (by omega) (by omega) h210] <;> (first | omega | (simp only [List.length_append, List.length_cons, List.length_nil] <;> omega))) | (rw [ecRw_F (by omega) (by omega) h210] <;> (first | omega | (simp only [List.length_append, List.length_cons, List.length_nil] <;> omega))), ?_⟩
      omega
     (dsimp only; omega)
    simp only [sps] at h210
    refine .region (.mv rfl ?_)
    refine .r rfl rfl rfl (.litR rfl sl_22_A ze_2_E rfl rfl (by omega) (by omega) rfl rfl) ?_
    rintro _ H234 ⟨g234, rfl, le234, ge234, at234⟩
    have nx_H234 := le234.1
    replace hle := hle.trans le234
    replace lst1 := lst1.le le234
    replace lst7 := lst7.le le234
    replace rk := rk.le le234
    replace lst8 := lst8.le le234
    replace at1 := le234.2 _ _ at1
    replace at2 := le234.2 _ _ at2
    replace no_LO := no_LO.le le234
    replace no_LA := no_LA.le le234
    replace no_LI := no_LI.le le234
    replace no_LC := no_LC.le le234
    replace at177 := le234.2 _ _ at177
    replace at178 := le234.2 _ _ at178
    replace at187 := le234.2 _ _ at187
    replace at188 := le234.2 _ _ at188
    replace at36010 := le234.2 _ _ at36010
    replace at_L16 := le234.2 _ _ at_L16
    replace lv_vO := Keep.le lv_vO le234
    replace vO := bs_vO.keep lv_vO (Nat.le_refl _)
    replace lv_vA := Keep.le lv_vA le234
    replace vA := bs_vA.keep lv_vA (Nat.le_refl _)
    have lt_at234 := GHeap.ltg at234
    replace hin := base_hin.mono hle
    clear hb1 fsh1 c51 c61 i11 i21 hm1 hi1 hmsh1 hish1
    have hb1 : SFun.At _ g1 0 f p := ⟨Mem.of_get at1, hin⟩
    obtain ⟨fsh1, c51, c61, i11, i21⟩ := hb1.get
    have hm1 : MemN _ _ _ _ _ := ⟨rfl, hb1.1⟩
    have hi1 := hb1.2
    have hmsh1 : MemN _ _ _ _ _ := ⟨rfl, fsh1.1⟩
    have hish1 := fsh1.2
    clear mm1002
    have mm1002 : MemN _ _ _ _ _ := ⟨rfl, Mem.of_get at1002⟩
    clear iO
    have iO := vO.intss
    clear iA
    have iA := vA.intss
    clear u1
    have u1 := iA.2 a (by omega)
    clear u2
    have u2 := iA.2 b (by omega)
    refine .r rfl rfl rfl (.appendI rfl sl_22_A ze_2_E rfl by_2_E sl_22_A rfl rfl (by assumption) (by assumption) (by first | omega | (simp <;> omega)) (by omega) (by omega)) ?_
    rintro _ H235 ⟨g235, rfl, st235, ge235, at235⟩
    have nx_H235 := st235.nx
    replace hle := hle.st st235 (fun k hk => ⟨by omega, trivial⟩)
    replace lst1 := lst1.st st235 (fun k hk ho => by simp only [out, and_true] at ho ⊢ <;> first | exact ho | exact ho.1 | exact ho.2 | exact ho.2.1 | exact ho.2.2 | exact ho.2.2.1 | exact ho.2.2.2 | exact pl_L16.ne (by first | exact ho | exact ho.1 | exact ho.2 | exact ho.2.1 | exact ho.2.2 | exact ho.2.2.1 | exact ho.2.2.2 | omega) (by omega) | omega)
    replace lst7 := lst7.st st235 (fun k hk ho => by simp only [out, and_true] at ho ⊢ <;> first | exact ho | exact ho.1 | exact ho.2 | exact ho.2.1 | exact ho.2.2 | exact ho.2.2.1 | exact ho.2.2.2 | exact pl_L16.ne (by first | exact ho | exact ho.1 | exact ho.2 | exact ho.2.1 | exact ho.2.2 | exact ho.2.2.1 | exact ho.2.2.2 | omega) (by omega) | omega)
    replace rk := rk.st st235 (fun k hk ho => by simp only [out, and_true] at ho ⊢ <;> first | exact ho | exact ho.1 | exact ho.2 | exact ho.2.1 | exact ho.2.2 | exact ho.2.2.1 | exact ho.2.2.2 | exact pl_L16.ne (by first | exact ho | exact ho.1 | exact ho.2 | exact ho.2.1 | exact ho.2.2 | exact ho.2.2.1 | exact ho.2.2.2 | omega) (by omega) | omega)
    replace lst8 := lst8.st st235 (fun k hk ho => by simp only [out, and_true] at ho ⊢ <;> first | exact ho | exact ho.1 | exact ho.2 | exact ho.2.1 | exact ho.2.2 | exact ho.2.2.1 | exact ho.2.2.2 | exact pl_L16.ne (by first | exact ho | exact ho.1 | exact ho.2 | exact ho.2.1 | exact ho.2.2 | exact ho.2.2.1 | exact ho.2.2.2 | omega) (by omega) | omega)
    have ne_g1_gL16 : g1 ≠ gL16 := pl_L16.ne ne_g1_g191 (by omega)
    replace at1 := st235.same _ _ ⟨ne_g1_gL16, trivial⟩ at1
    have ne_g2_gL16 : g2 ≠ gL16 := pl_L16.ne ne_g2_g191 (by omega)
    replace at2 := st235.same _ _ ⟨ne_g2_gL16, trivial⟩ at2
    have ne_gLO_gL16 : gLO ≠ gL16 := pl_L16.ne ne_gLO_g191 (by omega)
    replace no_LO := no_LO.st st235 ⟨ne_gLO_gL16, trivial⟩
    have ne_gLA_gL16 : gLA ≠ gL16 := pl_L16.ne ne_gLA_g191 (by omega)
    replace no_LA := no_LA.st st235 ⟨ne_gLA_gL16, trivial⟩
    have ne_gLI_gL16 : gLI ≠ gL16 := pl_L16.ne ne_gLI_g191 (by omega)
    replace no_LI := no_LI.st st235 ⟨ne_gLI_gL16, trivial⟩
    have ne_gLC_gL16 : gLC ≠ gL16 := pl_L16.ne ne_gLC_g191 (by omega)
    replace no_LC := no_LC.st st235 ⟨ne_gLC_gL16, trivial⟩
    have ne_g177_gL16 : g177 ≠ gL16 := pl_L16.ne ne_g177_g191 (by omega)
    replace at177 := st235.same _ _ ⟨ne_g177_gL16, trivial⟩ at177
    have ne_g178_gL16 : g178 ≠ gL16 := pl_L16.ne ne_g178_g191 (by omega)
    replace at178 := st235.same _ _ ⟨ne_g178_gL16, trivial⟩ at178
    have ne_g187_gL16 : g187 ≠ gL16 := pl_L16.ne ne_g187_g191 (by omega)
    replace at187 := st235.same _ _ ⟨ne_g187_gL16, trivial⟩ at187
    have ne_g188_gL16 : g188 ≠ gL16 := pl_L16.ne ne_g188_g191 (by omega)
    replace at188 := st235.same _ _ ⟨ne_g188_gL16, trivial⟩ at188
    have ne_g4_gL16 : g4 ≠ gL16 := pl_L16.ne ne_g4_g191 (by omega)
    replace at36010 := st235.same _ _ ⟨ne_g4_gL16, trivial⟩ at36010
    replace at234 := st235.same _ _ ⟨(by first | assumption | omega), trivial⟩ at234
    replace lv_vO := Keep.st lv_vO st235 (fun k hb hk => ⟨(by first | exact pl_L16.ne (by omega) (by omega) | omega), trivial⟩)
    replace vO := bs_vO.keep lv_vO (Nat.le_refl _)
    replace lv_vA := Keep.st lv_vA st235 (fun k hb hk => ⟨(by first | exact pl_L16.ne (by omega) (by omega) | omega), trivial⟩)
    replace vA := bs_vA.keep lv_vA (Nat.le_refl _)
    have lt_at235 := GHeap.ltg at235
    replace hin := base_hin.mono hle
    clear hb1 fsh1 c51 c61 i11 i21 hm1 hi1 hmsh1 hish1
    have hb1 : SFun.At _ g1 0 f p := ⟨Mem.of_get at1, hin⟩
    obtain ⟨fsh1, c51, c61, i11, i21⟩ := hb1.get
    have hm1 : MemN _ _ _ _ _ := ⟨rfl, hb1.1⟩
    have hi1 := hb1.2
    have hmsh1 : MemN _ _ _ _ _ := ⟨rfl, fsh1.1⟩
    have hish1 := fsh1.2
    clear mm1002
    have mm1002 : MemN _ _ _ _ _ := ⟨rfl, Mem.of_get at1002⟩
    clear iO
    have iO := vO.intss
    clear iA
    have iA := vA.intss
    clear u1
    have u1 := iA.2 a (by omega)
    clear u2
    have u2 := iA.2 b (by omega)
    refine .mv rfl (.nil (hK53 _ _ (.region (.mv rfl ?_))))
    refine .m rfl rfl rfl (.add rfl rfl rfl (by omega) (by omega)) ?_
    refine .mv rfl (.nil ?_)
    refine hKL8 ((b + 1, _, _)) _ _ ?_ ?_ ⟨rfl, rfl, rfl, rfl, rfl, rfl, rfl, trivial⟩
    ·
     refine ⟨lst8, by first | assumption | (rw [ecRw_T (by omega) (by omega) h210]; assumption) | (rw [ecRw_F (by omega) (by omega) h210]; assumption), by first | assumption | exact ⟨.inr (by omega)⟩ | exact ⟨.inl rfl⟩, by first | omega | (simp only [List.length_append, List.length_cons, List.length_nil] <;> omega) | (rw [ecRw_T (by omega) (by omega) h210] <;> (first | omega | (simp only [List.length_append, List.length_cons, List.length_nil] <;> omega))) | (rw [ecRw_F (by omega) (by omega) h210] <;> (first | omega | (simp only [List.length_append, List.length_cons, List.length_nil] <;> omega))), ?_⟩
     omega
    (dsimp only; omega)
   try simp only [sps] at h196
   refine .exit ?_
   refine hK49 _ _ (.region ?_)
   obtain rfl : b = (ecA f).length := by omega
   have hrl := length_ecRw f a (ecA f).length
   have hrl2 := ln_L16.symm
   refine .m rfl rfl rfl (.fieldAddr fo_81_0_Ec rfl) (.m rfl rfl rfl (.fieldAddr fo_31_4_B rfl) ?_)
   refine .m rfl rfl rfl (.load on_23_B rfl (by first | assumption | exact Mem.of_get at36010 4 _ rfl)) ?_
   refine .mv rfl ?_
   refine .r rfl rfl rfl (.litR rfl sl_23_B ze_22_E rfl rfl (by omega) (by omega) rfl rfl) ?_
   rintro _ H240 ⟨g240, rfl, le240, ge240, at240⟩
   have nx_H240 := le240.1
   replace hle := hle.trans le240
   replace lst1 := lst1.le le240
   replace lst7 := lst7.le le240
   replace rk := rk.le le240
   replace at1 := le240.2 _ _ at1
   replace at2 := le240.2 _ _ at2
   replace no_LO := no_LO.le le240
   replace no_LA := no_LA.le le240
   replace no_LI := no_LI.le le240
   replace no_LC := no_LC.le le240
   replace at177 := le240.2 _ _ at177
   replace at178 := le240.2 _ _ at178
   replace at187 := le240.2 _ _ at187
   replace at188 := le240.2 _ _ at188
   replace at36010 := le240.2 _ _ at36010
   replace at_L16 := le240.2 _ _ at_L16
   replace lv_vO := Keep.le lv_vO le240
   replace vO := bs_vO.keep lv_vO (Nat.le_refl _)
   replace lv_vA := Keep.le lv_vA le240
   replace vA := bs_vA.keep lv_vA (Nat.le_refl _)
   have lt_at240 := GHeap.ltg at240
   replace hin := base_hin.mono hle
   clear hb1 fsh1 c51 c61 i11 i21 hm1 hi1 hmsh1 hish1
   have hb1 : SFun.At _ g1 0 f p := ⟨Mem.of_get at1, hin⟩
   obtain ⟨fsh1, c51, c61, i11, i21⟩ := hb1.get
   have hm1 : MemN _ _ _ _ _ := ⟨rfl, hb1.1⟩
   have hi1 := hb1.2
   have hmsh1 : MemN _ _ _ _ _ := ⟨rfl, fsh1.1⟩
   have hish1 := fsh1.2
   clear mm1002
   have mm1002 : MemN _ _ _ _ _ := ⟨rfl, Mem.of_get at1002⟩
   clear iO
   have iO := vO.intss
   clear iA
   have iA := vA.intss
   clear u1
   have u1 := iA.2 a (by omega)
   refine .r rfl rfl rfl (.appendNO rfl sl_23_B ze_22_E rfl by_22_E sl_23_B rfl rfl no_LC (by assumption) (by first | omega | (simp <;> omega)) rfl rfl (by omega) (by omega)) ?_
   rintro _ H241 ⟨g241, rfl, st241, ge241, at241⟩
   have nx_H241 := st241.nx
   replace hle := hle.st st241 (fun k hk => ⟨by omega, trivial⟩)
   replace lst1 := lst1.st st241 (fun k hk ho => by simp only [out, and_true] at ho ⊢ <;> first | exact ho | exact ho.1 | exact ho.2 | exact ho.2.1 | exact ho.2.2 | exact ho.2.2.1 | exact ho.2.2.2 | exact pl_LC.ne (by first | exact ho | exact ho.1 | exact ho.2 | exact ho.2.1 | exact ho.2.2 | exact ho.2.2.1 | exact ho.2.2.2 | omega) (by omega) | omega)
   replace lst7 := lst7.st st241 (fun k hk ho => by simp only [out, and_true] at ho ⊢ <;> first | exact ho | exact ho.1 | exact ho.2 | exact ho.2.1 | exact ho.2.2 | exact ho.2.2.1 | exact ho.2.2.2 | exact pl_LC.ne (by first | exact ho | exact ho.1 | exact ho.2 | exact ho.2.1 | exact ho.2.2 | exact ho.2.2.1 | exact ho.2.2.2 | omega) (by omega) | omega)
   replace rk := rk.st st241 (fun k hk ho => by simp only [out, and_true] at ho ⊢ <;> first | exact ho | exact ho.1 | exact ho.2 | exact ho.2.1 | exact ho.2.2 | exact ho.2.2.1 | exact ho.2.2.2 | exact pl_LC.ne (by first | exact ho | exact ho.1 | exact ho.2 | exact ho.2.1 | exact ho.2.2 | exact ho.2.2.1 | exact ho.2.2.2 | omega) (by omega) | omega)
   have ne_g1_gLC : g1 ≠ gLC := pl_LC.ne ne_g1_ghC (by omega)
   replace at1 := st241.same _ _ ⟨ne_g1_gLC, trivial⟩ at1
   have ne_g2_gLC : g2 ≠ gLC := pl_LC.ne ne_g2_ghC (by omega)
   replace at2 := st241.same _ _ ⟨ne_g2_gLC, trivial⟩ at2
   have ne_gLO_gLC : gLO ≠ gLC := pl_LC.ne ne_gLO_ghC (by omega)
   replace no_LO := no_LO.st st241 ⟨ne_gLO_gLC, trivial⟩
   have ne_gLA_gLC : gLA ≠ gLC := pl_LC.ne ne_gLA_ghC (by omega)
   replace no_LA := no_LA.st st241 ⟨ne_gLA_gLC, trivial⟩
   have ne_gLI_gLC : gLI ≠ gLC := pl_LC.ne ne_gLI_ghC (by omega)
   replace no_LI := no_LI.st st241 ⟨ne_gLI_gLC, trivial⟩
   replace at177 := st241.same _ _ ⟨(by first | assumption | omega), trivial⟩ at177
   replace at178 := st241.same _ _ ⟨(by first | assumption | omega), trivial⟩ at178
   replace at187 := st241.same _ _ ⟨(by first | assumption | omega), trivial⟩ at187
   replace at188 := st241.same _ _ ⟨(by first | assumption | omega), trivial⟩ at188
   replace at36010 := st241.same _ _ ⟨(Ne.symm ap7_5), trivial⟩ at36010
   have ne_gLC_gL16 : gLC ≠ gL16 := pl_L16.ne ne_gLC_g191 (by omega)
   replace at_L16 := st241.same _ _ ⟨(Ne.symm ne_gLC_gL16), trivial⟩ at_L16
   replace at240 := st241.same _ _ ⟨(by first | assumption | omega), trivial⟩ at240
   replace lv_vO := Keep.st lv_vO st241 (fun k hb hk => ⟨(by first | exact pl_LC.ne (by omega) (by omega) | omega), trivial⟩)
   replace vO := bs_vO.keep lv_vO (Nat.le_refl _)
   replace lv_vA := Keep.st lv_vA st241 (fun k hb hk => ⟨(by first | exact pl_LC.ne (by omega) (by omega) | omega), trivial⟩)
   replace vA := bs_vA.keep lv_vA (Nat.le_refl _)
   have lt_at241 := GHeap.ltg at241
   replace hin := base_hin.mono hle
   clear hb1 fsh1 c51 c61 i11 i21 hm1 hi1 hmsh1 hish1
   have hb1 : SFun.At _ g1 0 f p := ⟨Mem.of_get at1, hin⟩
   obtain ⟨fsh1, c51, c61, i11, i21⟩ := hb1.get
   have hm1 : MemN _ _ _ _ _ := ⟨rfl, hb1.1⟩
   have hi1 := hb1.2
   have hmsh1 : MemN _ _ _ _ _ := ⟨rfl, fsh1.1⟩
   have hish1 := fsh1.2
   clear mm1002
   have mm1002 : MemN _ _ _ _ _ := ⟨rfl, Mem.of_get at1002⟩
   clear iO
   have iO := vO.intss
   clear iA
   have iA := vA.intss
   clear u1
   have u1 := iA.2 a (by omega)
   refine .m rfl rfl rfl (.fieldAddr fo_81_0_Ec rfl) (.m rfl rfl rfl (.fieldAddr fo_31_4_B rfl) ?_)
   refine .r0 rfl rfl (.storeR rfl sz_23_E rfl rfl rfl (by assumption) (by first | exact Nat.le_of_ble_eq_true rfl | (simp; done) | (simp <;> omega))) ?_
   rintro _ H45008 ⟨rfl, st45008, at45008⟩
   have nx_H45008 := st45008.nx
   replace hle := hle.st st45008 (fun k hk => ⟨by omega, trivial⟩)
   replace lst1 := lst1.st st45008 (fun k hk ho => by simp only [out, and_true] at ho ⊢ <;> first | exact ho | exact ho.1 | exact ho.2 | exact ho.2.1 | exact ho.2.2 | exact ho.2.2.1 | exact ho.2.2.2 | omega)
   replace lst7 := lst7.st st45008 (fun k hk ho => by simp only [out, and_true] at ho ⊢ <;> first | exact ho | exact ho.1 | exact ho.2 | exact ho.2.1 | exact ho.2.2 | exact ho.2.2.1 | exact ho.2.2.2 | omega)
   replace rk := rk.st st45008 (fun k hk ho => by simp only [out, and_true] at ho ⊢ <;> first | exact ho | exact ho.1 | exact ho.2 | exact ho.2.1 | exact ho.2.2 | exact ho.2.2.1 | exact ho.2.2.2 | omega)
   replace at1 := st45008.same _ _ ⟨ne_g1_g4, trivial⟩ at1
   replace at2 := st45008.same _ _ ⟨ne_g2_g4, trivial⟩ at2
   replace no_LO := no_LO.st st45008 ⟨ap1_0, trivial⟩
   replace no_LA := no_LA.st st45008 ⟨ap3_0, trivial⟩
   replace no_LI := no_LI.st st45008 ⟨ap6_0, trivial⟩
   replace at177 := st45008.same _ _ ⟨ne_g177_g4, trivial⟩ at177
   replace at178 := st45008.same _ _ ⟨ne_g178_g4, trivial⟩ at178
   replace at187 := st45008.same _ _ ⟨ne_g187_g4, trivial⟩ at187
   replace at188 := st45008.same _ _ ⟨ne_g188_g4, trivial⟩ at188
   have ne_g4_gL16 : g4 ≠ gL16 := pl_L16.ne ne_g4_g191 (by omega)
   replace at_L16 := st45008.same _ _ ⟨(Ne.symm ne_g4_gL16), trivial⟩ at_L16
   replace at240 := st45008.same _ _ ⟨(by first | assumption | omega), trivial⟩ at240
   replace at241 := st45008.same _ _ ⟨(by first | assumption | omega), trivial⟩ at241
   replace lv_vO := Keep.st lv_vO st45008 (fun k hb hk => ⟨(by omega), trivial⟩)
   replace vO := bs_vO.keep lv_vO (Nat.le_refl _)
   replace lv_vA := Keep.st lv_vA st45008 (fun k hb hk => ⟨(by omega), trivial⟩)
   replace vA := bs_vA.keep lv_vA (Nat.le_refl _)
   have lt_at45008 := GHeap.ltg at45008
   replace hin := base_hin.mono hle
   clear hb1 fsh1 c51 c61 i11 i21 hm1 hi1 hmsh1 hish1
   have hb1 : SFun.At _ g1 0 f p := ⟨Mem.of_get at1, hin⟩
   obtain ⟨fsh1, c51, c61, i11, i21⟩ := hb1.get
   have hm1 : MemN _ _ _ _ _ := ⟨rfl, hb1.1⟩
   have hi1 := hb1.2
   have hmsh1 : MemN _ _ _ _ _ := ⟨rfl, fsh1.1⟩
   have hish1 := fsh1.2
   clear mm1002
   have mm1002 : MemN _ _ _ _ _ := ⟨rfl, Mem.of_get at1002⟩
   clear iO
   have iO := vO.intss
   clear iA
   have iA := vA.intss
   clear u1
   have u1 := iA.2 a (by omega)
   try simp only [Nat.zero_add, List.set_cons_succ, List.set_cons_zero] at at45008
   refine .nil (hK44 _ _ (.region (.mv rfl ?_)))
   refine .m rfl rfl rfl (.add rfl rfl rfl (by omega) (by omega)) ?_
   refine .mv rfl (.nil ?_)
   refine hKL7 ((a + 1, upd rc (ecT f a).length (some ⟨gL16, 0, none⟩), g178, g188, g241)) _ _ ?_ ?_ ⟨rfl, rfl, rfl, rfl, trivial⟩
   ·
    refine ⟨lst7, by first | (first | assumption | (rw [colI_take (by omega)]; assumption) | (rw [ecT_snoc, slsL_snoc, hrl2]; assumption)) | exact NO.of (by first | assumption | (rw [colI_take (by omega)]; assumption) | (rw [ecT_snoc, slsL_snoc, hrl2]; assumption)) (by omega), by first | assumption | exact ⟨.inr (by omega)⟩ | exact ⟨.inl rfl⟩, by first | (first | assumption | (rw [colI_take (by omega)]; assumption) | (rw [ecT_snoc, slsL_snoc, hrl2]; assumption)) | exact NO.of (by first | assumption | (rw [colI_take (by omega)]; assumption) | (rw [ecT_snoc, slsL_snoc, hrl2]; assumption)) (by omega), by first | assumption | exact ⟨.inr (by omega)⟩ | exact ⟨.inl rfl⟩, by first | (first | assumption | (rw [colI_take (by omega)]; assumption) | (rw [ecT_snoc, slsL_snoc, hrl2]; assumption)) | exact NO.of (by first | assumption | (rw [colI_take (by omega)]; assumption) | (rw [ecT_snoc, slsL_snoc, hrl2]; assumption)) (by omega), by first | assumption | exact ⟨.inr (by omega)⟩ | exact ⟨.inl rfl⟩, by first | assumption | (rw [colI_take (by omega)]; assumption) | (rw [ecT_snoc, slsL_snoc, hrl2]; assumption), by first | assumption | omega, by first | assumption | omega, by first | assumption | omega, by first | assumption | omega, by first | assumption | omega, by first | assumption | omega, ?_⟩
    have hR' := hR.st rk (.cons hF (.cons hT (.cons (hR.neNO hatC hql.symm rfl) (.cons (hR.neT hat4 rfl) (.nil _ _)))))
    have hn1 := hR.ne (g := gL16) (pl_L16.ge (by omega) (by omega))
    have hn2 := hR.ne (g := g178) (by omega)
    have hn3 := hR.ne (g := g188) (by omega)
    have hx1 : g178 ≠ gL16 := pl_L16.ne (by omega) (by omega)
    have hx2 : g188 ≠ gL16 := pl_L16.ne (by omega) (by omega)
    have hrow := at_L16
    have hb1 : HL6.next ≤ gL16 := pl_L16.ge (by omega) (by omega)
    rw [ecT_snoc]
    exact ⟨by omega, hR'.snoc2 hrow hn1 (by omega), ne_snoc hn2 (by omega), ne_snoc hn3 (by omega)⟩
   (dsimp only; omega)
  try simp only [sps] at h163
  refine .exit ?_
  refine hK40 _ _ (.seq (fun K56 hK56 => .region ?_))
  refine .m rfl rfl rfl (.loadM ag_81_Ec rfl ⟨rfl, Mem.of_get at_Lg4⟩) ?_
  obtain rfl : a = (ecA f).length := by omega
  have hat2 := at2
  refine .r0 rfl rfl (.fillR rfl sz_81_Ec rfl rfl rfl rfl (by assumption) (by first | rfl | exact Nat.le_of_ble_eq_true rfl | simp)) ?_
  rintro _ H46001 ⟨rfl, st46001, at46001⟩
  have nx_H46001 := st46001.nx
  replace hle := hle.st st46001 (fun k hk => ⟨by omega, trivial⟩)
  have ne_g1_g2 : g1 ≠ g2 := by first | assumption | omega
  replace at1 := st46001.same _ _ ⟨ne_g1_g2, trivial⟩ at1
  have ne_g2_gLO : g2 ≠ gLO := pl_LO.ne ne_g2_ghO (by omega)
  replace no_LO := no_LO.st st46001 ⟨(Ne.symm ne_g2_gLO), trivial⟩
  have ne_g2_gLA : g2 ≠ gLA := pl_LA.ne ne_g2_ghA (by omega)
  replace no_LA := no_LA.st st46001 ⟨(Ne.symm ne_g2_gLA), trivial⟩
  have ne_g2_gLI : g2 ≠ gLI := pl_LI.ne ne_g2_ghI (by omega)
  replace no_LI := no_LI.st st46001 ⟨(Ne.symm ne_g2_gLI), trivial⟩
  have ne_g2_gLF : g2 ≠ gLF := pl_LF.ne ne_g2_ghF (by omega)
  replace no_LF := no_LF.st st46001 ⟨(Ne.symm ne_g2_gLF), trivial⟩
  have ne_g2_gLT : g2 ≠ gLT := pl_LT.ne ne_g2_ghT (by omega)
  replace no_LT := no_LT.st st46001 ⟨(Ne.symm ne_g2_gLT), trivial⟩
  have ne_g2_gLC : g2 ≠ gLC := pl_LC.ne ne_g2_ghC (by omega)
  replace no_LC := no_LC.st st46001 ⟨(Ne.symm ne_g2_gLC), trivial⟩
  replace at_Lg4 := st46001.same _ _ ⟨(Ne.symm ne_g2_g4), trivial⟩ at_Lg4
  replace lv_vO := Keep.st lv_vO st46001 (fun k hb hk => ⟨(by omega), trivial⟩)
  replace vO := bs_vO.keep lv_vO (Nat.le_refl _)
  replace lv_vA := Keep.st lv_vA st46001 (fun k hb hk => ⟨(by omega), trivial⟩)
  replace vA := bs_vA.keep lv_vA (Nat.le_refl _)
  have lt_at46001 := GHeap.ltg at46001
  replace hin := base_hin.mono hle
  clear hb1 fsh1 c51 c61 i11 i21 hm1 hi1 hmsh1 hish1
  have hb1 : SFun.At _ g1 0 f p := ⟨Mem.of_get at1, hin⟩
  obtain ⟨fsh1, c51, c61, i11, i21⟩ := hb1.get
  have hm1 : MemN _ _ _ _ _ := ⟨rfl, hb1.1⟩
  have hi1 := hb1.2
  have hmsh1 : MemN _ _ _ _ _ := ⟨rfl, fsh1.1⟩
  have hish1 := fsh1.2
  clear mm1002
  have mm1002 : MemN _ _ _ _ _ := ⟨rfl, Mem.of_get at1002⟩
  clear iO
  have iO := vO.intss
  clear iA
  have iA := vA.intss
  have mm46001 : MemN _ _ _ _ _ := ⟨rfl, Mem.of_get at46001⟩
  refine .mv rfl (.nil (hK56 _ _ ?_))
  refine .ret ?_
  refine hret _ _ ?_
  refine ⟨_, _, _, _, _, rfl, ag_81_Ec, (by rfl), (Mem.of_get at46001), rfl, ?_⟩
  rw [List.take_length] at no_LF no_LT
  have hx4 : gLI ≠ gLF := pl_LF.ne (by omega) (by omega)
  have hx5 : gLI ≠ gLT := pl_LT.ne (by omega) (by omega)
  have hx6 : HL6.next ≤ gLC := pl_LC.ge (by omega) (by omega)
  have hid : CatR H.next _ (elsC f) ⟨nz (ecA f).length gLF, nz (ecA f).length gLT, nz (elE f).length gLI, nz (ecA f).length gLC, rc⟩ := .mk (no_LF.isR (by simp) (by omega)) (no_LT.isR (by simp) (by omega)) (no_LI.isR (by simp) (by omega)) ((((hR.st st46001 (.cons (hR.neT hat2 rfl) (.nil _ _)))).doneNO no_LC (by rw [length_ecT]) (by omega)).keep (.of_le (.refl _)) (by omega)) (nz_or _ _) (nz_or _ _) (nz_or _ _) (by omega) (by omega) (by omega) (fun i hi => ⟨hF i (by rw [length_ecT]; simpa [elsC, bldC, tabL] using hi), hT i (by rw [length_ecT]; simpa [elsC, bldC, tabL] using hi), (hR.lowNe (by omega)) i (by rw [length_ecT]; simpa [elsC, bldC, tabL] using hi)⟩)
  obtain ⟨e1, e2, e3, _⟩ := els_0 hf hn8 hm40
  refine ⟨hle, ⟨nz (ecA f).length gLF, nz (ecA f).length gLT, nz (elE f).length gLI, nz (ecA f).length gLC, rc⟩, nz (elE f).length gLO, rr, nz (ecA f).length gLA, ra, ?_⟩
  rw [e1, e2, e3, B_true (p := f.ecOk) ⟨hf, hn8, hm40⟩]
  exact ⟨by simp [Cat.cells, elsC, bldC, tabL], hid, vO.keep (.of_le (.refl _)) (by omega), vA.keep (.of_le (.refl _)) (by omega)⟩
end Go.Proofs.Ytagkeabmdodfiaa
namespace Go.Proofs.Ytagkeabmdodfiaa
open Go Go.GL Go.RowKit Go.Proofs
theorem elements_c {g o : Nat} {f : SFun} {p : SFunP} {H : GHeap} (h : SFun.At H g o f p := by assumption) (hS : f.Shape := by assumption) (hn : f.sz.length ≤ 8 := by omega) :
    GCalls Try.prog 89 [.pointer (some ⟨g, o, none⟩)] H (Ret (.int .i64 (sumN f.szF f.sz.length)) H) := by
  refine GCalls.body (N := 20) (rs := [.tmp 2]) Try.func89 rfl rfl rfl rfl (fun Qx hret hend => ?_)
  refine .forget (fr' := [(0, some _)]) ⟨rfl, trivial⟩ ?_
  have hle := GHeap.Le.refl H
  have base_h := h
  obtain ⟨fsh, c5, c6, i1, i2⟩ := h.get
  have hm : MemN _ _ _ _ _ := ⟨rfl, h.1⟩
  have hi := h.2
  have hmsh : MemN _ _ _ _ _ := ⟨rfl, fsh.1⟩
  have hish := fsh.2
  refine .seq (fun K1 hK1 => .region (.mv rfl (.nil (hK1 _ _ (.seq (fun K2 hK2 => .region (.mv rfl (.nil (hK2 _ _ (.seq (fun K3 hK3 => .seq (fun K4 hK4 => .region (.mv rfl (.m rfl rfl rfl (.nilCheck rfl) (.m rfl rfl rfl (.fieldAddr fo_46_1_P rfl) ?_)))))))))))))))
  refine .m rfl rfl rfl (.load on_22_B rfl (by assumption)) ?_
  refine .m rfl rfl rfl (.len sl_22_A rfl) (.mv rfl (.nil (hK4 _ _ ?_)))
  refine .block ?_
  refine .loopR (σ := Nat × Int) [(9, some _), (10, some _)] (fun (k, v) => [(11, some (.int .i64 (k : Int))), (3, some (.int .i64 v))]) (fun (k, v) H' => H = H' ∧ k ≤ f.sz.length ∧ v = sumN f.szF k) (fun (k, v) => f.sz.length - k) ((0, 0)) ⟨rfl, rfl, trivial⟩ ⟨rfl, rfl, trivial⟩ ?_ ?_
  ·
   refine ⟨rfl, ?_⟩
   exact ⟨by omega, rfl⟩
  rintro ⟨k, v⟩ _ ⟨rfl, hI⟩ KL1 hKL1
  refine .forget (fr' := [(11, some (.int .i64 (k : Int))), (3, some (.int .i64 v)), (9, some _), (10, some _)]) ⟨rfl, rfl, rfl, rfl, trivial⟩ ?_
  obtain ⟨hk, hv⟩ := hI
  have sb := hS.sum (n := k) (by omega)
  refine .seq (fun K5 hK5 => .region (.m rfl rfl rfl (.cmp rfl rfl rfl) (.nil (hK5 _ _ (.seq (fun K6 hK6 => ?_))))))
  refine .cond rfl (fun h12 => ?_) (fun h12 => ?_)
  ·
   simp only [sps] at h12
   have r2 := hS.sz k (by omega)
   refine .skip ?_
   refine hK6 _ _ (.seq (fun K7 hK7 => ?_))
   refine .block ?_
   refine .seq (fun K8 hK8 => .region ?_)
   refine .m rfl rfl rfl (.idxN sl_22_A (by assumption) rfl rfl (by omega)) ?_
   refine .m rfl rfl rfl (.loadI on_2_A (by assumption) rfl (by omega)) ?_
   refine .mv rfl (.nil (hK8 _ _ (.region (.mv rfl (.mv rfl ?_)))))
   refine .m rfl rfl rfl (.add rfl rfl rfl (by omega) (by omega)) ?_
   refine .mv rfl (.nil (hK7 _ _ (.region ?_)))
   refine .m rfl rfl rfl (.add rfl rfl rfl (by omega) (by omega)) ?_
   refine .mv rfl (.nil ?_)
   refine hKL1 ((k + 1, v + f.sz.getD k 0)) _ _ ?_ ?_ ⟨rfl, rfl, rfl, rfl, trivial⟩
   ·
    refine ⟨rfl, ?_⟩
    exact ⟨by omega, by rw [hv]; rfl⟩
   (dsimp only; omega)
  try simp only [sps] at h12
  refine .exit ?_
  refine hK3 _ _ (.seq (fun K9 hK9 => .region (.mv rfl (.mv rfl (.nil (hK9 _ _ ?_))))))
  refine .ret ?_
  refine hret _ _ ?_
  refine ⟨_, rfl, ?_⟩
  obtain rfl : k = f.sz.length := by omega
  exact .of (by rw [hv])
end Go.Proofs.Ytagkeabmdodfiaa
namespace Go.Proofs.Ytagkeabmdodfiaa
open Go Go.GL Go.RowKit Go.Proofs
theorem specElementsCategory_c {f : SFun} {p : SFunP} {H : GHeap} (hin : f.In H p := by assumption) (hs : f.Small := by assumption) :
    GCalls Try.prog 20 [.agg (f.cells p).toArray] H (fun v H' => H.Le H' ∧ ∃ q a r a2 r2, v = .tuple #[.agg (f.elsR.cells q).toArray, .slice a f.elsO.length f.elsO.length, .slice a2 f.elsA.length f.elsA.length, .int .i64 f.elsN] ∧ CatR H.next H' f.elsR q ∧ IntssR H.next H' a f.elsO r ∧ IntssR H.next H' a2 f.elsA r2) := by
  refine GCalls.body (N := 26) (rs := [.cell 2 31, .tmp 3, .tmp 4, .tmp 5]) Try.func20 rfl rfl rfl rfl (fun Qx hret hend => ?_)
  refine .forget (fr' := [(0, some _)]) ⟨rfl, trivial⟩ ?_
  have hle := GHeap.Le.refl H
  have base_hin := hin
  refine .seq (fun K1 hK1 => .region ?_)
  refine .r rfl rfl rfl (.boxR rfl sz_46_VSFun rfl) ?_
  rintro _ H1 ⟨g1, rfl, le1, ge1, at1⟩
  have nx_H1 := le1.1
  replace hle := hle.trans le1
  have lt_at1 := GHeap.ltg at1
  replace hin := base_hin.mono hle
  have hb1 : SFun.At _ g1 0 f p := ⟨Mem.of_get at1, hin⟩
  obtain ⟨fsh1, c51, c61, i11, i21⟩ := hb1.get
  have hm1 : MemN _ _ _ _ _ := ⟨rfl, hb1.1⟩
  have hi1 := hb1.2
  have hmsh1 : MemN _ _ _ _ _ := ⟨rfl, fsh1.1⟩
  have hish1 := fsh1.2
  refine .r rfl rfl rfl (.allocR rfl ze_31_E rfl) ?_
  rintro _ H2 ⟨g2, rfl, le2, ge2, at2⟩
  have nx_H2 := le2.1
  replace hle := hle.trans le2
  replace at1 := le2.2 _ _ at1
  have lt_at2 := GHeap.ltg at2
  replace hin := base_hin.mono hle
  clear hb1 fsh1 c51 c61 i11 i21 hm1 hi1 hmsh1 hish1
  have hb1 : SFun.At _ g1 0 f p := ⟨Mem.of_get at1, hin⟩
  obtain ⟨fsh1, c51, c61, i11, i21⟩ := hb1.get
  have hm1 : MemN _ _ _ _ _ := ⟨rfl, hb1.1⟩
  have hi1 := hb1.2
  have hmsh1 : MemN _ _ _ _ _ := ⟨rfl, fsh1.1⟩
  have hish1 := fsh1.2
  refine .mv rfl (.mv rfl (.mv rfl (.nil (hK1 _ _ (.seq (fun K2 hK2 => .seq (fun K3 hK3 => .region ?_)))))))
  refine .m rfl rfl rfl (.loadM ag_46_VSFun rfl ⟨rfl, Mem.of_get at1⟩) ?_
  refine .callQ rfl rfl rfl rfl @Try.call46 rfl (l19Is_c) ?_
  refine .m rfl rfl rfl (.not rfl) (.nil (hK3 _ _ ?_))
  refine .cond rfl (fun h10 => ?_) (fun h10 => ?_)
  ·
   simp only [sps] at h10
   refine .seq (fun K4 hK4 => .region (.m rfl rfl rfl (.build bt_31_Ec rfl rfl rfl) ?_))
   refine .r0 rfl rfl (.fillR rfl sz_31_D rfl rfl rfl rfl (by assumption) (by first | rfl | exact Nat.le_of_ble_eq_true rfl | simp)) ?_
   rintro _ H2001 ⟨rfl, st2001, at2001⟩
   have nx_H2001 := st2001.nx
   replace hle := hle.st st2001 (fun k hk => ⟨by omega, trivial⟩)
   have ne_g1_g2 : g1 ≠ g2 := by first | assumption | omega
   replace at1 := st2001.same _ _ ⟨ne_g1_g2, trivial⟩ at1
   have lt_at2001 := GHeap.ltg at2001
   replace hin := base_hin.mono hle
   clear hb1 fsh1 c51 c61 i11 i21 hm1 hi1 hmsh1 hish1
   have hb1 : SFun.At _ g1 0 f p := ⟨Mem.of_get at1, hin⟩
   obtain ⟨fsh1, c51, c61, i11, i21⟩ := hb1.get
   have hm1 : MemN _ _ _ _ _ := ⟨rfl, hb1.1⟩
   have hi1 := hb1.2
   have hmsh1 : MemN _ _ _ _ _ := ⟨rfl, fsh1.1⟩
   have hish1 := fsh1.2
   have mm2001 : MemN _ _ _ _ _ := ⟨rfl, Mem.of_get at2001⟩
   refine .mv rfl (.mv rfl (.mv rfl (.nil (hK4 _ _ ?_))))
   refine .ret ?_
   refine hret _ _ ?_
   refine ⟨_, _, _, _, _, _, _, rfl, ag_31_D, (by rfl), (Mem.of_get at2001), rfl, rfl, rfl, ?_⟩
   obtain ⟨e1, e2, e3, e4⟩ := els_1 h10
   rw [e1, e2, e3, e4]
   exact ⟨hle, .zero, none, fun _ => none, none, fun _ => none, rfl, .zero _ _, .nil _ _ _, .nil _ _ _⟩
  simp only [sps] at h10
  refine .skip ?_
  refine hK2 _ _ (.seq (fun K5 hK5 => .region ?_))
  refine .m rfl rfl rfl (.loadM ag_46_VSFun rfl ⟨rfl, Mem.of_get at1⟩) ?_
  refine .call rfl rfl rfl rfl @Try.call47 rfl ((l20Elements_c (hf := h10))) ?_
  rintro _ H14 ⟨le14, p14, a14, r14, a214, r214, rfl, v14, w14, u14⟩
  have nx_H14 := le14.1
  replace hle := hle.trans le14
  replace at1 := le14.2 _ _ at1
  replace at2 := le14.2 _ _ at2
  have bs_v14 := v14
  have lv_v14 : Keep H2.next H14 H14 := fun _ _ _ h => h
  have bs_w14 := w14
  have lv_w14 : Keep H2.next H14 H14 := fun _ _ _ h => h
  have bs_u14 := u14
  have lv_u14 : Keep H2.next H14 H14 := fun _ _ _ h => h
  replace hin := base_hin.mono hle
  clear hb1 fsh1 c51 c61 i11 i21 hm1 hi1 hmsh1 hish1
  have hb1 : SFun.At _ g1 0 f p := ⟨Mem.of_get at1, hin⟩
  obtain ⟨fsh1, c51, c61, i11, i21⟩ := hb1.get
  have hm1 : MemN _ _ _ _ _ := ⟨rfl, hb1.1⟩
  have hi1 := hb1.2
  have hmsh1 : MemN _ _ _ _ _ := ⟨rfl, fsh1.1⟩
  have hish1 := fsh1.2
  refine .mv rfl (.m rfl rfl rfl (.extract rfl rfl) (.m rfl rfl rfl (.extract rfl rfl) ?_))
  refine .r rfl rfl rfl (.allocR rfl ze_81_Ec rfl) ?_
  rintro _ H6 ⟨g6, rfl, le6, ge6, at6⟩
  have nx_H6 := le6.1
  replace hle := hle.trans le6
  replace at1 := le6.2 _ _ at1
  replace at2 := le6.2 _ _ at2
  replace lv_v14 := Keep.le lv_v14 le6
  replace v14 := bs_v14.keep lv_v14 (Nat.le_refl _)
  replace lv_w14 := Keep.le lv_w14 le6
  replace w14 := bs_w14.keep lv_w14 (Nat.le_refl _)
  replace lv_u14 := Keep.le lv_u14 le6
  replace u14 := bs_u14.keep lv_u14 (Nat.le_refl _)
  have lt_at6 := GHeap.ltg at6
  replace hin := base_hin.mono hle
  clear hb1 fsh1 c51 c61 i11 i21 hm1 hi1 hmsh1 hish1
  have hb1 : SFun.At _ g1 0 f p := ⟨Mem.of_get at1, hin⟩
  obtain ⟨fsh1, c51, c61, i11, i21⟩ := hb1.get
  have hm1 : MemN _ _ _ _ _ := ⟨rfl, hb1.1⟩
  have hi1 := hb1.2
  have hmsh1 : MemN _ _ _ _ _ := ⟨rfl, fsh1.1⟩
  have hish1 := fsh1.2
  refine .r0 rfl rfl (.fillR rfl sz_81_Ec rfl rfl rfl rfl (by assumption) (by first | rfl | exact Nat.le_of_ble_eq_true rfl | simp)) ?_
  rintro _ H3006 ⟨rfl, st3006, at3006⟩
  have nx_H3006 := st3006.nx
  replace hle := hle.st st3006 (fun k hk => ⟨by omega, trivial⟩)
  replace at1 := st3006.same _ _ ⟨(by first | assumption | omega), trivial⟩ at1
  have ne_g2_g6 : g2 ≠ g6 := by first | assumption | omega
  replace at2 := st3006.same _ _ ⟨ne_g2_g6, trivial⟩ at2
  replace lv_v14 := Keep.st lv_v14 st3006 (fun k hb hk => ⟨by omega, trivial⟩)
  replace v14 := bs_v14.keep lv_v14 (Nat.le_refl _)
  replace lv_w14 := Keep.st lv_w14 st3006 (fun k hb hk => ⟨by omega, trivial⟩)
  replace w14 := bs_w14.keep lv_w14 (Nat.le_refl _)
  replace lv_u14 := Keep.st lv_u14 st3006 (fun k hb hk => ⟨by omega, trivial⟩)
  replace u14 := bs_u14.keep lv_u14 (Nat.le_refl _)
  have lt_at3006 := GHeap.ltg at3006
  replace hin := base_hin.mono hle
  clear hb1 fsh1 c51 c61 i11 i21 hm1 hi1 hmsh1 hish1
  have hb1 : SFun.At _ g1 0 f p := ⟨Mem.of_get at1, hin⟩
  obtain ⟨fsh1, c51, c61, i11, i21⟩ := hb1.get
  have hm1 : MemN _ _ _ _ _ := ⟨rfl, hb1.1⟩
  have hi1 := hb1.2
  have hmsh1 : MemN _ _ _ _ _ := ⟨rfl, fsh1.1⟩
  have hish1 := fsh1.2
  have mm3006 : MemN _ _ _ _ _ := ⟨rfl, Mem.of_get at3006⟩
  refine .mv rfl (.nil (hK5 _ _ (.seq (fun K6 hK6 => .seq (fun K7 hK7 => .region (.mv rfl (.m rfl rfl rfl (.not rfl) (.nil (hK7 _ _ ?_)))))))))
  refine .cond rfl (fun h18 => ?_) (fun h18 => ?_)
  ·
   simp only [sps] at h18
   refine .seq (fun K8 hK8 => .region (.m rfl rfl rfl (.build bt_31_Ec rfl rfl rfl) ?_))
   refine .r0 rfl rfl (.fillR rfl sz_31_D rfl rfl rfl rfl (by assumption) (by first | rfl | exact Nat.le_of_ble_eq_true rfl | simp)) ?_
   rintro _ H5001 ⟨rfl, st5001, at5001⟩
   have nx_H5001 := st5001.nx
   replace hle := hle.st st5001 (fun k hk => ⟨by omega, trivial⟩)
   have ne_g1_g2 : g1 ≠ g2 := by first | assumption | omega
   replace at1 := st5001.same _ _ ⟨ne_g1_g2, trivial⟩ at1
   replace at3006 := st5001.same _ _ ⟨(Ne.symm ne_g2_g6), trivial⟩ at3006
   replace lv_v14 := Keep.st lv_v14 st5001 (fun k hb hk => ⟨by omega, trivial⟩)
   replace v14 := bs_v14.keep lv_v14 (Nat.le_refl _)
   replace lv_w14 := Keep.st lv_w14 st5001 (fun k hb hk => ⟨by omega, trivial⟩)
   replace w14 := bs_w14.keep lv_w14 (Nat.le_refl _)
   replace lv_u14 := Keep.st lv_u14 st5001 (fun k hb hk => ⟨by omega, trivial⟩)
   replace u14 := bs_u14.keep lv_u14 (Nat.le_refl _)
   have lt_at5001 := GHeap.ltg at5001
   replace hin := base_hin.mono hle
   clear hb1 fsh1 c51 c61 i11 i21 hm1 hi1 hmsh1 hish1
   have hb1 : SFun.At _ g1 0 f p := ⟨Mem.of_get at1, hin⟩
   obtain ⟨fsh1, c51, c61, i11, i21⟩ := hb1.get
   have hm1 : MemN _ _ _ _ _ := ⟨rfl, hb1.1⟩
   have hi1 := hb1.2
   have hmsh1 : MemN _ _ _ _ _ := ⟨rfl, fsh1.1⟩
   have hish1 := fsh1.2
   clear mm3006
   have mm3006 : MemN _ _ _ _ _ := ⟨rfl, Mem.of_get at3006⟩
   have mm5001 : MemN _ _ _ _ _ := ⟨rfl, Mem.of_get at5001⟩
   refine .mv rfl (.mv rfl (.mv rfl (.nil (hK8 _ _ ?_))))
   refine .ret ?_
   refine hret _ _ ?_
   refine ⟨_, _, _, _, _, _, _, rfl, ag_31_D, (by rfl), (Mem.of_get at5001), rfl, rfl, rfl, ?_⟩
   obtain ⟨e1, e2, e3, e4⟩ := els_3 h10 (fun h => h18 ⟨h10, h⟩)
   rw [e1, e2, e3, e4]
   exact ⟨hle, .zero, none, fun _ => none, none, fun _ => none, rfl, .zero _ _, .nil _ _ _, .nil _ _ _⟩
  simp only [sps] at h18
  refine .skip ?_
  refine hK6 _ _ (.seq (fun K9 hK9 => ?_))
  refine .regionDB mo_B (.q 0 (.q 1 (.q 2 (.q 3 (.q 4 (.q 5 (.c 6 1 (.q 7 (.q 8 (.q 9 (.done))))))))))) (by kernel_rfl) (GHeap.le_erase H3006 g2) ?_
  have hbl := GHeap.le_erase H3006 g2
  have at6B := GHeap.get_erase_of (g := g2) at3006 (by omega)
  refine .mB rfl rfl rfl rfl hbl (.fieldAddr fo_81_0_Ec rfl) ?_
  refine .mB rfl rfl rfl rfl hbl (.loadM ag_31_D rfl ⟨rfl, (show Mem _ g6 0 (f.elsR.cells p14 ++ [_, _]) from Mem.of_get at6B).left⟩) ?_
  refine .mB rfl rfl rfl rfl hbl (.fieldAddr fo_81_1_Ec rfl) ?_
  refine .mB rfl rfl rfl rfl hbl (.load on_23_B rfl (Mem.of_get at6B 5 _ rfl)) ?_
  refine .mB rfl rfl rfl rfl hbl (.fieldAddr fo_81_2_Ec rfl) ?_
  refine .mB rfl rfl rfl rfl hbl (.load on_23_B rfl (Mem.of_get at6B 6 _ rfl)) ?_
  refine .r1 rfl rfl rfl (.fillR rfl sz_31_D rfl rfl rfl rfl (by assumption) (by first | rfl | exact Nat.le_of_ble_eq_true rfl | simp)) ?_
  rintro _ H6006 ⟨rfl, st6006, at6006⟩
  refine ⟨(hbl.erase_st st6006), ?_⟩
  have nx_H6006 := st6006.nx
  replace hle := hle.st st6006 (fun k hk => ⟨by omega, trivial⟩)
  have ne_g1_g2 : g1 ≠ g2 := by first | assumption | omega
  replace at1 := st6006.same _ _ ⟨ne_g1_g2, trivial⟩ at1
  replace at3006 := st6006.same _ _ ⟨(Ne.symm ne_g2_g6), trivial⟩ at3006
  replace lv_v14 := Keep.st lv_v14 st6006 (fun k hb hk => ⟨by omega, trivial⟩)
  replace v14 := bs_v14.keep lv_v14 (Nat.le_refl _)
  replace lv_w14 := Keep.st lv_w14 st6006 (fun k hb hk => ⟨by omega, trivial⟩)
  replace w14 := bs_w14.keep lv_w14 (Nat.le_refl _)
  replace lv_u14 := Keep.st lv_u14 st6006 (fun k hb hk => ⟨by omega, trivial⟩)
  replace u14 := bs_u14.keep lv_u14 (Nat.le_refl _)
  have lt_at6006 := GHeap.ltg at6006
  replace hin := base_hin.mono hle
  clear hb1 fsh1 c51 c61 i11 i21 hm1 hi1 hmsh1 hish1
  have hb1 : SFun.At _ g1 0 f p := ⟨Mem.of_get at1, hin⟩
  obtain ⟨fsh1, c51, c61, i11, i21⟩ := hb1.get
  have hm1 : MemN _ _ _ _ _ := ⟨rfl, hb1.1⟩
  have hi1 := hb1.2
  have hmsh1 : MemN _ _ _ _ _ := ⟨rfl, fsh1.1⟩
  have hish1 := fsh1.2
  clear mm3006
  have mm3006 : MemN _ _ _ _ _ := ⟨rfl, Mem.of_get at3006⟩
  have mm6006 : MemN _ _ _ _ _ := ⟨rfl, Mem.of_get at6006⟩
  replace hbl := hbl.erase_st st6006
  refine .mB rfl rfl rfl rfl hbl (.assign rfl) ?_
  refine .mB rfl rfl rfl rfl hbl (.assign rfl) ?_
  refine .mB rfl rfl rfl rfl hbl (.assign rfl) ?_
  refine .done ?_
  refine hK9 _ _ ?_
  refine .ret ?_
  refine hret _ _ ?_
  refine ⟨_, _, _, _, _, _, _, rfl, ag_31_D, (by rfl), (Mem.of_get at6006), rfl, rfl, rfl, ?_⟩
  have e4 : f.elsN = 0 := (els_0 h18.1 h18.2.1 h18.2.2).2.2.2
  rw [e4]
  exact ⟨hle, _, _, _, _, _, rfl, v14.keep (.of_le (.refl _)) (by omega), w14.keep (.of_le (.refl _)) (by omega), u14.keep (.of_le (.refl _)) (by omega)⟩
end Go.Proofs.Ytagkeabmdodfiaa
