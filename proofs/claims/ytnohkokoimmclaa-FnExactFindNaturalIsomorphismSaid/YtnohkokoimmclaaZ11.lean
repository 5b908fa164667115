/- The search for transformations, whole. No condition but those of each statement. -/
import Derived.Test.YtnohkokoimmclaaZ10
namespace Go.Proofs.Ytnohkokoimmclaa
open Go Go.GL Go.RowKit Go.Proofs
theorem bt_89_Hc : buildT Try.prog 89 = some ([.int .i64 0, .slice none 0 0, .slice none 0 0, .slice none 0 0, .slice none 0 0, .int .i64 0, .slice none 0 0, .slice none 0 0, .slice none 0 0, .slice none 0 0, .slice none 0 0, .slice none 0 0, .int .i64 0, .slice none 0 0, .slice none 0 0, .slice none 0 0, .slice none 0 0, .int .i64 0, .slice none 0 0, .slice none 0 0, .slice none 0 0, .slice none 0 0, .slice none 0 0, .slice none 0 0, .bool false, .int .i64 0, .slice none 0 0], [(0, 12), (12, 12), (24, 1), (25, 1), (26, 1)]) := by kernel_rfl
theorem sz_89_Hc : (Try.prog.info? 89).map (·.size) = some 27 := by kernel_rfl
theorem st_build1 {f k : Fun} {p q : FunP} {iso : Bool} {most : Int} : fillL ([(0, 12), (12, 12), (24, 1), (25, 1), (26, 1)][·]?) [.int .i64 0, .slice none 0 0, .slice none 0 0, .slice none 0 0, .slice none 0 0, .int .i64 0, .slice none 0 0, .slice none 0 0, .slice none 0 0, .slice none 0 0, .slice none 0 0, .slice none 0 0, .int .i64 0, .slice none 0 0, .slice none 0 0, .slice none 0 0, .slice none 0 0, .int .i64 0, .slice none 0 0, .slice none 0 0, .slice none 0 0, .slice none 0 0, .slice none 0 0, .slice none 0 0, .bool false, .int .i64 0, .slice none 0 0] [(0, .agg (f.cells p).toArray), (1, .agg (k.cells q).toArray), (2, .bool iso), (3, .int .i64 most)] = some (stCells f p k q iso most none 0) := by kernel_rfl
theorem st_build2 {f k : Fun} {p q : FunP} {iso : Bool} {most : Int} {a : Option Addr} : fillL ([(0, 12), (12, 12), (24, 1), (25, 1), (26, 1)][·]?) [.int .i64 0, .slice none 0 0, .slice none 0 0, .slice none 0 0, .slice none 0 0, .int .i64 0, .slice none 0 0, .slice none 0 0, .slice none 0 0, .slice none 0 0, .slice none 0 0, .slice none 0 0, .int .i64 0, .slice none 0 0, .slice none 0 0, .slice none 0 0, .slice none 0 0, .int .i64 0, .slice none 0 0, .slice none 0 0, .slice none 0 0, .slice none 0 0, .slice none 0 0, .slice none 0 0, .bool false, .int .i64 0, .slice none 0 0] [(0, .agg (f.cells p).toArray), (1, .agg (k.cells q).toArray), (2, .bool iso), (3, .int .i64 most), (4, .slice a 0 0)] = some (stCells f p k q iso most a 0) := by kernel_rfl
set_option maxHeartbeats 4000000 in
theorem l07Find_c {f k : Fun} {p q : FunP} {iso : Bool} {M : Nat} {H : GHeap} (hin : f.In H p := by assumption) (hin1 : k.In H q := by assumption) (hP : f.Par k) (h1 : 1 ≤ M) (hM : M ≤ 1048576) :
    GCalls Try.prog 41 [.agg (f.cells p).toArray, .agg (k.cells q).toArray, .bool iso, .int .i64 (M : Int)] H (NewIntssR H (((f.net k iso).sols f.ob.length).take M)) := by
  have hs := hP.fi.1.1
  have b1 := hs.n40
  have b2 := hs.tl
  have b3 := hs.obj
  have b4 := hP.fi.2.2.ol
  have hgood := hP.fi.good k iso
  have hjl : (joinL f.ob.length ((f.s.endL f.s.src.length).map fun p => (pA p, pB p))).length = f.ob.length := length_joinL _ _
  refine GCalls.body (N := 105) (rs := [.tmp 8]) Try.func41 rfl rfl rfl rfl (fun Qx hret hend => ?_)
  refine .forget (fr' := [(0, some _), (1, some _), (2, some _), (3, some _)]) ⟨rfl, rfl, rfl, rfl, trivial⟩ ?_
  have hle := GHeap.Le.refl H
  have base_hin := hin
  have base_hin1 := hin1
  refine .seq (fun K1 hK1 => ?_)
  refine .region ?_
  refine .r rfl rfl rfl (.boxR rfl sz_33_E rfl) ?_
  rintro _ H4 ⟨g4, rfl, le4, ge4, at4⟩
  have nx_H4 := le4.1
  replace hle := hle.trans le4
  have lt_at4 := GHeap.lt_of_get at4
  replace hin := base_hin.mono hle
  replace hin1 := base_hin1.mono hle
  have hb4 : Fun.At _ g4 0 f p := ⟨Mem.of_get at4, hin⟩
  obtain ⟨fs4, ft4, c104, c114, j14, j24⟩ := hb4.get
  have hm4 : MemN _ _ _ _ _ := ⟨rfl, hb4.1⟩
  have hi4 := hb4.2
  have hms4 : MemN _ _ _ _ _ := ⟨rfl, fs4.1⟩
  have his4 := fs4.2
  have hmt4 : MemN _ _ _ _ _ := ⟨rfl, ft4.1⟩
  have hit4 := ft4.2
  refine .r rfl rfl rfl (.boxR rfl sz_33_E rfl) ?_
  rintro _ H5 ⟨g5, rfl, le5, ge5, at5⟩
  have nx_H5 := le5.1
  replace hle := hle.trans le5
  replace at4 := le5.2 _ _ at4
  have lt_at5 := GHeap.lt_of_get at5
  replace hin := base_hin.mono hle
  replace hin1 := base_hin1.mono hle
  clear hb4 fs4 ft4 c104 c114 j14 j24 hm4 hi4 hms4 his4 hmt4 hit4
  have hb4 : Fun.At _ g4 0 f p := ⟨Mem.of_get at4, hin⟩
  obtain ⟨fs4, ft4, c104, c114, j14, j24⟩ := hb4.get
  have hm4 : MemN _ _ _ _ _ := ⟨rfl, hb4.1⟩
  have hi4 := hb4.2
  have hms4 : MemN _ _ _ _ _ := ⟨rfl, fs4.1⟩
  have his4 := fs4.2
  have hmt4 : MemN _ _ _ _ _ := ⟨rfl, ft4.1⟩
  have hit4 := ft4.2
  have hb5 : Fun.At _ g5 0 k q := ⟨Mem.of_get at5, hin1⟩
  obtain ⟨fs5, ft5, c105, c115, j15, j25⟩ := hb5.get
  have hm5 : MemN _ _ _ _ _ := ⟨rfl, hb5.1⟩
  have hi5 := hb5.2
  have hms5 : MemN _ _ _ _ _ := ⟨rfl, fs5.1⟩
  have his5 := fs5.2
  have hmt5 : MemN _ _ _ _ _ := ⟨rfl, ft5.1⟩
  have hit5 := ft5.2
  refine .m rfl rfl rfl (.assign rfl) ?_
  refine .nil ?_
  refine hK1 _ _ ?_
  refine .seq (fun K2 hK2 => ?_)
  refine .region ?_
  refine .m rfl rfl rfl (.fieldAddr fo_33_0_E rfl) ?_
  refine .m rfl rfl rfl (.loadM ag_31_D rfl (by assumption)) ?_
  refine .r rfl rfl rfl (.allocR rfl ze_31_E rfl) ?_
  rintro _ H9 ⟨g9, rfl, le9, ge9, at9⟩
  have nx_H9 := le9.1
  replace hle := hle.trans le9
  replace at4 := le9.2 _ _ at4
  replace at5 := le9.2 _ _ at5
  have lt_at9 := GHeap.lt_of_get at9
  replace hin := base_hin.mono hle
  replace hin1 := base_hin1.mono hle
  clear hb4 fs4 ft4 c104 c114 j14 j24 hm4 hi4 hms4 his4 hmt4 hit4
  have hb4 : Fun.At _ g4 0 f p := ⟨Mem.of_get at4, hin⟩
  obtain ⟨fs4, ft4, c104, c114, j14, j24⟩ := hb4.get
  have hm4 : MemN _ _ _ _ _ := ⟨rfl, hb4.1⟩
  have hi4 := hb4.2
  have hms4 : MemN _ _ _ _ _ := ⟨rfl, fs4.1⟩
  have his4 := fs4.2
  have hmt4 : MemN _ _ _ _ _ := ⟨rfl, ft4.1⟩
  have hit4 := ft4.2
  clear hb5 fs5 ft5 c105 c115 j15 j25 hm5 hi5 hms5 his5 hmt5 hit5
  have hb5 : Fun.At _ g5 0 k q := ⟨Mem.of_get at5, hin1⟩
  obtain ⟨fs5, ft5, c105, c115, j15, j25⟩ := hb5.get
  have hm5 : MemN _ _ _ _ _ := ⟨rfl, hb5.1⟩
  have hi5 := hb5.2
  have hms5 : MemN _ _ _ _ _ := ⟨rfl, fs5.1⟩
  have his5 := fs5.2
  have hmt5 : MemN _ _ _ _ _ := ⟨rfl, ft5.1⟩
  have hit5 := ft5.2
  refine .r0 rfl rfl (.fillR rfl sz_31_D rfl rfl rfl rfl (by assumption) (by first | rfl | exact Nat.le_of_ble_eq_true rfl | simp)) ?_
  rintro _ H1003 ⟨rfl, st1003, at1003⟩
  have nx_H1003 := st1003.nx
  replace hle := hle.st st1003 (fun k hk => ⟨by omega, trivial⟩)
  replace at4 := st1003.same _ _ ⟨by omega, trivial⟩ at4
  replace at5 := st1003.same _ _ ⟨by omega, trivial⟩ at5
  have lt_at1003 := GHeap.lt_of_get at1003
  replace hin := base_hin.mono hle
  replace hin1 := base_hin1.mono hle
  clear hb4 fs4 ft4 c104 c114 j14 j24 hm4 hi4 hms4 his4 hmt4 hit4
  have hb4 : Fun.At _ g4 0 f p := ⟨Mem.of_get at4, hin⟩
  obtain ⟨fs4, ft4, c104, c114, j14, j24⟩ := hb4.get
  have hm4 : MemN _ _ _ _ _ := ⟨rfl, hb4.1⟩
  have hi4 := hb4.2
  have hms4 : MemN _ _ _ _ _ := ⟨rfl, fs4.1⟩
  have his4 := fs4.2
  have hmt4 : MemN _ _ _ _ _ := ⟨rfl, ft4.1⟩
  have hit4 := ft4.2
  clear hb5 fs5 ft5 c105 c115 j15 j25 hm5 hi5 hms5 his5 hmt5 hit5
  have hb5 : Fun.At _ g5 0 k q := ⟨Mem.of_get at5, hin1⟩
  obtain ⟨fs5, ft5, c105, c115, j15, j25⟩ := hb5.get
  have hm5 : MemN _ _ _ _ _ := ⟨rfl, hb5.1⟩
  have hi5 := hb5.2
  have hms5 : MemN _ _ _ _ _ := ⟨rfl, fs5.1⟩
  have his5 := fs5.2
  have hmt5 : MemN _ _ _ _ _ := ⟨rfl, ft5.1⟩
  have hit5 := ft5.2
  have mm1003 : MemN _ _ _ _ _ := ⟨rfl, Mem.of_get at1003⟩
  have hb9 : Cat.At _ g9 0 f.s p.s := ⟨Mem.of_get at1003, hin.1⟩
  obtain ⟨c09, c19, c29, c39, c49, i19, i29, i39, i49⟩ := hb9.get
  have hm9 : MemN _ _ _ _ _ := ⟨rfl, hb9.1⟩
  have hi9 := hb9.2
  refine .nil ?_
  refine hK2 _ _ ?_
  refine .seq (fun K3 hK3 => ?_)
  refine .region ?_
  refine .r rfl rfl rfl (.litR rfl sl_23_B ze_22_E rfl rfl (by omega) (by omega) rfl rfl) ?_
  rintro _ H21 ⟨g21, rfl, le21, ge21, at21⟩
  have nx_H21 := le21.1
  replace hle := hle.trans le21
  replace at4 := le21.2 _ _ at4
  replace at5 := le21.2 _ _ at5
  replace at1003 := le21.2 _ _ at1003
  have lt_at21 := GHeap.lt_of_get at21
  replace hin := base_hin.mono hle
  replace hin1 := base_hin1.mono hle
  clear hb4 fs4 ft4 c104 c114 j14 j24 hm4 hi4 hms4 his4 hmt4 hit4
  have hb4 : Fun.At _ g4 0 f p := ⟨Mem.of_get at4, hin⟩
  obtain ⟨fs4, ft4, c104, c114, j14, j24⟩ := hb4.get
  have hm4 : MemN _ _ _ _ _ := ⟨rfl, hb4.1⟩
  have hi4 := hb4.2
  have hms4 : MemN _ _ _ _ _ := ⟨rfl, fs4.1⟩
  have his4 := fs4.2
  have hmt4 : MemN _ _ _ _ _ := ⟨rfl, ft4.1⟩
  have hit4 := ft4.2
  clear hb5 fs5 ft5 c105 c115 j15 j25 hm5 hi5 hms5 his5 hmt5 hit5
  have hb5 : Fun.At _ g5 0 k q := ⟨Mem.of_get at5, hin1⟩
  obtain ⟨fs5, ft5, c105, c115, j15, j25⟩ := hb5.get
  have hm5 : MemN _ _ _ _ _ := ⟨rfl, hb5.1⟩
  have hi5 := hb5.2
  have hms5 : MemN _ _ _ _ _ := ⟨rfl, fs5.1⟩
  have his5 := fs5.2
  have hmt5 : MemN _ _ _ _ _ := ⟨rfl, ft5.1⟩
  have hit5 := ft5.2
  clear mm1003
  have mm1003 : MemN _ _ _ _ _ := ⟨rfl, Mem.of_get at1003⟩
  clear hb9 c09 c19 c29 c39 c49 i19 i29 i39 i49 hm9 hi9
  have hb9 : Cat.At _ g9 0 f.s p.s := ⟨Mem.of_get at1003, hin.1⟩
  obtain ⟨c09, c19, c29, c39, c49, i19, i29, i39, i49⟩ := hb9.get
  have hm9 : MemN _ _ _ _ _ := ⟨rfl, hb9.1⟩
  have hi9 := hb9.2
  refine .m rfl rfl rfl (.assign rfl) ?_
  refine .nil ?_
  refine hK3 _ _ ?_
  refine .seq (fun K4 hK4 => ?_)
  refine .seq (fun K5 hK5 => ?_)
  refine .region ?_
  refine .m rfl rfl rfl (.assign rfl) ?_
  refine .nil ?_
  refine hK5 _ _ ?_
  refine .block ?_
  refine .loopR (σ := Nat × (Nat → Option Addr) × Nat × Nat) [(2, some _), (3, some _), (4, some _), (5, some _), (9, some _)] (fun (a, rr, gL10, nL10) => [(11, some (.int .i64 (a : Int))), (10, some (.slice (some ⟨gL10, 0, none⟩) nL10 nL10))]) (fun (a, rr, gL10, nL10) H' => St [g21] H21 H' ∧ H'.get gL10 = some (.row ((slsL rr (f.s.endL a))) 22 true) ∧ (gL10 = g21 ∨ H21.next ≤ gL10) ∧ nL10 = (slsL rr (f.s.endL a)).length ∧ a ≤ f.s.src.length ∧ OwnL H.next H' 2 rr (f.s.endL a)) (fun (a, rr, gL10, nL10) => f.s.src.length - a) ((0, fun _ => none, _, _)) ⟨rfl, rfl, rfl, rfl, rfl, trivial⟩ ⟨rfl, rfl, trivial⟩ ?_ ?_
  ·
   refine ⟨.refl _ _, by first | assumption | exact at21 | simpa using at21, .inl rfl, by first | rfl | assumption | simp | omega, ?_⟩
   exact ⟨by omega, .nil _ _ _ _⟩
  ·
   rintro ⟨a, rr, gL10, nL10⟩ HL1 ⟨lst1, at_L10, pl_L10, ln_L10, hI⟩ KL1 hKL1
   refine .forget (fr' := [(11, some (.int .i64 (a : Int))), (10, some (.slice (some ⟨gL10, 0, none⟩) nL10 nL10)), (2, some _), (3, some _), (4, some _), (5, some _), (9, some _)]) ⟨rfl, rfl, rfl, rfl, rfl, rfl, rfl, trivial⟩ ?_
   have ge_L10 : H.next ≤ gL10 := by omega
   have nx_HL1 := lst1.nx
   replace hle := hle.st lst1 (fun k hk => ⟨by omega, trivial⟩)
   replace at4 := lst1.same _ _ ⟨by omega, trivial⟩ at4
   replace at5 := lst1.same _ _ ⟨by omega, trivial⟩ at5
   replace at1003 := lst1.same _ _ ⟨by omega, trivial⟩ at1003
   have lt_at_L10 := GHeap.lt_of_get at_L10
   replace hin := base_hin.mono hle
   replace hin1 := base_hin1.mono hle
   clear hb4 fs4 ft4 c104 c114 j14 j24 hm4 hi4 hms4 his4 hmt4 hit4
   have hb4 : Fun.At _ g4 0 f p := ⟨Mem.of_get at4, hin⟩
   obtain ⟨fs4, ft4, c104, c114, j14, j24⟩ := hb4.get
   have hm4 : MemN _ _ _ _ _ := ⟨rfl, hb4.1⟩
   have hi4 := hb4.2
   have hms4 : MemN _ _ _ _ _ := ⟨rfl, fs4.1⟩
   have his4 := fs4.2
   have hmt4 : MemN _ _ _ _ _ := ⟨rfl, ft4.1⟩
   have hit4 := ft4.2
   clear hb5 fs5 ft5 c105 c115 j15 j25 hm5 hi5 hms5 his5 hmt5 hit5
   have hb5 : Fun.At _ g5 0 k q := ⟨Mem.of_get at5, hin1⟩
   obtain ⟨fs5, ft5, c105, c115, j15, j25⟩ := hb5.get
   have hm5 : MemN _ _ _ _ _ := ⟨rfl, hb5.1⟩
   have hi5 := hb5.2
   have hms5 : MemN _ _ _ _ _ := ⟨rfl, fs5.1⟩
   have his5 := fs5.2
   have hmt5 : MemN _ _ _ _ _ := ⟨rfl, ft5.1⟩
   have hit5 := ft5.2
   clear mm1003
   have mm1003 : MemN _ _ _ _ _ := ⟨rfl, Mem.of_get at1003⟩
   clear hb9 c09 c19 c29 c39 c49 i19 i29 i39 i49 hm9 hi9
   have hb9 : Cat.At _ g9 0 f.s p.s := ⟨Mem.of_get at1003, hin.1⟩
   obtain ⟨c09, c19, c29, c39, c49, i19, i29, i39, i49⟩ := hb9.get
   have hm9 : MemN _ _ _ _ _ := ⟨rfl, hb9.1⟩
   have hi9 := hb9.2
   have rk := St.refl [gL10] HL1
   obtain ⟨ha, hR⟩ := hI
   have hat10 := at_L10
   have hfl : (slsL rr (f.s.endL a)).length = (f.s.endL a).length := length_slsL _ _
   have hpl := Cat.length_endL f.s a
   refine .seq (fun K6 hK6 => ?_)
   refine .seq (fun K7 hK7 => ?_)
   refine .region ?_
   refine .m rfl rfl rfl (.move rfl) ?_
   refine .m rfl rfl rfl (.fieldAddr fo_31_1_B rfl) ?_
   refine .m rfl rfl rfl (.load on_22_B rfl (by first | assumption | exact Mem.of_get at1003 1 _ rfl)) ?_
   refine .m rfl rfl rfl (.len sl_22_A rfl) ?_
   refine .m rfl rfl rfl (.cmp rfl rfl rfl) ?_
   refine .nil ?_
   refine hK7 _ _ ?_
   refine .cond rfl (fun h26 => ?_) (fun h26 => ?_)
   ·
    simp only [sps] at h26
    refine .skip ?_
    refine hK6 _ _ ?_
    refine .seq (fun K8 hK8 => ?_)
    refine .block ?_
    refine .regionD mixed_orders_B (.q 0 (.q 1 (.q 2 (.q 3 (.q 4 (.q 5 (.q 6 (.q 7 (.q 8 (.q 9 (.q 10 (.c 11 1 (.c 12 1 (.c 13 0 (.c 14 0 (.done)))))))))))))))) (by kernel_rfl) ?_
    refine .m rfl rfl rfl rfl (.refl _) (.move rfl) ?_
    refine .m rfl rfl rfl rfl (.refl _) (.fieldAddr fo_31_1_B rfl) ?_
    refine .m rfl rfl rfl rfl (.refl _) (.load on_22_B rfl (by first | assumption | exact Mem.of_get at1003 1 _ rfl)) ?_
    refine .m rfl rfl rfl rfl (.refl _) (.move rfl) ?_
    refine .m rfl rfl rfl rfl (.refl _) (.idxN sl_22_A (by assumption) rfl rfl (by omega)) ?_
    refine .m rfl rfl rfl rfl (.refl _) (.loadI on_2_A (by assumption) rfl (by omega)) ?_
    refine .m rfl rfl rfl rfl (.refl _) (.fieldAddr fo_31_2_B rfl) ?_
    refine .m rfl rfl rfl rfl (.refl _) (.load on_22_B rfl (by first | assumption | exact Mem.of_get at1003 2 _ rfl)) ?_
    refine .m rfl rfl rfl rfl (.refl _) (.move rfl) ?_
    refine .m rfl rfl rfl rfl (.refl _) (.idxN sl_22_A (by assumption) rfl rfl (by omega)) ?_
    refine .m rfl rfl rfl rfl (.refl _) (.loadI on_2_A (by assumption) rfl (by omega)) ?_
    refine .c1 rfl rfl rfl rfl (.litR rfl sl_22_A ze_2_E rfl rfl (by omega) (by omega) rfl rfl) ?_
    rintro _ H40 ⟨g40, rfl, le40, ge40, at40⟩
    have hbl := le40
    refine ⟨hbl, ?_⟩
    have nx_H40 := le40.1
    replace hle := hle.trans le40
    replace lst1 := lst1.le le40
    replace rk := rk.le le40
    replace at4 := le40.2 _ _ at4
    replace at5 := le40.2 _ _ at5
    replace at1003 := le40.2 _ _ at1003
    replace at_L10 := le40.2 _ _ at_L10
    have lt_at40 := GHeap.lt_of_get at40
    replace hin := base_hin.mono hle
    replace hin1 := base_hin1.mono hle
    clear hb4 fs4 ft4 c104 c114 j14 j24 hm4 hi4 hms4 his4 hmt4 hit4
    have hb4 : Fun.At _ g4 0 f p := ⟨Mem.of_get at4, hin⟩
    obtain ⟨fs4, ft4, c104, c114, j14, j24⟩ := hb4.get
    have hm4 : MemN _ _ _ _ _ := ⟨rfl, hb4.1⟩
    have hi4 := hb4.2
    have hms4 : MemN _ _ _ _ _ := ⟨rfl, fs4.1⟩
    have his4 := fs4.2
    have hmt4 : MemN _ _ _ _ _ := ⟨rfl, ft4.1⟩
    have hit4 := ft4.2
    clear hb5 fs5 ft5 c105 c115 j15 j25 hm5 hi5 hms5 his5 hmt5 hit5
    have hb5 : Fun.At _ g5 0 k q := ⟨Mem.of_get at5, hin1⟩
    obtain ⟨fs5, ft5, c105, c115, j15, j25⟩ := hb5.get
    have hm5 : MemN _ _ _ _ _ := ⟨rfl, hb5.1⟩
    have hi5 := hb5.2
    have hms5 : MemN _ _ _ _ _ := ⟨rfl, fs5.1⟩
    have his5 := fs5.2
    have hmt5 : MemN _ _ _ _ _ := ⟨rfl, ft5.1⟩
    have hit5 := ft5.2
    clear mm1003
    have mm1003 : MemN _ _ _ _ _ := ⟨rfl, Mem.of_get at1003⟩
    clear hb9 c09 c19 c29 c39 c49 i19 i29 i39 i49 hm9 hi9
    have hb9 : Cat.At _ g9 0 f.s p.s := ⟨Mem.of_get at1003, hin.1⟩
    obtain ⟨c09, c19, c29, c39, c49, i19, i29, i39, i49⟩ := hb9.get
    have hm9 : MemN _ _ _ _ _ := ⟨rfl, hb9.1⟩
    have hi9 := hb9.2
    refine .c1 rfl rfl rfl rfl (.litR rfl sl_23_B ze_22_E rfl rfl (by omega) (by omega) rfl rfl) ?_
    rintro _ H41 ⟨g41, rfl, le41, ge41, at41⟩
    replace hbl := hbl.trans le41
    refine ⟨hbl, ?_⟩
    have nx_H41 := le41.1
    replace hle := hle.trans le41
    replace lst1 := lst1.le le41
    replace rk := rk.le le41
    replace at4 := le41.2 _ _ at4
    replace at5 := le41.2 _ _ at5
    replace at1003 := le41.2 _ _ at1003
    replace at_L10 := le41.2 _ _ at_L10
    replace at40 := le41.2 _ _ at40
    have lt_at41 := GHeap.lt_of_get at41
    replace hin := base_hin.mono hle
    replace hin1 := base_hin1.mono hle
    clear hb4 fs4 ft4 c104 c114 j14 j24 hm4 hi4 hms4 his4 hmt4 hit4
    have hb4 : Fun.At _ g4 0 f p := ⟨Mem.of_get at4, hin⟩
    obtain ⟨fs4, ft4, c104, c114, j14, j24⟩ := hb4.get
    have hm4 : MemN _ _ _ _ _ := ⟨rfl, hb4.1⟩
    have hi4 := hb4.2
    have hms4 : MemN _ _ _ _ _ := ⟨rfl, fs4.1⟩
    have his4 := fs4.2
    have hmt4 : MemN _ _ _ _ _ := ⟨rfl, ft4.1⟩
    have hit4 := ft4.2
    clear hb5 fs5 ft5 c105 c115 j15 j25 hm5 hi5 hms5 his5 hmt5 hit5
    have hb5 : Fun.At _ g5 0 k q := ⟨Mem.of_get at5, hin1⟩
    obtain ⟨fs5, ft5, c105, c115, j15, j25⟩ := hb5.get
    have hm5 : MemN _ _ _ _ _ := ⟨rfl, hb5.1⟩
    have hi5 := hb5.2
    have hms5 : MemN _ _ _ _ _ := ⟨rfl, fs5.1⟩
    have his5 := fs5.2
    have hmt5 : MemN _ _ _ _ _ := ⟨rfl, ft5.1⟩
    have hit5 := ft5.2
    clear mm1003
    have mm1003 : MemN _ _ _ _ _ := ⟨rfl, Mem.of_get at1003⟩
    clear hb9 c09 c19 c29 c39 c49 i19 i29 i39 i49 hm9 hi9
    have hb9 : Cat.At _ g9 0 f.s p.s := ⟨Mem.of_get at1003, hin.1⟩
    obtain ⟨c09, c19, c29, c39, c49, i19, i29, i39, i49⟩ := hb9.get
    have hm9 : MemN _ _ _ _ _ := ⟨rfl, hb9.1⟩
    have hi9 := hb9.2
    refine .c0 rfl rfl rfl rfl (.appendV rfl sl_23_B ze_22_E rfl by_22_E sl_23_B rfl rfl (by assumption) (by assumption) (by first | omega | (simp <;> omega)) rfl rfl (by omega) (by omega)) ?_
    rintro _ H42 ⟨g42, rfl, st42, ge42, at42⟩
    have nx_H42 := st42.nx
    replace hle := hle.st st42 (fun k hk => ⟨by omega, trivial⟩)
    replace lst1 := lst1.st st42 (fun k hk ho => by simp only [out, and_true] at ho ⊢ <;> omega)
    replace rk := rk.st st42 (fun k hk ho => by simp only [out, and_true] at ho ⊢ <;> omega)
    replace at4 := st42.same _ _ ⟨by omega, trivial⟩ at4
    replace at5 := st42.same _ _ ⟨by omega, trivial⟩ at5
    replace at1003 := st42.same _ _ ⟨by omega, trivial⟩ at1003
    replace at40 := st42.same _ _ ⟨by omega, trivial⟩ at40
    replace at41 := st42.same _ _ ⟨by omega, trivial⟩ at41
    have lt_at42 := GHeap.lt_of_get at42
    replace hin := base_hin.mono hle
    replace hin1 := base_hin1.mono hle
    clear hb4 fs4 ft4 c104 c114 j14 j24 hm4 hi4 hms4 his4 hmt4 hit4
    have hb4 : Fun.At _ g4 0 f p := ⟨Mem.of_get at4, hin⟩
    obtain ⟨fs4, ft4, c104, c114, j14, j24⟩ := hb4.get
    have hm4 : MemN _ _ _ _ _ := ⟨rfl, hb4.1⟩
    have hi4 := hb4.2
    have hms4 : MemN _ _ _ _ _ := ⟨rfl, fs4.1⟩
    have his4 := fs4.2
    have hmt4 : MemN _ _ _ _ _ := ⟨rfl, ft4.1⟩
    have hit4 := ft4.2
    clear hb5 fs5 ft5 c105 c115 j15 j25 hm5 hi5 hms5 his5 hmt5 hit5
    have hb5 : Fun.At _ g5 0 k q := ⟨Mem.of_get at5, hin1⟩
    obtain ⟨fs5, ft5, c105, c115, j15, j25⟩ := hb5.get
    have hm5 : MemN _ _ _ _ _ := ⟨rfl, hb5.1⟩
    have hi5 := hb5.2
    have hms5 : MemN _ _ _ _ _ := ⟨rfl, fs5.1⟩
    have his5 := fs5.2
    have hmt5 : MemN _ _ _ _ _ := ⟨rfl, ft5.1⟩
    have hit5 := ft5.2
    clear mm1003
    have mm1003 : MemN _ _ _ _ _ := ⟨rfl, Mem.of_get at1003⟩
    clear hb9 c09 c19 c29 c39 c49 i19 i29 i39 i49 hm9 hi9
    have hb9 : Cat.At _ g9 0 f.s p.s := ⟨Mem.of_get at1003, hin.1⟩
    obtain ⟨c09, c19, c29, c39, c49, i19, i29, i39, i49⟩ := hb9.get
    have hm9 : MemN _ _ _ _ _ := ⟨rfl, hb9.1⟩
    have hi9 := hb9.2
    refine .d0 rfl rfl rfl rfl (.quiet (.assign rfl) CIs.mk) ?_
    refine .done ?_
    refine hK8 _ _ ?_
    refine .region ?_
    refine .m rfl rfl rfl (.move rfl) ?_
    refine .m rfl rfl rfl (.add rfl rfl rfl (by omega) (by omega)) ?_
    refine .m rfl rfl rfl (.assign rfl) ?_
    refine .nil ?_
    refine hKL1 ((a + 1, upd rr (f.s.endL a).length (some ⟨g40, 0, none⟩), _, _)) _ _ ?_ ?_ ⟨rfl, rfl, rfl, rfl, rfl, rfl, rfl, trivial⟩
    ·
     refine ⟨lst1, by first | assumption | (rw [Cat.endL_succ, slsL_snoc]; assumption), by omega, by first | omega | (simp only [List.length_append, List.length_cons, List.length_nil] <;> omega) | (rw [Cat.endL_succ, slsL_snoc] <;> (first | omega | (simp only [List.length_append, List.length_cons, List.length_nil] <;> omega))), ?_⟩
     exact ⟨by omega, by rw [Cat.endL_succ]; exact hR.snoc (x := [f.s.src.getD a 0, f.s.tgt.getD a 0]) (rk.lasts1 hat10 rfl) (by assumption) (by omega) (by omega)⟩
    ·
     (dsimp only; omega)
   ·
    try simp only [sps] at h26
    refine .exit ?_
    refine hK4 _ _ ?_
    refine .seq (fun K9 hK9 => ?_)
    refine .region ?_
    refine .m rfl rfl rfl (.fieldAddr fo_31_0_B rfl) ?_
    refine .m rfl rfl rfl (.load on_2_A rfl (by first | assumption | exact Mem.of_get at1003 0 _ rfl)) ?_
    refine .m rfl rfl rfl (.move rfl) ?_
    obtain rfl : a = f.s.src.length := by omega
    have hiss := hR.intss at_L10 (by omega)
    have hfl : (slsL rr (f.s.endL f.s.src.length)).length = (f.s.endL f.s.src.length).length := length_slsL _ _
    have hpl := Cat.length_endL f.s f.s.src.length
    refine .call rfl rfl rfl rfl @Try.call59 rfl (l01JoinN_c (n := f.ob.length) (by omega) (by omega) hiss (by omega) (by omega) (fun i hi => by rw [Cat.endL_get (by omega)]; have w1 := hs.src i (by omega); have w2 := hs.tgt i (by omega); exact ⟨Nat.le_refl _, w1.1, by show f.s.src.getD i 0 < _; omega, w2.1, by show f.s.tgt.getD i 0 < _; omega⟩)) ?_
    rintro _ H46 ⟨le46, g46, rfl, at46, ge46⟩
    have nx_H46 := le46.1
    replace hle := hle.trans le46
    replace at4 := le46.2 _ _ at4
    replace at5 := le46.2 _ _ at5
    replace at1003 := le46.2 _ _ at1003
    replace at_L10 := le46.2 _ _ at_L10
    have lt_at46 := GHeap.lt_of_get at46
    replace hin := base_hin.mono hle
    replace hin1 := base_hin1.mono hle
    clear hb4 fs4 ft4 c104 c114 j14 j24 hm4 hi4 hms4 his4 hmt4 hit4
    have hb4 : Fun.At _ g4 0 f p := ⟨Mem.of_get at4, hin⟩
    obtain ⟨fs4, ft4, c104, c114, j14, j24⟩ := hb4.get
    have hm4 : MemN _ _ _ _ _ := ⟨rfl, hb4.1⟩
    have hi4 := hb4.2
    have hms4 : MemN _ _ _ _ _ := ⟨rfl, fs4.1⟩
    have his4 := fs4.2
    have hmt4 : MemN _ _ _ _ _ := ⟨rfl, ft4.1⟩
    have hit4 := ft4.2
    clear hb5 fs5 ft5 c105 c115 j15 j25 hm5 hi5 hms5 his5 hmt5 hit5
    have hb5 : Fun.At _ g5 0 k q := ⟨Mem.of_get at5, hin1⟩
    obtain ⟨fs5, ft5, c105, c115, j15, j25⟩ := hb5.get
    have hm5 : MemN _ _ _ _ _ := ⟨rfl, hb5.1⟩
    have hi5 := hb5.2
    have hms5 : MemN _ _ _ _ _ := ⟨rfl, fs5.1⟩
    have his5 := fs5.2
    have hmt5 : MemN _ _ _ _ _ := ⟨rfl, ft5.1⟩
    have hit5 := ft5.2
    clear mm1003
    have mm1003 : MemN _ _ _ _ _ := ⟨rfl, Mem.of_get at1003⟩
    clear hb9 c09 c19 c29 c39 c49 i19 i29 i39 i49 hm9 hi9
    have hb9 : Cat.At _ g9 0 f.s p.s := ⟨Mem.of_get at1003, hin.1⟩
    obtain ⟨c09, c19, c29, c39, c49, i19, i29, i39, i49⟩ := hb9.get
    have hm9 : MemN _ _ _ _ _ := ⟨rfl, hb9.1⟩
    have hi9 := hb9.2
    have i46 := Ints.of_get at46
    refine .m rfl rfl rfl (.assign rfl) ?_
    refine .nil ?_
    refine hK9 _ _ ?_
    refine .seq (fun K10 hK10 => ?_)
    refine .region ?_
    refine .r rfl rfl rfl (.litR rfl sl_22_A ze_2_E rfl rfl (by omega) (by omega) rfl rfl) ?_
    rintro _ H47 ⟨g47, rfl, le47, ge47, at47⟩
    have nx_H47 := le47.1
    replace hle := hle.trans le47
    replace at4 := le47.2 _ _ at4
    replace at5 := le47.2 _ _ at5
    replace at1003 := le47.2 _ _ at1003
    replace at_L10 := le47.2 _ _ at_L10
    replace at46 := le47.2 _ _ at46
    have lt_at47 := GHeap.lt_of_get at47
    replace hin := base_hin.mono hle
    replace hin1 := base_hin1.mono hle
    clear hb4 fs4 ft4 c104 c114 j14 j24 hm4 hi4 hms4 his4 hmt4 hit4
    have hb4 : Fun.At _ g4 0 f p := ⟨Mem.of_get at4, hin⟩
    obtain ⟨fs4, ft4, c104, c114, j14, j24⟩ := hb4.get
    have hm4 : MemN _ _ _ _ _ := ⟨rfl, hb4.1⟩
    have hi4 := hb4.2
    have hms4 : MemN _ _ _ _ _ := ⟨rfl, fs4.1⟩
    have his4 := fs4.2
    have hmt4 : MemN _ _ _ _ _ := ⟨rfl, ft4.1⟩
    have hit4 := ft4.2
    clear hb5 fs5 ft5 c105 c115 j15 j25 hm5 hi5 hms5 his5 hmt5 hit5
    have hb5 : Fun.At _ g5 0 k q := ⟨Mem.of_get at5, hin1⟩
    obtain ⟨fs5, ft5, c105, c115, j15, j25⟩ := hb5.get
    have hm5 : MemN _ _ _ _ _ := ⟨rfl, hb5.1⟩
    have hi5 := hb5.2
    have hms5 : MemN _ _ _ _ _ := ⟨rfl, fs5.1⟩
    have his5 := fs5.2
    have hmt5 : MemN _ _ _ _ _ := ⟨rfl, ft5.1⟩
    have hit5 := ft5.2
    clear mm1003
    have mm1003 : MemN _ _ _ _ _ := ⟨rfl, Mem.of_get at1003⟩
    clear hb9 c09 c19 c29 c39 c49 i19 i29 i39 i49 hm9 hi9
    have hb9 : Cat.At _ g9 0 f.s p.s := ⟨Mem.of_get at1003, hin.1⟩
    obtain ⟨c09, c19, c29, c39, c49, i19, i29, i39, i49⟩ := hb9.get
    have hm9 : MemN _ _ _ _ _ := ⟨rfl, hb9.1⟩
    have hi9 := hb9.2
    clear i46
    have i46 := Ints.of_get at46
    replace at47 : GHeap.get H47 g47 = some (.row (ints []) 2 true) := at47
    refine .m rfl rfl rfl (.assign rfl) ?_
    refine .nil ?_
    refine hK10 _ _ ?_
    refine .seq (fun K11 hK11 => ?_)
    refine .seq (fun K12 hK12 => ?_)
    refine .region ?_
    refine .m rfl rfl rfl (.assign rfl) ?_
    refine .nil ?_
    refine hK12 _ _ ?_
    refine .block ?_
    refine .loopR (σ := Nat × Nat × Nat) [(2, some _), (3, some _), (4, some _), (5, some _), (12, some _)] (fun (x, gL13, nL13) => [(14, some (.int .i64 (x : Int))), (13, some (.slice (some ⟨gL13, 0, none⟩) nL13 nL13))]) (fun (x, gL13, nL13) H' => St [g47] H47 H' ∧ H'.get gL13 = some (.row (ints (List.replicate x (-1))) 2 true) ∧ (gL13 = g47 ∨ H47.next ≤ gL13) ∧ nL13 = (List.replicate x (-1)).length ∧ x ≤ f.ob.length) (fun (x, gL13, nL13) => f.ob.length - x) ((0, _, _)) ⟨rfl, rfl, rfl, rfl, rfl, trivial⟩ ⟨rfl, rfl, trivial⟩ ?_ ?_
    ·
     refine ⟨.refl _ _, by first | assumption | exact at47 | simpa using at47, .inl rfl, by first | rfl | assumption | simp | omega, ?_⟩
     omega
    ·
     rintro ⟨x, gL13, nL13⟩ HL2 ⟨lst2, at_L13, pl_L13, ln_L13, hI⟩ KL2 hKL2
     refine .forget (fr' := [(14, some (.int .i64 (x : Int))), (13, some (.slice (some ⟨gL13, 0, none⟩) nL13 nL13)), (2, some _), (3, some _), (4, some _), (5, some _), (12, some _)]) ⟨rfl, rfl, rfl, rfl, rfl, rfl, rfl, trivial⟩ ?_
     have ge_L13 : H.next ≤ gL13 := by omega
     have nx_HL2 := lst2.nx
     replace hle := hle.st lst2 (fun k hk => ⟨by omega, trivial⟩)
     replace at4 := lst2.same _ _ ⟨by omega, trivial⟩ at4
     replace at5 := lst2.same _ _ ⟨by omega, trivial⟩ at5
     replace at1003 := lst2.same _ _ ⟨by omega, trivial⟩ at1003
     replace at_L10 := lst2.same _ _ ⟨by omega, trivial⟩ at_L10
     replace at46 := lst2.same _ _ ⟨by omega, trivial⟩ at46
     have lt_at_L13 := GHeap.lt_of_get at_L13
     replace hin := base_hin.mono hle
     replace hin1 := base_hin1.mono hle
     clear hb4 fs4 ft4 c104 c114 j14 j24 hm4 hi4 hms4 his4 hmt4 hit4
     have hb4 : Fun.At _ g4 0 f p := ⟨Mem.of_get at4, hin⟩
     obtain ⟨fs4, ft4, c104, c114, j14, j24⟩ := hb4.get
     have hm4 : MemN _ _ _ _ _ := ⟨rfl, hb4.1⟩
     have hi4 := hb4.2
     have hms4 : MemN _ _ _ _ _ := ⟨rfl, fs4.1⟩
     have his4 := fs4.2
     have hmt4 : MemN _ _ _ _ _ := ⟨rfl, ft4.1⟩
     have hit4 := ft4.2
     clear hb5 fs5 ft5 c105 c115 j15 j25 hm5 hi5 hms5 his5 hmt5 hit5
     have hb5 : Fun.At _ g5 0 k q := ⟨Mem.of_get at5, hin1⟩
     obtain ⟨fs5, ft5, c105, c115, j15, j25⟩ := hb5.get
     have hm5 : MemN _ _ _ _ _ := ⟨rfl, hb5.1⟩
     have hi5 := hb5.2
     have hms5 : MemN _ _ _ _ _ := ⟨rfl, fs5.1⟩
     have his5 := fs5.2
     have hmt5 : MemN _ _ _ _ _ := ⟨rfl, ft5.1⟩
     have hit5 := ft5.2
     clear mm1003
     have mm1003 : MemN _ _ _ _ _ := ⟨rfl, Mem.of_get at1003⟩
     clear hb9 c09 c19 c29 c39 c49 i19 i29 i39 i49 hm9 hi9
     have hb9 : Cat.At _ g9 0 f.s p.s := ⟨Mem.of_get at1003, hin.1⟩
     obtain ⟨c09, c19, c29, c39, c49, i19, i29, i39, i49⟩ := hb9.get
     have hm9 : MemN _ _ _ _ _ := ⟨rfl, hb9.1⟩
     have hi9 := hb9.2
     clear i46
     have i46 := Ints.of_get at46
     have hrl : (List.replicate x (-1 : Int)).length = x := List.length_replicate
     refine .seq (fun K13 hK13 => ?_)
     refine .seq (fun K14 hK14 => ?_)
     refine .region ?_
     refine .m rfl rfl rfl (.move rfl) ?_
     refine .m rfl rfl rfl (.move rfl) ?_
     refine .m rfl rfl rfl (.len sl_22_A rfl) ?_
     refine .m rfl rfl rfl (.cmp rfl rfl rfl) ?_
     refine .nil ?_
     refine hK14 _ _ ?_
     refine .cond rfl (fun h51 => ?_) (fun h51 => ?_)
     ·
      simp only [sps, length_joinL] at h51
      refine .skip ?_
      refine hK13 _ _ ?_
      refine .seq (fun K15 hK15 => ?_)
      refine .block ?_
      refine .seq (fun K16 hK16 => ?_)
      refine .region ?_
      refine .m rfl rfl rfl (.move rfl) ?_
      refine .r rfl rfl rfl (.litR rfl sl_22_A ze_2_E rfl rfl (by omega) (by omega) rfl rfl) ?_
      rintro _ H55 ⟨g55, rfl, le55, ge55, at55⟩
      have nx_H55 := le55.1
      replace hle := hle.trans le55
      replace lst2 := lst2.le le55
      replace at4 := le55.2 _ _ at4
      replace at5 := le55.2 _ _ at5
      replace at1003 := le55.2 _ _ at1003
      replace at_L10 := le55.2 _ _ at_L10
      replace at46 := le55.2 _ _ at46
      replace at_L13 := le55.2 _ _ at_L13
      have lt_at55 := GHeap.lt_of_get at55
      replace hin := base_hin.mono hle
      replace hin1 := base_hin1.mono hle
      clear hb4 fs4 ft4 c104 c114 j14 j24 hm4 hi4 hms4 his4 hmt4 hit4
      have hb4 : Fun.At _ g4 0 f p := ⟨Mem.of_get at4, hin⟩
      obtain ⟨fs4, ft4, c104, c114, j14, j24⟩ := hb4.get
      have hm4 : MemN _ _ _ _ _ := ⟨rfl, hb4.1⟩
      have hi4 := hb4.2
      have hms4 : MemN _ _ _ _ _ := ⟨rfl, fs4.1⟩
      have his4 := fs4.2
      have hmt4 : MemN _ _ _ _ _ := ⟨rfl, ft4.1⟩
      have hit4 := ft4.2
      clear hb5 fs5 ft5 c105 c115 j15 j25 hm5 hi5 hms5 his5 hmt5 hit5
      have hb5 : Fun.At _ g5 0 k q := ⟨Mem.of_get at5, hin1⟩
      obtain ⟨fs5, ft5, c105, c115, j15, j25⟩ := hb5.get
      have hm5 : MemN _ _ _ _ _ := ⟨rfl, hb5.1⟩
      have hi5 := hb5.2
      have hms5 : MemN _ _ _ _ _ := ⟨rfl, fs5.1⟩
      have his5 := fs5.2
      have hmt5 : MemN _ _ _ _ _ := ⟨rfl, ft5.1⟩
      have hit5 := ft5.2
      clear mm1003
      have mm1003 : MemN _ _ _ _ _ := ⟨rfl, Mem.of_get at1003⟩
      clear hb9 c09 c19 c29 c39 c49 i19 i29 i39 i49 hm9 hi9
      have hb9 : Cat.At _ g9 0 f.s p.s := ⟨Mem.of_get at1003, hin.1⟩
      obtain ⟨c09, c19, c29, c39, c49, i19, i29, i39, i49⟩ := hb9.get
      have hm9 : MemN _ _ _ _ _ := ⟨rfl, hb9.1⟩
      have hi9 := hb9.2
      clear i46
      have i46 := Ints.of_get at46
      refine .r rfl rfl rfl (.appendI rfl sl_22_A ze_2_E rfl by_2_E sl_22_A rfl rfl (by assumption) (by assumption) (by first | omega | (simp <;> omega)) (by omega) (by omega)) ?_
      rintro _ H56 ⟨g56, rfl, st56, ge56, at56⟩
      have nx_H56 := st56.nx
      replace hle := hle.st st56 (fun k hk => ⟨by omega, trivial⟩)
      replace lst2 := lst2.st st56 (fun k hk ho => by simp only [out, and_true] at ho ⊢ <;> omega)
      replace at4 := st56.same _ _ ⟨by omega, trivial⟩ at4
      replace at5 := st56.same _ _ ⟨by omega, trivial⟩ at5
      replace at1003 := st56.same _ _ ⟨by omega, trivial⟩ at1003
      replace at_L10 := st56.same _ _ ⟨by omega, trivial⟩ at_L10
      replace at46 := st56.same _ _ ⟨by omega, trivial⟩ at46
      replace at55 := st56.same _ _ ⟨by omega, trivial⟩ at55
      have lt_at56 := GHeap.lt_of_get at56
      replace hin := base_hin.mono hle
      replace hin1 := base_hin1.mono hle
      clear hb4 fs4 ft4 c104 c114 j14 j24 hm4 hi4 hms4 his4 hmt4 hit4
      have hb4 : Fun.At _ g4 0 f p := ⟨Mem.of_get at4, hin⟩
      obtain ⟨fs4, ft4, c104, c114, j14, j24⟩ := hb4.get
      have hm4 : MemN _ _ _ _ _ := ⟨rfl, hb4.1⟩
      have hi4 := hb4.2
      have hms4 : MemN _ _ _ _ _ := ⟨rfl, fs4.1⟩
      have his4 := fs4.2
      have hmt4 : MemN _ _ _ _ _ := ⟨rfl, ft4.1⟩
      have hit4 := ft4.2
      clear hb5 fs5 ft5 c105 c115 j15 j25 hm5 hi5 hms5 his5 hmt5 hit5
      have hb5 : Fun.At _ g5 0 k q := ⟨Mem.of_get at5, hin1⟩
      obtain ⟨fs5, ft5, c105, c115, j15, j25⟩ := hb5.get
      have hm5 : MemN _ _ _ _ _ := ⟨rfl, hb5.1⟩
      have hi5 := hb5.2
      have hms5 : MemN _ _ _ _ _ := ⟨rfl, fs5.1⟩
      have his5 := fs5.2
      have hmt5 : MemN _ _ _ _ _ := ⟨rfl, ft5.1⟩
      have hit5 := ft5.2
      clear mm1003
      have mm1003 : MemN _ _ _ _ _ := ⟨rfl, Mem.of_get at1003⟩
      clear hb9 c09 c19 c29 c39 c49 i19 i29 i39 i49 hm9 hi9
      have hb9 : Cat.At _ g9 0 f.s p.s := ⟨Mem.of_get at1003, hin.1⟩
      obtain ⟨c09, c19, c29, c39, c49, i19, i29, i39, i49⟩ := hb9.get
      have hm9 : MemN _ _ _ _ _ := ⟨rfl, hb9.1⟩
      have hi9 := hb9.2
      clear i46
      have i46 := Ints.of_get at46
      refine .m rfl rfl rfl (.assign rfl) ?_
      refine .nil ?_
      refine hK16 _ _ ?_
      refine .seq (fun K17 hK17 => ?_)
      refine .region ?_
      refine .r rfl rfl rfl (.litR rfl sl_22_A ze_2_E rfl rfl (by omega) (by omega) rfl rfl) ?_
      rintro _ H57 ⟨g57, rfl, le57, ge57, at57⟩
      have nx_H57 := le57.1
      replace hle := hle.trans le57
      replace lst2 := lst2.le le57
      replace at4 := le57.2 _ _ at4
      replace at5 := le57.2 _ _ at5
      replace at1003 := le57.2 _ _ at1003
      replace at_L10 := le57.2 _ _ at_L10
      replace at46 := le57.2 _ _ at46
      replace at55 := le57.2 _ _ at55
      replace at56 := le57.2 _ _ at56
      have lt_at57 := GHeap.lt_of_get at57
      replace hin := base_hin.mono hle
      replace hin1 := base_hin1.mono hle
      clear hb4 fs4 ft4 c104 c114 j14 j24 hm4 hi4 hms4 his4 hmt4 hit4
      have hb4 : Fun.At _ g4 0 f p := ⟨Mem.of_get at4, hin⟩
      obtain ⟨fs4, ft4, c104, c114, j14, j24⟩ := hb4.get
      have hm4 : MemN _ _ _ _ _ := ⟨rfl, hb4.1⟩
      have hi4 := hb4.2
      have hms4 : MemN _ _ _ _ _ := ⟨rfl, fs4.1⟩
      have his4 := fs4.2
      have hmt4 : MemN _ _ _ _ _ := ⟨rfl, ft4.1⟩
      have hit4 := ft4.2
      clear hb5 fs5 ft5 c105 c115 j15 j25 hm5 hi5 hms5 his5 hmt5 hit5
      have hb5 : Fun.At _ g5 0 k q := ⟨Mem.of_get at5, hin1⟩
      obtain ⟨fs5, ft5, c105, c115, j15, j25⟩ := hb5.get
      have hm5 : MemN _ _ _ _ _ := ⟨rfl, hb5.1⟩
      have hi5 := hb5.2
      have hms5 : MemN _ _ _ _ _ := ⟨rfl, fs5.1⟩
      have his5 := fs5.2
      have hmt5 : MemN _ _ _ _ _ := ⟨rfl, ft5.1⟩
      have hit5 := ft5.2
      clear mm1003
      have mm1003 : MemN _ _ _ _ _ := ⟨rfl, Mem.of_get at1003⟩
      clear hb9 c09 c19 c29 c39 c49 i19 i29 i39 i49 hm9 hi9
      have hb9 : Cat.At _ g9 0 f.s p.s := ⟨Mem.of_get at1003, hin.1⟩
      obtain ⟨c09, c19, c29, c39, c49, i19, i29, i39, i49⟩ := hb9.get
      have hm9 : MemN _ _ _ _ _ := ⟨rfl, hb9.1⟩
      have hi9 := hb9.2
      clear i46
      have i46 := Ints.of_get at46
      replace at57 : GHeap.get H57 g57 = some (.row (ints []) 2 true) := at57
      refine .m rfl rfl rfl (.assign rfl) ?_
      refine .nil ?_
      refine hK17 _ _ ?_
      refine .seq (fun K18 hK18 => ?_)
      refine .seq (fun K19 hK19 => ?_)
      refine .region ?_
      refine .m rfl rfl rfl (.assign rfl) ?_
      refine .nil ?_
      refine hK19 _ _ ?_
      refine .block ?_
      refine .loopR (σ := Nat × Nat × Nat) [(2, some _), (3, some _), (4, some _), (5, some _), (12, some _), (13, some _), (14, some _)] (fun (y, gL15, nL15) => [(16, some (.int .i64 (y : Int))), (15, some (.slice (some ⟨gL15, 0, none⟩) nL15 nL15))]) (fun (y, gL15, nL15) H' => St [g57] H57 H' ∧ H'.get gL15 = some (.row (ints (startL (joinL f.ob.length ((f.s.endL f.s.src.length).map fun p => (pA p, pB p))) x y)) 2 true) ∧ (gL15 = g57 ∨ H57.next ≤ gL15) ∧ nL15 = (startL (joinL f.ob.length ((f.s.endL f.s.src.length).map fun p => (pA p, pB p))) x y).length ∧ y ≤ f.ob.length) (fun (y, gL15, nL15) => f.ob.length - y) ((0, _, _)) ⟨rfl, rfl, rfl, rfl, rfl, rfl, rfl, trivial⟩ ⟨rfl, rfl, trivial⟩ ?_ ?_
      ·
       refine ⟨.refl _ _, by first | assumption | exact at57 | simpa using at57, .inl rfl, by first | rfl | assumption | simp | omega, ?_⟩
       omega
      ·
       rintro ⟨y, gL15, nL15⟩ HL3 ⟨lst3, at_L15, pl_L15, ln_L15, hI⟩ KL3 hKL3
       refine .forget (fr' := [(16, some (.int .i64 (y : Int))), (15, some (.slice (some ⟨gL15, 0, none⟩) nL15 nL15)), (2, some _), (3, some _), (4, some _), (5, some _), (12, some _), (13, some _), (14, some _)]) ⟨rfl, rfl, rfl, rfl, rfl, rfl, rfl, rfl, rfl, trivial⟩ ?_
       have ge_L15 : H.next ≤ gL15 := by omega
       have nx_HL3 := lst3.nx
       replace hle := hle.st lst3 (fun k hk => ⟨by omega, trivial⟩)
       replace lst2 := lst2.st lst3 (fun k hk ho => by simp only [out, and_true] at ho ⊢ <;> omega)
       replace at4 := lst3.same _ _ ⟨by omega, trivial⟩ at4
       replace at5 := lst3.same _ _ ⟨by omega, trivial⟩ at5
       replace at1003 := lst3.same _ _ ⟨by omega, trivial⟩ at1003
       replace at_L10 := lst3.same _ _ ⟨by omega, trivial⟩ at_L10
       replace at46 := lst3.same _ _ ⟨by omega, trivial⟩ at46
       replace at55 := lst3.same _ _ ⟨by omega, trivial⟩ at55
       replace at56 := lst3.same _ _ ⟨by omega, trivial⟩ at56
       have lt_at_L15 := GHeap.lt_of_get at_L15
       replace hin := base_hin.mono hle
       replace hin1 := base_hin1.mono hle
       clear hb4 fs4 ft4 c104 c114 j14 j24 hm4 hi4 hms4 his4 hmt4 hit4
       have hb4 : Fun.At _ g4 0 f p := ⟨Mem.of_get at4, hin⟩
       obtain ⟨fs4, ft4, c104, c114, j14, j24⟩ := hb4.get
       have hm4 : MemN _ _ _ _ _ := ⟨rfl, hb4.1⟩
       have hi4 := hb4.2
       have hms4 : MemN _ _ _ _ _ := ⟨rfl, fs4.1⟩
       have his4 := fs4.2
       have hmt4 : MemN _ _ _ _ _ := ⟨rfl, ft4.1⟩
       have hit4 := ft4.2
       clear hb5 fs5 ft5 c105 c115 j15 j25 hm5 hi5 hms5 his5 hmt5 hit5
       have hb5 : Fun.At _ g5 0 k q := ⟨Mem.of_get at5, hin1⟩
       obtain ⟨fs5, ft5, c105, c115, j15, j25⟩ := hb5.get
       have hm5 : MemN _ _ _ _ _ := ⟨rfl, hb5.1⟩
       have hi5 := hb5.2
       have hms5 : MemN _ _ _ _ _ := ⟨rfl, fs5.1⟩
       have his5 := fs5.2
       have hmt5 : MemN _ _ _ _ _ := ⟨rfl, ft5.1⟩
       have hit5 := ft5.2
       clear mm1003
       have mm1003 : MemN _ _ _ _ _ := ⟨rfl, Mem.of_get at1003⟩
       clear hb9 c09 c19 c29 c39 c49 i19 i29 i39 i49 hm9 hi9
       have hb9 : Cat.At _ g9 0 f.s p.s := ⟨Mem.of_get at1003, hin.1⟩
       obtain ⟨c09, c19, c29, c39, c49, i19, i29, i39, i49⟩ := hb9.get
       have hm9 : MemN _ _ _ _ _ := ⟨rfl, hb9.1⟩
       have hi9 := hb9.2
       clear i46
       have i46 := Ints.of_get at46
       have hyl := length_startL (joinL f.ob.length ((f.s.endL f.s.src.length).map fun p => (pA p, pB p))) x y
       refine .seq (fun K20 hK20 => ?_)
       refine .seq (fun K21 hK21 => ?_)
       refine .region ?_
       refine .m rfl rfl rfl (.move rfl) ?_
       refine .m rfl rfl rfl (.move rfl) ?_
       refine .m rfl rfl rfl (.len sl_22_A rfl) ?_
       refine .m rfl rfl rfl (.cmp rfl rfl rfl) ?_
       refine .nil ?_
       refine hK21 _ _ ?_
       refine .cond rfl (fun h61 => ?_) (fun h61 => ?_)
       ·
        simp only [sps, length_joinL] at h61
        refine .skip ?_
        refine hK20 _ _ ?_
        refine .seq (fun K22 hK22 => ?_)
        refine .block ?_
        refine .seq (fun K23 hK23 => ?_)
        refine .region ?_
        refine .m rfl rfl rfl (.move rfl) ?_
        refine .m rfl rfl rfl (.move rfl) ?_
        refine .m rfl rfl rfl (.idxN sl_22_A (by first | assumption | exact SlA.of_row at46 (by first | rfl | (simp; done) | (simp <;> omega))) rfl rfl (by omega)) ?_
        refine .m rfl rfl rfl (.loadI on_2_A (by first | assumption | exact Ints.of_get at46) rfl (by omega)) ?_
        refine .m rfl rfl rfl (.move rfl) ?_
        refine .m rfl rfl rfl (.cmp rfl rfl rfl) ?_
        refine .nil ?_
        refine hK23 _ _ ?_
        refine .cond rfl (fun h69 => ?_) (fun h69 => ?_)
        ·
         simp only [sps] at h69
         refine .region ?_
         refine .m rfl rfl rfl (.move rfl) ?_
         refine .r rfl rfl rfl (.litR rfl sl_22_A ze_2_E rfl rfl (by omega) (by omega) rfl rfl) ?_
         rintro _ H71 ⟨g71, rfl, le71, ge71, at71⟩
         have nx_H71 := le71.1
         replace hle := hle.trans le71
         replace lst2 := lst2.le le71
         replace lst3 := lst3.le le71
         replace at4 := le71.2 _ _ at4
         replace at5 := le71.2 _ _ at5
         replace at1003 := le71.2 _ _ at1003
         replace at_L10 := le71.2 _ _ at_L10
         replace at46 := le71.2 _ _ at46
         replace at55 := le71.2 _ _ at55
         replace at56 := le71.2 _ _ at56
         replace at_L15 := le71.2 _ _ at_L15
         have lt_at71 := GHeap.lt_of_get at71
         replace hin := base_hin.mono hle
         replace hin1 := base_hin1.mono hle
         clear hb4 fs4 ft4 c104 c114 j14 j24 hm4 hi4 hms4 his4 hmt4 hit4
         have hb4 : Fun.At _ g4 0 f p := ⟨Mem.of_get at4, hin⟩
         obtain ⟨fs4, ft4, c104, c114, j14, j24⟩ := hb4.get
         have hm4 : MemN _ _ _ _ _ := ⟨rfl, hb4.1⟩
         have hi4 := hb4.2
         have hms4 : MemN _ _ _ _ _ := ⟨rfl, fs4.1⟩
         have his4 := fs4.2
         have hmt4 : MemN _ _ _ _ _ := ⟨rfl, ft4.1⟩
         have hit4 := ft4.2
         clear hb5 fs5 ft5 c105 c115 j15 j25 hm5 hi5 hms5 his5 hmt5 hit5
         have hb5 : Fun.At _ g5 0 k q := ⟨Mem.of_get at5, hin1⟩
         obtain ⟨fs5, ft5, c105, c115, j15, j25⟩ := hb5.get
         have hm5 : MemN _ _ _ _ _ := ⟨rfl, hb5.1⟩
         have hi5 := hb5.2
         have hms5 : MemN _ _ _ _ _ := ⟨rfl, fs5.1⟩
         have his5 := fs5.2
         have hmt5 : MemN _ _ _ _ _ := ⟨rfl, ft5.1⟩
         have hit5 := ft5.2
         clear mm1003
         have mm1003 : MemN _ _ _ _ _ := ⟨rfl, Mem.of_get at1003⟩
         clear hb9 c09 c19 c29 c39 c49 i19 i29 i39 i49 hm9 hi9
         have hb9 : Cat.At _ g9 0 f.s p.s := ⟨Mem.of_get at1003, hin.1⟩
         obtain ⟨c09, c19, c29, c39, c49, i19, i29, i39, i49⟩ := hb9.get
         have hm9 : MemN _ _ _ _ _ := ⟨rfl, hb9.1⟩
         have hi9 := hb9.2
         clear i46
         have i46 := Ints.of_get at46
         refine .r rfl rfl rfl (.appendI rfl sl_22_A ze_2_E rfl by_2_E sl_22_A rfl rfl (by assumption) (by assumption) (by first | omega | (simp <;> omega)) (by omega) (by omega)) ?_
         rintro _ H72 ⟨g72, rfl, st72, ge72, at72⟩
         have nx_H72 := st72.nx
         replace hle := hle.st st72 (fun k hk => ⟨by omega, trivial⟩)
         replace lst2 := lst2.st st72 (fun k hk ho => by simp only [out, and_true] at ho ⊢ <;> omega)
         replace lst3 := lst3.st st72 (fun k hk ho => by simp only [out, and_true] at ho ⊢ <;> omega)
         replace at4 := st72.same _ _ ⟨by omega, trivial⟩ at4
         replace at5 := st72.same _ _ ⟨by omega, trivial⟩ at5
         replace at1003 := st72.same _ _ ⟨by omega, trivial⟩ at1003
         replace at_L10 := st72.same _ _ ⟨by omega, trivial⟩ at_L10
         replace at46 := st72.same _ _ ⟨by omega, trivial⟩ at46
         replace at55 := st72.same _ _ ⟨by omega, trivial⟩ at55
         replace at56 := st72.same _ _ ⟨by omega, trivial⟩ at56
         replace at71 := st72.same _ _ ⟨by omega, trivial⟩ at71
         have lt_at72 := GHeap.lt_of_get at72
         replace hin := base_hin.mono hle
         replace hin1 := base_hin1.mono hle
         clear hb4 fs4 ft4 c104 c114 j14 j24 hm4 hi4 hms4 his4 hmt4 hit4
         have hb4 : Fun.At _ g4 0 f p := ⟨Mem.of_get at4, hin⟩
         obtain ⟨fs4, ft4, c104, c114, j14, j24⟩ := hb4.get
         have hm4 : MemN _ _ _ _ _ := ⟨rfl, hb4.1⟩
         have hi4 := hb4.2
         have hms4 : MemN _ _ _ _ _ := ⟨rfl, fs4.1⟩
         have his4 := fs4.2
         have hmt4 : MemN _ _ _ _ _ := ⟨rfl, ft4.1⟩
         have hit4 := ft4.2
         clear hb5 fs5 ft5 c105 c115 j15 j25 hm5 hi5 hms5 his5 hmt5 hit5
         have hb5 : Fun.At _ g5 0 k q := ⟨Mem.of_get at5, hin1⟩
         obtain ⟨fs5, ft5, c105, c115, j15, j25⟩ := hb5.get
         have hm5 : MemN _ _ _ _ _ := ⟨rfl, hb5.1⟩
         have hi5 := hb5.2
         have hms5 : MemN _ _ _ _ _ := ⟨rfl, fs5.1⟩
         have his5 := fs5.2
         have hmt5 : MemN _ _ _ _ _ := ⟨rfl, ft5.1⟩
         have hit5 := ft5.2
         clear mm1003
         have mm1003 : MemN _ _ _ _ _ := ⟨rfl, Mem.of_get at1003⟩
         clear hb9 c09 c19 c29 c39 c49 i19 i29 i39 i49 hm9 hi9
         have hb9 : Cat.At _ g9 0 f.s p.s := ⟨Mem.of_get at1003, hin.1⟩
         obtain ⟨c09, c19, c29, c39, c49, i19, i29, i39, i49⟩ := hb9.get
         have hm9 : MemN _ _ _ _ _ := ⟨rfl, hb9.1⟩
         have hi9 := hb9.2
         clear i46
         have i46 := Ints.of_get at46
         refine .m rfl rfl rfl (.assign rfl) ?_
         refine .nil ?_
         refine hK22 _ _ ?_
         refine .region ?_
         refine .m rfl rfl rfl (.move rfl) ?_
         refine .m rfl rfl rfl (.add rfl rfl rfl (by omega) (by omega)) ?_
         refine .m rfl rfl rfl (.assign rfl) ?_
         refine .nil ?_
         refine hKL3 ((y + 1, _, _)) _ _ ?_ ?_ ⟨rfl, rfl, rfl, rfl, rfl, rfl, rfl, rfl, rfl, trivial⟩
         ·
          refine ⟨lst3, by first | assumption | (rw [startL_T h69]; assumption) | (rw [startL_F h69]; assumption), by omega, by first | omega | (simp only [List.length_append, List.length_cons, List.length_nil] <;> omega) | (rw [startL_T h69] <;> (first | omega | (simp only [List.length_append, List.length_cons, List.length_nil] <;> omega))) | (rw [startL_F h69] <;> (first | omega | (simp only [List.length_append, List.length_cons, List.length_nil] <;> omega))), ?_⟩
          omega
         ·
          (dsimp only; omega)
        ·
         simp only [sps] at h69
         refine .region ?_
         refine .m rfl rfl rfl (.move rfl) ?_
         refine .r rfl rfl rfl (.litR rfl sl_22_A ze_2_E rfl rfl (by omega) (by omega) rfl rfl) ?_
         rintro _ H74 ⟨g74, rfl, le74, ge74, at74⟩
         have nx_H74 := le74.1
         replace hle := hle.trans le74
         replace lst2 := lst2.le le74
         replace lst3 := lst3.le le74
         replace at4 := le74.2 _ _ at4
         replace at5 := le74.2 _ _ at5
         replace at1003 := le74.2 _ _ at1003
         replace at_L10 := le74.2 _ _ at_L10
         replace at46 := le74.2 _ _ at46
         replace at55 := le74.2 _ _ at55
         replace at56 := le74.2 _ _ at56
         replace at_L15 := le74.2 _ _ at_L15
         have lt_at74 := GHeap.lt_of_get at74
         replace hin := base_hin.mono hle
         replace hin1 := base_hin1.mono hle
         clear hb4 fs4 ft4 c104 c114 j14 j24 hm4 hi4 hms4 his4 hmt4 hit4
         have hb4 : Fun.At _ g4 0 f p := ⟨Mem.of_get at4, hin⟩
         obtain ⟨fs4, ft4, c104, c114, j14, j24⟩ := hb4.get
         have hm4 : MemN _ _ _ _ _ := ⟨rfl, hb4.1⟩
         have hi4 := hb4.2
         have hms4 : MemN _ _ _ _ _ := ⟨rfl, fs4.1⟩
         have his4 := fs4.2
         have hmt4 : MemN _ _ _ _ _ := ⟨rfl, ft4.1⟩
         have hit4 := ft4.2
         clear hb5 fs5 ft5 c105 c115 j15 j25 hm5 hi5 hms5 his5 hmt5 hit5
         have hb5 : Fun.At _ g5 0 k q := ⟨Mem.of_get at5, hin1⟩
         obtain ⟨fs5, ft5, c105, c115, j15, j25⟩ := hb5.get
         have hm5 : MemN _ _ _ _ _ := ⟨rfl, hb5.1⟩
         have hi5 := hb5.2
         have hms5 : MemN _ _ _ _ _ := ⟨rfl, fs5.1⟩
         have his5 := fs5.2
         have hmt5 : MemN _ _ _ _ _ := ⟨rfl, ft5.1⟩
         have hit5 := ft5.2
         clear mm1003
         have mm1003 : MemN _ _ _ _ _ := ⟨rfl, Mem.of_get at1003⟩
         clear hb9 c09 c19 c29 c39 c49 i19 i29 i39 i49 hm9 hi9
         have hb9 : Cat.At _ g9 0 f.s p.s := ⟨Mem.of_get at1003, hin.1⟩
         obtain ⟨c09, c19, c29, c39, c49, i19, i29, i39, i49⟩ := hb9.get
         have hm9 : MemN _ _ _ _ _ := ⟨rfl, hb9.1⟩
         have hi9 := hb9.2
         clear i46
         have i46 := Ints.of_get at46
         refine .r rfl rfl rfl (.appendI rfl sl_22_A ze_2_E rfl by_2_E sl_22_A rfl rfl (by assumption) (by assumption) (by first | omega | (simp <;> omega)) (by omega) (by omega)) ?_
         rintro _ H75 ⟨g75, rfl, st75, ge75, at75⟩
         have nx_H75 := st75.nx
         replace hle := hle.st st75 (fun k hk => ⟨by omega, trivial⟩)
         replace lst2 := lst2.st st75 (fun k hk ho => by simp only [out, and_true] at ho ⊢ <;> omega)
         replace lst3 := lst3.st st75 (fun k hk ho => by simp only [out, and_true] at ho ⊢ <;> omega)
         replace at4 := st75.same _ _ ⟨by omega, trivial⟩ at4
         replace at5 := st75.same _ _ ⟨by omega, trivial⟩ at5
         replace at1003 := st75.same _ _ ⟨by omega, trivial⟩ at1003
         replace at_L10 := st75.same _ _ ⟨by omega, trivial⟩ at_L10
         replace at46 := st75.same _ _ ⟨by omega, trivial⟩ at46
         replace at55 := st75.same _ _ ⟨by omega, trivial⟩ at55
         replace at56 := st75.same _ _ ⟨by omega, trivial⟩ at56
         replace at74 := st75.same _ _ ⟨by omega, trivial⟩ at74
         have lt_at75 := GHeap.lt_of_get at75
         replace hin := base_hin.mono hle
         replace hin1 := base_hin1.mono hle
         clear hb4 fs4 ft4 c104 c114 j14 j24 hm4 hi4 hms4 his4 hmt4 hit4
         have hb4 : Fun.At _ g4 0 f p := ⟨Mem.of_get at4, hin⟩
         obtain ⟨fs4, ft4, c104, c114, j14, j24⟩ := hb4.get
         have hm4 : MemN _ _ _ _ _ := ⟨rfl, hb4.1⟩
         have hi4 := hb4.2
         have hms4 : MemN _ _ _ _ _ := ⟨rfl, fs4.1⟩
         have his4 := fs4.2
         have hmt4 : MemN _ _ _ _ _ := ⟨rfl, ft4.1⟩
         have hit4 := ft4.2
         clear hb5 fs5 ft5 c105 c115 j15 j25 hm5 hi5 hms5 his5 hmt5 hit5
         have hb5 : Fun.At _ g5 0 k q := ⟨Mem.of_get at5, hin1⟩
         obtain ⟨fs5, ft5, c105, c115, j15, j25⟩ := hb5.get
         have hm5 : MemN _ _ _ _ _ := ⟨rfl, hb5.1⟩
         have hi5 := hb5.2
         have hms5 : MemN _ _ _ _ _ := ⟨rfl, fs5.1⟩
         have his5 := fs5.2
         have hmt5 : MemN _ _ _ _ _ := ⟨rfl, ft5.1⟩
         have hit5 := ft5.2
         clear mm1003
         have mm1003 : MemN _ _ _ _ _ := ⟨rfl, Mem.of_get at1003⟩
         clear hb9 c09 c19 c29 c39 c49 i19 i29 i39 i49 hm9 hi9
         have hb9 : Cat.At _ g9 0 f.s p.s := ⟨Mem.of_get at1003, hin.1⟩
         obtain ⟨c09, c19, c29, c39, c49, i19, i29, i39, i49⟩ := hb9.get
         have hm9 : MemN _ _ _ _ _ := ⟨rfl, hb9.1⟩
         have hi9 := hb9.2
         clear i46
         have i46 := Ints.of_get at46
         refine .m rfl rfl rfl (.assign rfl) ?_
         refine .nil ?_
         refine hK22 _ _ ?_
         refine .region ?_
         refine .m rfl rfl rfl (.move rfl) ?_
         refine .m rfl rfl rfl (.add rfl rfl rfl (by omega) (by omega)) ?_
         refine .m rfl rfl rfl (.assign rfl) ?_
         refine .nil ?_
         refine hKL3 ((y + 1, _, _)) _ _ ?_ ?_ ⟨rfl, rfl, rfl, rfl, rfl, rfl, rfl, rfl, rfl, trivial⟩
         ·
          refine ⟨lst3, by first | assumption | (rw [startL_T h69]; assumption) | (rw [startL_F h69]; assumption), by omega, by first | omega | (simp only [List.length_append, List.length_cons, List.length_nil] <;> omega) | (rw [startL_T h69] <;> (first | omega | (simp only [List.length_append, List.length_cons, List.length_nil] <;> omega))) | (rw [startL_F h69] <;> (first | omega | (simp only [List.length_append, List.length_cons, List.length_nil] <;> omega))), ?_⟩
          omega
         ·
          (dsimp only; omega)
       ·
        simp only [sps, length_joinL] at h61
        obtain rfl : y = f.ob.length := by omega
        refine .exit ?_
        refine hK18 _ _ ?_
        refine .seq (fun K24 hK24 => ?_)
        refine .region ?_
        refine .m rfl rfl rfl (.loadM ag_33_E rfl ⟨rfl, Mem.of_get at4⟩) ?_
        refine .m rfl rfl rfl (.loadM ag_33_E rfl ⟨rfl, Mem.of_get at5⟩) ?_
        refine .m rfl rfl rfl (.move rfl) ?_
        refine .m rfl rfl rfl (.build bt_89_Hc rfl rfl st_build1) ?_
        refine .r rfl rfl rfl (.boxR rfl sz_89_Hc rfl) ?_
        rintro _ H80 ⟨g80, rfl, le80, ge80, at80⟩
        have nx_H80 := le80.1
        replace hle := hle.trans le80
        replace lst2 := lst2.le le80
        replace at4 := le80.2 _ _ at4
        replace at5 := le80.2 _ _ at5
        replace at1003 := le80.2 _ _ at1003
        replace at_L10 := le80.2 _ _ at_L10
        replace at46 := le80.2 _ _ at46
        replace at55 := le80.2 _ _ at55
        replace at56 := le80.2 _ _ at56
        replace at_L15 := le80.2 _ _ at_L15
        have lt_at80 := GHeap.lt_of_get at80
        replace hin := base_hin.mono hle
        replace hin1 := base_hin1.mono hle
        clear hb4 fs4 ft4 c104 c114 j14 j24 hm4 hi4 hms4 his4 hmt4 hit4
        have hb4 : Fun.At _ g4 0 f p := ⟨Mem.of_get at4, hin⟩
        obtain ⟨fs4, ft4, c104, c114, j14, j24⟩ := hb4.get
        have hm4 : MemN _ _ _ _ _ := ⟨rfl, hb4.1⟩
        have hi4 := hb4.2
        have hms4 : MemN _ _ _ _ _ := ⟨rfl, fs4.1⟩
        have his4 := fs4.2
        have hmt4 : MemN _ _ _ _ _ := ⟨rfl, ft4.1⟩
        have hit4 := ft4.2
        clear hb5 fs5 ft5 c105 c115 j15 j25 hm5 hi5 hms5 his5 hmt5 hit5
        have hb5 : Fun.At _ g5 0 k q := ⟨Mem.of_get at5, hin1⟩
        obtain ⟨fs5, ft5, c105, c115, j15, j25⟩ := hb5.get
        have hm5 : MemN _ _ _ _ _ := ⟨rfl, hb5.1⟩
        have hi5 := hb5.2
        have hms5 : MemN _ _ _ _ _ := ⟨rfl, fs5.1⟩
        have his5 := fs5.2
        have hmt5 : MemN _ _ _ _ _ := ⟨rfl, ft5.1⟩
        have hit5 := ft5.2
        clear mm1003
        have mm1003 : MemN _ _ _ _ _ := ⟨rfl, Mem.of_get at1003⟩
        clear hb9 c09 c19 c29 c39 c49 i19 i29 i39 i49 hm9 hi9
        have hb9 : Cat.At _ g9 0 f.s p.s := ⟨Mem.of_get at1003, hin.1⟩
        obtain ⟨c09, c19, c29, c39, c49, i19, i29, i39, i49⟩ := hb9.get
        have hm9 : MemN _ _ _ _ _ := ⟨rfl, hb9.1⟩
        have hi9 := hb9.2
        clear i46
        have i46 := Ints.of_get at46
        have mm80 : MemN _ _ _ _ _ := ⟨rfl, Mem.of_get at80⟩
        refine .m rfl rfl rfl (.assign rfl) ?_
        refine .nil ?_
        refine hK24 _ _ ?_
        refine .seq (fun K25 hK25 => ?_)
        refine .region ?_
        refine .m rfl rfl rfl (.move rfl) ?_
        refine .m rfl rfl rfl (.move rfl) ?_
        refine .call rfl rfl rfl rfl @Try.call60 rfl ((l07Go_c base_hin base_hin1 hP (M := 1) (iso := iso) (by omega) _ g80 g55 gL15 H.next nL15 (startL (joinL f.ob.length ((f.s.endL f.s.src.length).map fun p => (pA p, pB p))) x f.ob.length) [] _ rfl hle (by omega) (by omega) (by omega) (by omega) (by omega) (by omega) (by omega) at_L15 ln_L15.symm (ln_L15.trans (length_startL _ _ _)) (fun i hi => startL_lt (by rw [ln_L15, length_startL] at hi; exact hi)) ⟨none, fun _ => none, at80, .inl ⟨rfl, rfl, rfl⟩, .nil _ _ _ _⟩ (by simp))) ?_
        rintro _ H83 ⟨gF83, hg83, st83, hl83, hF83⟩
        have nx_H83 := st83.nx
        replace hle := hle.st st83 (fun k hk => ⟨by omega, by omega, trivial⟩)
        replace lst2 := lst2.st st83 (fun k hk ho => by simp only [out, and_true] at ho ⊢ <;> omega)
        replace at4 := st83.same _ _ ⟨by omega, by omega, trivial⟩ at4
        replace at5 := st83.same _ _ ⟨by omega, by omega, trivial⟩ at5
        replace at1003 := st83.same _ _ ⟨by omega, by omega, trivial⟩ at1003
        replace at_L10 := st83.same _ _ ⟨by omega, by omega, trivial⟩ at_L10
        replace at46 := st83.same _ _ ⟨by omega, by omega, trivial⟩ at46
        replace at56 := st83.same _ _ ⟨by omega, by omega, trivial⟩ at56
        replace at_L15 := st83.same _ _ ⟨by omega, by omega, trivial⟩ at_L15
        replace hin := base_hin.mono hle
        replace hin1 := base_hin1.mono hle
        clear hb4 fs4 ft4 c104 c114 j14 j24 hm4 hi4 hms4 his4 hmt4 hit4
        have hb4 : Fun.At _ g4 0 f p := ⟨Mem.of_get at4, hin⟩
        obtain ⟨fs4, ft4, c104, c114, j14, j24⟩ := hb4.get
        have hm4 : MemN _ _ _ _ _ := ⟨rfl, hb4.1⟩
        have hi4 := hb4.2
        have hms4 : MemN _ _ _ _ _ := ⟨rfl, fs4.1⟩
        have his4 := fs4.2
        have hmt4 : MemN _ _ _ _ _ := ⟨rfl, ft4.1⟩
        have hit4 := ft4.2
        clear hb5 fs5 ft5 c105 c115 j15 j25 hm5 hi5 hms5 his5 hmt5 hit5
        have hb5 : Fun.At _ g5 0 k q := ⟨Mem.of_get at5, hin1⟩
        obtain ⟨fs5, ft5, c105, c115, j15, j25⟩ := hb5.get
        have hm5 : MemN _ _ _ _ _ := ⟨rfl, hb5.1⟩
        have hi5 := hb5.2
        have hms5 : MemN _ _ _ _ _ := ⟨rfl, fs5.1⟩
        have his5 := fs5.2
        have hmt5 : MemN _ _ _ _ _ := ⟨rfl, ft5.1⟩
        have hit5 := ft5.2
        clear mm1003
        have mm1003 : MemN _ _ _ _ _ := ⟨rfl, Mem.of_get at1003⟩
        clear hb9 c09 c19 c29 c39 c49 i19 i29 i39 i49 hm9 hi9
        have hb9 : Cat.At _ g9 0 f.s p.s := ⟨Mem.of_get at1003, hin.1⟩
        obtain ⟨c09, c19, c29, c39, c49, i19, i29, i39, i49⟩ := hb9.get
        have hm9 : MemN _ _ _ _ _ := ⟨rfl, hb9.1⟩
        have hi9 := hb9.2
        clear i46
        have i46 := Ints.of_get at46
        clear mm80
        have mm80 : MemN _ _ _ _ _ := ⟨rfl, Mem.of_get at80⟩
        refine .nil ?_
        refine hK25 _ _ ?_
        refine .seq (fun K26 hK26 => ?_)
        refine .region ?_
        obtain ⟨af2, r2, e1, _, _⟩ := hF83.ex
        have c26 : GHeap.cell H83 g80 (0 + 26) = some (.slice af2 _ _) := Mem.of_get e1 26 _ rfl
        refine .m rfl rfl rfl (.move rfl) ?_
        refine .m rfl rfl rfl (.nilCheck rfl) ?_
        refine .m rfl rfl rfl (.fieldAddr fo_89_4_Hb rfl) ?_
        refine .m rfl rfl rfl (.load on_23_B rfl (by assumption)) ?_
        refine .m rfl rfl rfl (.len sl_23_B rfl) ?_
        refine .m rfl rfl rfl (.cmp rfl rfl rfl) ?_
        refine .nil ?_
        refine hK26 _ _ ?_
        refine .cond rfl (fun h89 => ?_) (fun h89 => ?_)
        ·
         simp only [sps] at h89
         have h0 : (([] ++ (f.net k iso).go (startL (joinL f.ob.length ((f.s.endL f.s.src.length).map fun p => (pA p, pB p))) x f.ob.length)).take 1).length = 0 := by omega
         rw [List.nil_append] at h0
         have hnil := Net.sols_nil hgood (take_one_nil h0)
         refine .seq (fun K27 hK27 => ?_)
         refine .region ?_
         refine .r rfl rfl rfl (.litR rfl sl_23_B ze_22_E rfl rfl (by omega) (by omega) rfl rfl) ?_
         rintro _ H90 ⟨g90, rfl, le90, ge90, at90⟩
         have nx_H90 := le90.1
         replace hle := hle.trans le90
         replace lst2 := lst2.le le90
         replace at4 := le90.2 _ _ at4
         replace at5 := le90.2 _ _ at5
         replace at1003 := le90.2 _ _ at1003
         replace at_L10 := le90.2 _ _ at_L10
         replace at46 := le90.2 _ _ at46
         replace at56 := le90.2 _ _ at56
         replace at_L15 := le90.2 _ _ at_L15
         have lt_at90 := GHeap.lt_of_get at90
         replace hin := base_hin.mono hle
         replace hin1 := base_hin1.mono hle
         clear hb4 fs4 ft4 c104 c114 j14 j24 hm4 hi4 hms4 his4 hmt4 hit4
         have hb4 : Fun.At _ g4 0 f p := ⟨Mem.of_get at4, hin⟩
         obtain ⟨fs4, ft4, c104, c114, j14, j24⟩ := hb4.get
         have hm4 : MemN _ _ _ _ _ := ⟨rfl, hb4.1⟩
         have hi4 := hb4.2
         have hms4 : MemN _ _ _ _ _ := ⟨rfl, fs4.1⟩
         have his4 := fs4.2
         have hmt4 : MemN _ _ _ _ _ := ⟨rfl, ft4.1⟩
         have hit4 := ft4.2
         clear hb5 fs5 ft5 c105 c115 j15 j25 hm5 hi5 hms5 his5 hmt5 hit5
         have hb5 : Fun.At _ g5 0 k q := ⟨Mem.of_get at5, hin1⟩
         obtain ⟨fs5, ft5, c105, c115, j15, j25⟩ := hb5.get
         have hm5 : MemN _ _ _ _ _ := ⟨rfl, hb5.1⟩
         have hi5 := hb5.2
         have hms5 : MemN _ _ _ _ _ := ⟨rfl, fs5.1⟩
         have his5 := fs5.2
         have hmt5 : MemN _ _ _ _ _ := ⟨rfl, ft5.1⟩
         have hit5 := ft5.2
         clear mm1003
         have mm1003 : MemN _ _ _ _ _ := ⟨rfl, Mem.of_get at1003⟩
         clear hb9 c09 c19 c29 c39 c49 i19 i29 i39 i49 hm9 hi9
         have hb9 : Cat.At _ g9 0 f.s p.s := ⟨Mem.of_get at1003, hin.1⟩
         obtain ⟨c09, c19, c29, c39, c49, i19, i29, i39, i49⟩ := hb9.get
         have hm9 : MemN _ _ _ _ _ := ⟨rfl, hb9.1⟩
         have hi9 := hb9.2
         clear i46
         have i46 := Ints.of_get at46
         clear mm80
         have mm80 : MemN _ _ _ _ _ := ⟨rfl, Mem.of_get at80⟩
         refine .m rfl rfl rfl (.assign rfl) ?_
         refine .nil ?_
         refine hK27 _ _ ?_
         refine .ret ?_
         -- leaf e1
         refine hret _ _ ?_
         refine ⟨_, rfl, ?_⟩
         rw [hnil, List.take_nil]
         exact ⟨hle, some ⟨g90, 0, none⟩, fun _ => none, rfl, (OwnL.nil H.next _ 2 (fun _ => none)).done at90 (by omega)⟩
        ·
         try simp only [sps] at h89
         refine .skip ?_
         refine hK15 _ _ ?_
         refine .region ?_
         refine .m rfl rfl rfl (.move rfl) ?_
         refine .m rfl rfl rfl (.add rfl rfl rfl (by omega) (by omega)) ?_
         refine .m rfl rfl rfl (.assign rfl) ?_
         refine .nil ?_
         refine hKL2 ((x + 1, _, _)) _ _ ?_ ?_ ⟨rfl, rfl, rfl, rfl, rfl, rfl, rfl, trivial⟩
         ·
          refine ⟨lst2, by first | assumption | (rw [List.replicate_succ']; assumption), by omega, by first | omega | (simp only [List.length_append, List.length_cons, List.length_nil] <;> omega) | (rw [List.replicate_succ'] <;> (first | omega | (simp only [List.length_append, List.length_cons, List.length_nil] <;> omega))), ?_⟩
          omega
         ·
          (dsimp only; omega)
     ·
      simp only [sps, length_joinL] at h51
      obtain rfl : x = f.ob.length := by omega
      refine .exit ?_
      refine hK11 _ _ ?_
      refine .seq (fun K28 hK28 => ?_)
      refine .region ?_
      refine .m rfl rfl rfl (.loadM ag_33_E rfl ⟨rfl, Mem.of_get at4⟩) ?_
      refine .m rfl rfl rfl (.loadM ag_33_E rfl ⟨rfl, Mem.of_get at5⟩) ?_
      refine .m rfl rfl rfl (.move rfl) ?_
      refine .m rfl rfl rfl (.move rfl) ?_
      refine .r rfl rfl rfl (.litR rfl sl_23_B ze_22_E rfl rfl (by omega) (by omega) rfl rfl) ?_
      rintro _ H95 ⟨g95, rfl, le95, ge95, at95⟩
      have nx_H95 := le95.1
      replace hle := hle.trans le95
      replace lst2 := lst2.le le95
      replace at4 := le95.2 _ _ at4
      replace at5 := le95.2 _ _ at5
      replace at1003 := le95.2 _ _ at1003
      replace at_L10 := le95.2 _ _ at_L10
      replace at46 := le95.2 _ _ at46
      replace at_L13 := le95.2 _ _ at_L13
      have lt_at95 := GHeap.lt_of_get at95
      replace hin := base_hin.mono hle
      replace hin1 := base_hin1.mono hle
      clear hb4 fs4 ft4 c104 c114 j14 j24 hm4 hi4 hms4 his4 hmt4 hit4
      have hb4 : Fun.At _ g4 0 f p := ⟨Mem.of_get at4, hin⟩
      obtain ⟨fs4, ft4, c104, c114, j14, j24⟩ := hb4.get
      have hm4 : MemN _ _ _ _ _ := ⟨rfl, hb4.1⟩
      have hi4 := hb4.2
      have hms4 : MemN _ _ _ _ _ := ⟨rfl, fs4.1⟩
      have his4 := fs4.2
      have hmt4 : MemN _ _ _ _ _ := ⟨rfl, ft4.1⟩
      have hit4 := ft4.2
      clear hb5 fs5 ft5 c105 c115 j15 j25 hm5 hi5 hms5 his5 hmt5 hit5
      have hb5 : Fun.At _ g5 0 k q := ⟨Mem.of_get at5, hin1⟩
      obtain ⟨fs5, ft5, c105, c115, j15, j25⟩ := hb5.get
      have hm5 : MemN _ _ _ _ _ := ⟨rfl, hb5.1⟩
      have hi5 := hb5.2
      have hms5 : MemN _ _ _ _ _ := ⟨rfl, fs5.1⟩
      have his5 := fs5.2
      have hmt5 : MemN _ _ _ _ _ := ⟨rfl, ft5.1⟩
      have hit5 := ft5.2
      clear mm1003
      have mm1003 : MemN _ _ _ _ _ := ⟨rfl, Mem.of_get at1003⟩
      clear hb9 c09 c19 c29 c39 c49 i19 i29 i39 i49 hm9 hi9
      have hb9 : Cat.At _ g9 0 f.s p.s := ⟨Mem.of_get at1003, hin.1⟩
      obtain ⟨c09, c19, c29, c39, c49, i19, i29, i39, i49⟩ := hb9.get
      have hm9 : MemN _ _ _ _ _ := ⟨rfl, hb9.1⟩
      have hi9 := hb9.2
      clear i46
      have i46 := Ints.of_get at46
      refine .m rfl rfl rfl (.build bt_89_Hc rfl rfl st_build2) ?_
      refine .r rfl rfl rfl (.boxR rfl sz_89_Hc rfl) ?_
      rintro _ H97 ⟨g97, rfl, le97, ge97, at97⟩
      have nx_H97 := le97.1
      replace hle := hle.trans le97
      replace lst2 := lst2.le le97
      replace at4 := le97.2 _ _ at4
      replace at5 := le97.2 _ _ at5
      replace at1003 := le97.2 _ _ at1003
      replace at_L10 := le97.2 _ _ at_L10
      replace at46 := le97.2 _ _ at46
      replace at_L13 := le97.2 _ _ at_L13
      replace at95 := le97.2 _ _ at95
      have lt_at97 := GHeap.lt_of_get at97
      replace hin := base_hin.mono hle
      replace hin1 := base_hin1.mono hle
      clear hb4 fs4 ft4 c104 c114 j14 j24 hm4 hi4 hms4 his4 hmt4 hit4
      have hb4 : Fun.At _ g4 0 f p := ⟨Mem.of_get at4, hin⟩
      obtain ⟨fs4, ft4, c104, c114, j14, j24⟩ := hb4.get
      have hm4 : MemN _ _ _ _ _ := ⟨rfl, hb4.1⟩
      have hi4 := hb4.2
      have hms4 : MemN _ _ _ _ _ := ⟨rfl, fs4.1⟩
      have his4 := fs4.2
      have hmt4 : MemN _ _ _ _ _ := ⟨rfl, ft4.1⟩
      have hit4 := ft4.2
      clear hb5 fs5 ft5 c105 c115 j15 j25 hm5 hi5 hms5 his5 hmt5 hit5
      have hb5 : Fun.At _ g5 0 k q := ⟨Mem.of_get at5, hin1⟩
      obtain ⟨fs5, ft5, c105, c115, j15, j25⟩ := hb5.get
      have hm5 : MemN _ _ _ _ _ := ⟨rfl, hb5.1⟩
      have hi5 := hb5.2
      have hms5 : MemN _ _ _ _ _ := ⟨rfl, fs5.1⟩
      have his5 := fs5.2
      have hmt5 : MemN _ _ _ _ _ := ⟨rfl, ft5.1⟩
      have hit5 := ft5.2
      clear mm1003
      have mm1003 : MemN _ _ _ _ _ := ⟨rfl, Mem.of_get at1003⟩
      clear hb9 c09 c19 c29 c39 c49 i19 i29 i39 i49 hm9 hi9
      have hb9 : Cat.At _ g9 0 f.s p.s := ⟨Mem.of_get at1003, hin.1⟩
      obtain ⟨c09, c19, c29, c39, c49, i19, i29, i39, i49⟩ := hb9.get
      have hm9 : MemN _ _ _ _ _ := ⟨rfl, hb9.1⟩
      have hi9 := hb9.2
      clear i46
      have i46 := Ints.of_get at46
      have mm97 : MemN _ _ _ _ _ := ⟨rfl, Mem.of_get at97⟩
      refine .m rfl rfl rfl (.assign rfl) ?_
      refine .nil ?_
      refine hK28 _ _ ?_
      refine .seq (fun K29 hK29 => ?_)
      refine .region ?_
      refine .m rfl rfl rfl (.move rfl) ?_
      refine .m rfl rfl rfl (.move rfl) ?_
      refine .call rfl rfl rfl rfl @Try.call60 rfl ((l07Go_c base_hin base_hin1 hP (M := M) (iso := iso) hM _ g97 g95 gL13 H.next nL13 (List.replicate f.ob.length (-1)) [] _ rfl hle (by omega) (by omega) (by omega) (by omega) (by omega) (by omega) (by omega) at_L13 ln_L13.symm (ln_L13.trans List.length_replicate) (fun i hi => repl_lt (by rw [ln_L13, List.length_replicate] at hi; exact hi)) ⟨some ⟨g95, 0, none⟩, fun _ => none, at97, .inr ⟨rfl, by omega, at95⟩, .nil _ _ _ _⟩ (by simp; omega))) ?_
      rintro _ H100 ⟨gF100, hg100, st100, hl100, hF100⟩
      have nx_H100 := st100.nx
      replace hle := hle.st st100 (fun k hk => ⟨by omega, by omega, trivial⟩)
      replace lst2 := lst2.st st100 (fun k hk ho => by simp only [out, and_true] at ho ⊢ <;> omega)
      replace at4 := st100.same _ _ ⟨by omega, by omega, trivial⟩ at4
      replace at5 := st100.same _ _ ⟨by omega, by omega, trivial⟩ at5
      replace at1003 := st100.same _ _ ⟨by omega, by omega, trivial⟩ at1003
      replace at_L10 := st100.same _ _ ⟨by omega, by omega, trivial⟩ at_L10
      replace at46 := st100.same _ _ ⟨by omega, by omega, trivial⟩ at46
      replace at_L13 := st100.same _ _ ⟨by omega, by omega, trivial⟩ at_L13
      replace hin := base_hin.mono hle
      replace hin1 := base_hin1.mono hle
      clear hb4 fs4 ft4 c104 c114 j14 j24 hm4 hi4 hms4 his4 hmt4 hit4
      have hb4 : Fun.At _ g4 0 f p := ⟨Mem.of_get at4, hin⟩
      obtain ⟨fs4, ft4, c104, c114, j14, j24⟩ := hb4.get
      have hm4 : MemN _ _ _ _ _ := ⟨rfl, hb4.1⟩
      have hi4 := hb4.2
      have hms4 : MemN _ _ _ _ _ := ⟨rfl, fs4.1⟩
      have his4 := fs4.2
      have hmt4 : MemN _ _ _ _ _ := ⟨rfl, ft4.1⟩
      have hit4 := ft4.2
      clear hb5 fs5 ft5 c105 c115 j15 j25 hm5 hi5 hms5 his5 hmt5 hit5
      have hb5 : Fun.At _ g5 0 k q := ⟨Mem.of_get at5, hin1⟩
      obtain ⟨fs5, ft5, c105, c115, j15, j25⟩ := hb5.get
      have hm5 : MemN _ _ _ _ _ := ⟨rfl, hb5.1⟩
      have hi5 := hb5.2
      have hms5 : MemN _ _ _ _ _ := ⟨rfl, fs5.1⟩
      have his5 := fs5.2
      have hmt5 : MemN _ _ _ _ _ := ⟨rfl, ft5.1⟩
      have hit5 := ft5.2
      clear mm1003
      have mm1003 : MemN _ _ _ _ _ := ⟨rfl, Mem.of_get at1003⟩
      clear hb9 c09 c19 c29 c39 c49 i19 i29 i39 i49 hm9 hi9
      have hb9 : Cat.At _ g9 0 f.s p.s := ⟨Mem.of_get at1003, hin.1⟩
      obtain ⟨c09, c19, c29, c39, c49, i19, i29, i39, i49⟩ := hb9.get
      have hm9 : MemN _ _ _ _ _ := ⟨rfl, hb9.1⟩
      have hi9 := hb9.2
      clear i46
      have i46 := Ints.of_get at46
      clear mm97
      have mm97 : MemN _ _ _ _ _ := ⟨rfl, Mem.of_get at97⟩
      refine .nil ?_
      refine hK29 _ _ ?_
      refine .seq (fun K30 hK30 => ?_)
      refine .region ?_
      obtain ⟨af2, r2, e1, e2, e3⟩ := hF100.ex
      have c26 : GHeap.cell H100 g97 (0 + 26) = some (.slice af2 _ _) := Mem.of_get e1 26 _ rfl
      refine .m rfl rfl rfl (.move rfl) ?_
      refine .m rfl rfl rfl (.nilCheck rfl) ?_
      refine .m rfl rfl rfl (.fieldAddr fo_89_4_Hb rfl) ?_
      refine .m rfl rfl rfl (.load on_23_B rfl (by assumption)) ?_
      refine .m rfl rfl rfl (.assign rfl) ?_
      refine .nil ?_
      refine hK30 _ _ ?_
      refine .ret ?_
      -- leaf e2
      refine hret _ _ ?_
      refine ⟨_, rfl, ?_⟩
      rw [List.nil_append, Net.go_all hgood] at e2 e3
      refine ⟨hle, af2, r2, ?_, SlO.intssr e2 e3⟩
      rw [List.nil_append, Net.go_all hgood]
end Go.Proofs.Ytnohkokoimmclaa
/- What gathers lists: two ways. No condition. -/
namespace Go.GL
/-- All lists, one behind the other. -/
structure GathL (T1 T2 e : TypeId) (go gm most : Nat) (Tm : TypeId) (b : Nat) (fs : List (List Int)) (gF : Nat) (H : GHeap) : Prop where
  hd : H.get go = some (.row [.slice (some ⟨gF, 0, none⟩) fs.length fs.length] T1 true)
  most : H.get gm = some (.row [.int .i64 (most : Int)] Tm true)
  rows : ∃ r, H.get gF = some (.row (slsL r fs) T2 true) ∧ OwnL b H e r fs
theorem GathL.le {T1 T2 e : TypeId} {go gm most : Nat} {Tm : TypeId} {b : Nat} {fs : List (List Int)} {gF : Nat} {H H' : GHeap} (h : GathL T1 T2 e go gm most Tm b fs gF H) (s : H.Le H') : GathL T1 T2 e go gm most Tm b fs gF H' := by
  obtain ⟨r, h1, h2⟩ := h.rows
  exact ⟨s.2 _ _ h.hd, s.2 _ _ h.most, r, s.2 _ _ h1, h2.mono s⟩
theorem GathL.st {T1 T2 e : TypeId} {go gm most : Nat} {Tm : TypeId} {b : Nat} {fs : List (List Int)} {gF gc : Nat} {H H' : GHeap} (h : GathL T1 T2 e go gm most Tm b fs gF H) (s : St [gc] H H') (h1 : go ≠ gc) (h2 : gm ≠ gc) (h3 : gc ≠ gF) (h4 : gc < b) : GathL T1 T2 e go gm most Tm b fs gF H' := by
  obtain ⟨r, k1, k2⟩ := h.rows
  exact ⟨s.same _ _ ⟨h1, trivial⟩ h.hd, s.same _ _ ⟨h2, trivial⟩ h.most, r, s.same _ _ ⟨Ne.symm h3, trivial⟩ k1, k2.st s (.cons (k2.lowNe h4) (.nil _ _))⟩
noncomputable def Fun.atR (f k : Fun) : List (List Int) := bif B (f.Is ∧ k.Is) then (bif B (f.s = k.s ∧ f.t = k.t) then (bif decide (((f.net k false).sols f.ob.length).length ≤ 200) then (f.net k false).sols f.ob.length else []) else []) else []
noncomputable def Fun.parC (f k : Fun) : Int := bif B (f.Is ∧ k.Is) then (bif B (f.s = k.s ∧ f.t = k.t) then 0 else 5) else 1
noncomputable def Fun.atC (f k : Fun) : Int := bif B (f.Is ∧ k.Is) then (bif B (f.s = k.s ∧ f.t = k.t) then (bif decide (((f.net k false).sols f.ob.length).length ≤ 200) then 0 else 3) else 5) else 1
theorem Fun.parC_1 {f k : Fun} (h : ¬ (f.Is ∧ k.Is)) : f.parC k = 1 := by unfold parC; rw [B_false h]; rfl
theorem Fun.parC_2 {f k : Fun} (h : f.Is ∧ k.Is) (h' : ¬ (f.s = k.s ∧ f.t = k.t)) : f.parC k = 5 := by unfold parC; rw [B_true h, B_false h']; rfl
theorem Fun.parC_3 {f k : Fun} (h : f.Is ∧ k.Is) (h' : f.s = k.s ∧ f.t = k.t) : f.parC k = 0 := by unfold parC; rw [B_true h, B_true h']; rfl
theorem Fun.parC_0 {f k : Fun} (h : f.parC k = 0) : f.Par k := by
  by_cases h1 : f.Is ∧ k.Is
  · by_cases h2 : f.s = k.s ∧ f.t = k.t
    · exact ⟨h1.1, h1.2, h2.1, h2.2⟩
    · rw [Fun.parC_2 h1 h2] at h; omega
  · rw [Fun.parC_1 h1] at h; omega
theorem Fun.at_no {f k : Fun} (h : ¬ f.parC k = 0) : f.atR k = [] ∧ f.atC k = f.parC k := by
  by_cases h1 : f.Is ∧ k.Is
  · by_cases h2 : f.s = k.s ∧ f.t = k.t
    · exact absurd (Fun.parC_3 h1 h2) h
    · rw [Fun.parC_2 h1 h2]; unfold atR atC; rw [B_true h1, B_false h2]; exact ⟨rfl, rfl⟩
  · rw [Fun.parC_1 h1]; unfold atR atC; rw [B_false h1]; exact ⟨rfl, rfl⟩
theorem Fun.at_big {f k : Fun} (h : f.Par k) (hb : ¬ ((f.net k false).sols f.ob.length).length ≤ 200) : f.atR k = [] ∧ f.atC k = 3 := by
  unfold atR atC; rw [B_true ⟨h.fi, h.gi⟩, B_true ⟨h.ps, h.pt⟩, decide_eq_false hb]; exact ⟨rfl, rfl⟩
theorem Fun.at_ok {f k : Fun} (h : f.Par k) (hb : ((f.net k false).sols f.ob.length).length ≤ 200) : f.atR k = (f.net k false).sols f.ob.length ∧ f.atC k = 0 := by
  unfold atR atC; rw [B_true ⟨h.fi, h.gi⟩, B_true ⟨h.ps, h.pt⟩, decide_eq_true hb]; exact ⟨rfl, rfl⟩
noncomputable def Fun.fnR (f k : Fun) : List Int := bif decide (f.parC k = 0) then ((f.net k true).sols f.ob.length).headD [] else []
noncomputable def Fun.fnC (f k : Fun) : Int := bif decide (f.parC k = 0) then (bif ((f.net k true).sols f.ob.length).isEmpty then 4 else 0) else f.parC k
theorem Fun.fn_no {f k : Fun} (h : ¬ f.parC k = 0) : f.fnR k = [] ∧ f.fnC k = f.parC k := by unfold fnR fnC; rw [decide_eq_false h]; exact ⟨rfl, rfl⟩
theorem Fun.fn_nil {f k : Fun} (h : f.parC k = 0) (h' : (f.net k true).sols f.ob.length = []) : f.fnR k = [] ∧ f.fnC k = 4 := by unfold fnR fnC; rw [decide_eq_true h, h']; exact ⟨rfl, rfl⟩
theorem Fun.fn_ok {f k : Fun} {q : List Int} {l : List (List Int)} (h : f.parC k = 0) (h' : (f.net k true).sols f.ob.length = q :: l) : f.fnR k = q ∧ f.fnC k = 0 := by unfold fnR fnC; rw [decide_eq_true h, h']; exact ⟨rfl, rfl⟩
theorem sols_len8 {f k : Fun} {iso : Bool} (hP : f.Par k) {q : List Int} (h : q ∈ (f.net k iso).sols f.ob.length) : q.length ≤ 8 := by
  have h1 := ((Net.mem_sols (hP.fi.good k iso)).1 h).1
  have h2 := hP.fi.2.2.ol
  have h3 := hP.fi.1.1.obj
  omega
theorem row_ne {H : GHeap} {g g' : Nat} {cs cs' : List Value} {e e' : TypeId} (h : H.get g = some (.row cs e true)) (h' : H.get g' = some (.row cs' e' true)) (hne : (e != e') = true) : g ≠ g' := fun ei => by
  subst ei
  rw [h] at h'
  cases h'
  simp at hne
theorem OwnL.lower {b b' : Nat} {H : GHeap} {e : TypeId} {r : Nat → Option Addr} {xss : List (List Int)} (h : OwnL b H e r xss) (hb : b' ≤ b) : OwnL b' H e r xss := ⟨fun i hi => by
  obtain ⟨g, h1, h2, h3⟩ := h.row i hi
  exact ⟨g, h1, by omega, h3⟩, h.inj⟩
/-- The last list. -/
structure GathI (T e : TypeId) (go : Nat) (b : Nat) (fs : List (List Int)) (gF : Nat) (H : GHeap) : Prop where
  ex : ∃ x, (fs = [] ∧ x = [] ∨ fs = [x]) ∧ H.get go = some (.row [.slice (some ⟨gF, 0, none⟩) x.length x.length] T true) ∧ H.get gF = some (.row (ints x) e true)
theorem GathI.le {T e : TypeId} {go b : Nat} {fs : List (List Int)} {gF : Nat} {H H' : GHeap} (h : GathI T e go b fs gF H) (s : H.Le H') : GathI T e go b fs gF H' := by
  obtain ⟨x, h1, h2, h3⟩ := h.ex
  exact ⟨x, h1, s.2 _ _ h2, s.2 _ _ h3⟩
theorem GathI.st {T e : TypeId} {go b : Nat} {fs : List (List Int)} {gF gc : Nat} {H H' : GHeap} (h : GathI T e go b fs gF H) (s : St [gc] H H') (h1 : go ≠ gc) (h3 : gc ≠ gF) : GathI T e go b fs gF H' := by
  obtain ⟨x, k1, k2, k3⟩ := h.ex
  exact ⟨x, k1, s.same _ _ ⟨h1, trivial⟩ k2, s.same _ _ ⟨Ne.symm h3, trivial⟩ k3⟩
theorem take1_cases {l : List (List Int)} {x : List Int} (h : l.take 1 = [] ∧ x = [] ∨ l.take 1 = [x]) : (l = [] ∧ x = []) ∨ ∃ t, l = x :: t := by
  cases l with
  | nil => rcases h with ⟨_, h⟩ | h
           · exact .inl ⟨rfl, h⟩
           · simp at h
  | cons a t => rcases h with ⟨h, _⟩ | h
                · simp at h
                · simp at h; subst h; exact .inr ⟨t, rfl⟩
theorem Fun.at_small (f k : Fun) : (f.atR k).length ≤ 1048576 ∧ ∀ i, ((f.atR k).getD i []).length ≤ 1048576 := by
  have hnil : ∀ {l : List (List Int)}, l = [] → l.length ≤ 1048576 ∧ ∀ i, (l.getD i []).length ≤ 1048576 := fun h => by subst h; exact ⟨by simp, fun i => by simp⟩
  by_cases h : f.parC k = 0
  · have hP := Fun.parC_0 h
    by_cases hb : ((f.net k false).sols f.ob.length).length ≤ 200
    · rw [(Fun.at_ok hP hb).1]
      refine ⟨by omega, fun i => ?_⟩
      by_cases hi : i < ((f.net k false).sols f.ob.length).length
      · have := sols_len8 hP (getD_mem_list (d := []) hi); omega
      · rw [List.getD_eq_getElem?_getD, List.getElem?_eq_none (by omega)]; simp
    · exact hnil (Fun.at_big hP hb).1
  · exact hnil (Fun.at_no h).1
theorem Fun.fn_len (f k : Fun) : (f.fnR k).length ≤ 1048576 := by
  by_cases h : f.parC k = 0
  · have hP := Fun.parC_0 h
    cases e : (f.net k true).sols f.ob.length with
    | nil => rw [(Fun.fn_nil h e).1]; simp
    | cons q l =>
      rw [(Fun.fn_ok h e).1]
      have := sols_len8 (iso := true) hP (q := q) (by rw [e]; simp)
      omega
  · rw [(Fun.fn_no h).1]; simp
theorem IntssR.row0 {b : Nat} {H : GHeap} {a : Option Addr} {x : List Int} {r : Nat → Option Addr} (h : IntssR b H a [x] r) : IntsR b H (r 0) x := by
  rcases h.1 with ⟨h, _⟩ | ⟨g, e, cs, _, _, _, _, _, h6⟩
  · simp at h
  · exact .inr (h6 0 (by simp))
end Go.GL
/- All transformations. No condition but those of each statement. -/
namespace Go.Proofs.Ytnohkokoimmclaa
open Go Go.GL Go.RowKit Go.Proofs
theorem ze_65_Hf : zeroT Try.prog 65 = some ([.pointer none], 1) := by kernel_rfl
theorem l07Code_c {f k : Fun} {p q : FunP} {H : GHeap} (hin : f.In H p := by assumption) (hin1 : k.In H q := by assumption) (hs : f.Small := by assumption) (hs1 : k.Small := by assumption) :
    GCalls Try.prog 33 [.agg (f.cells p).toArray, .agg (k.cells q).toArray] H (Ret (.int .i64 (f.parC k)) H) := by
  refine GCalls.ret rfl ?_
  refine GCalls.body (N := 19) (rs := [.tmp 4]) Try.func33 rfl rfl rfl rfl (fun Qx hret hend => ?_)
  refine .forget (fr' := [(0, some _), (1, some _)]) ⟨rfl, rfl, trivial⟩ ?_
  have hle := GHeap.Le.refl H
  have base_hin := hin
  have base_hin1 := hin1
  refine .seq (fun K1 hK1 => ?_)
  refine .region ?_
  refine .r rfl rfl rfl (.boxR rfl sz_33_E rfl) ?_
  rintro _ H2 ⟨g2, rfl, le2, ge2, at2⟩
  have nx_H2 := le2.1
  replace hle := hle.trans le2
  have lt_at2 := GHeap.lt_of_get at2
  replace hin := base_hin.mono hle
  replace hin1 := base_hin1.mono hle
  have hb2 : Fun.At _ g2 0 f p := ⟨Mem.of_get at2, hin⟩
  obtain ⟨fs2, ft2, c102, c112, j12, j22⟩ := hb2.get
  have hm2 : MemN _ _ _ _ _ := ⟨rfl, hb2.1⟩
  have hi2 := hb2.2
  have hms2 : MemN _ _ _ _ _ := ⟨rfl, fs2.1⟩
  have his2 := fs2.2
  have hmt2 : MemN _ _ _ _ _ := ⟨rfl, ft2.1⟩
  have hit2 := ft2.2
  refine .r rfl rfl rfl (.boxR rfl sz_33_E rfl) ?_
  rintro _ H3 ⟨g3, rfl, le3, ge3, at3⟩
  have nx_H3 := le3.1
  replace hle := hle.trans le3
  replace at2 := le3.2 _ _ at2
  have lt_at3 := GHeap.lt_of_get at3
  replace hin := base_hin.mono hle
  replace hin1 := base_hin1.mono hle
  clear hb2 fs2 ft2 c102 c112 j12 j22 hm2 hi2 hms2 his2 hmt2 hit2
  have hb2 : Fun.At _ g2 0 f p := ⟨Mem.of_get at2, hin⟩
  obtain ⟨fs2, ft2, c102, c112, j12, j22⟩ := hb2.get
  have hm2 : MemN _ _ _ _ _ := ⟨rfl, hb2.1⟩
  have hi2 := hb2.2
  have hms2 : MemN _ _ _ _ _ := ⟨rfl, fs2.1⟩
  have his2 := fs2.2
  have hmt2 : MemN _ _ _ _ _ := ⟨rfl, ft2.1⟩
  have hit2 := ft2.2
  have hb3 : Fun.At _ g3 0 k q := ⟨Mem.of_get at3, hin1⟩
  obtain ⟨fs3, ft3, c103, c113, j13, j23⟩ := hb3.get
  have hm3 : MemN _ _ _ _ _ := ⟨rfl, hb3.1⟩
  have hi3 := hb3.2
  have hms3 : MemN _ _ _ _ _ := ⟨rfl, fs3.1⟩
  have his3 := fs3.2
  have hmt3 : MemN _ _ _ _ _ := ⟨rfl, ft3.1⟩
  have hit3 := ft3.2
  refine .m rfl rfl rfl (.assign rfl) ?_
  refine .nil ?_
  refine hK1 _ _ ?_
  refine .seq (fun K2 hK2 => ?_)
  refine .block ?_
  refine .seq (fun K3 hK3 => ?_)
  refine .region ?_
  refine .m rfl rfl rfl (.loadM ag_33_E rfl ⟨rfl, Mem.of_get at2⟩) ?_
  refine .callQ rfl rfl rfl rfl @Try.call43 rfl (l06Is_c) ?_
  refine .m rfl rfl rfl (.not rfl) ?_
  refine .m rfl rfl rfl (.move rfl) ?_
  refine .split (fun h9 => ?_) (fun h9 => ?_)
  ·
   simp only [sps] at h9
   refine .sg rfl rfl rfl rfl rfl ?_
   refine .sg rfl rfl rfl rfl rfl ?_
   refine .sg rfl rfl rfl rfl rfl ?_
   refine .m rfl rfl rfl (.pickT rfl rfl) ?_
   refine .m rfl rfl rfl (.assign rfl) ?_
   refine .nil ?_
   refine hK3 _ _ ?_
   refine .condT rfl ?_
   refine .seq (fun K4 hK4 => ?_)
   refine .region ?_
   refine .m rfl rfl rfl (.assign rfl) ?_
   refine .nil ?_
   refine hK4 _ _ ?_
   refine .ret ?_
   -- leaf e1
   refine hret _ _ ?_
   refine ⟨_, rfl, ?_⟩
   first
   | exact ⟨by rw [Fun.parC_1 fun hh => absurd hh.1 (by assumption)], hle⟩
   | exact ⟨by rw [Fun.parC_1 fun hh => absurd hh.2 (by assumption)], hle⟩
   | exact ⟨by rw [Fun.parC_2 ⟨by assumption, by assumption⟩ (by assumption)], hle⟩
   | exact ⟨by rw [Fun.parC_3 ⟨by assumption, by assumption⟩ (by assumption)], hle⟩
  ·
   simp only [sps] at h9
   refine .mg rfl rfl rfl rfl rfl (.loadM ag_33_E rfl ⟨rfl, Mem.of_get at3⟩) ?_
   refine .callQg rfl rfl rfl rfl rfl rfl @Try.call43 rfl (l06Is_c) ?_
   refine .mg rfl rfl rfl rfl rfl (.not rfl) ?_
   refine .m rfl rfl rfl (.pickF rfl rfl) ?_
   refine .m rfl rfl rfl (.assign rfl) ?_
   refine .nil ?_
   refine hK3 _ _ ?_
   refine .cond rfl (fun h5 => ?_) (fun h5 => ?_)
   ·
    simp only [sps] at h5
    refine .seq (fun K5 hK5 => ?_)
    refine .region ?_
    refine .m rfl rfl rfl (.assign rfl) ?_
    refine .nil ?_
    refine hK5 _ _ ?_
    refine .ret ?_
    -- leaf e2
    refine hret _ _ ?_
    refine ⟨_, rfl, ?_⟩
    first
    | exact ⟨by rw [Fun.parC_1 fun hh => absurd hh.1 (by assumption)], hle⟩
    | exact ⟨by rw [Fun.parC_1 fun hh => absurd hh.2 (by assumption)], hle⟩
    | exact ⟨by rw [Fun.parC_2 ⟨by assumption, by assumption⟩ (by assumption)], hle⟩
    | exact ⟨by rw [Fun.parC_3 ⟨by assumption, by assumption⟩ (by assumption)], hle⟩
   ·
    simp only [sps] at h5
    refine .seq (fun K6 hK6 => ?_)
    refine .region ?_
    refine .m rfl rfl rfl (.loadM ag_33_E rfl ⟨rfl, Mem.of_get at2⟩) ?_
    refine .m rfl rfl rfl (.loadM ag_33_E rfl ⟨rfl, Mem.of_get at3⟩) ?_
    refine .callQ rfl rfl rfl rfl @Try.call51 rfl (l07Parallel_c) ?_
    refine .m rfl rfl rfl (.not rfl) ?_
    refine .m rfl rfl rfl (.assign rfl) ?_
    refine .nil ?_
    refine hK6 _ _ ?_
    refine .cond rfl (fun h14 => ?_) (fun h14 => ?_)
    ·
     simp only [sps] at h14
     refine .seq (fun K7 hK7 => ?_)
     refine .region ?_
     refine .m rfl rfl rfl (.assign rfl) ?_
     refine .nil ?_
     refine hK7 _ _ ?_
     refine .ret ?_
     -- leaf e3
     refine hret _ _ ?_
     refine ⟨_, rfl, ?_⟩
     first
     | exact ⟨by rw [Fun.parC_1 fun hh => absurd hh.1 (by assumption)], hle⟩
     | exact ⟨by rw [Fun.parC_1 fun hh => absurd hh.2 (by assumption)], hle⟩
     | exact ⟨by rw [Fun.parC_2 ⟨by assumption, by assumption⟩ (by assumption)], hle⟩
     | exact ⟨by rw [Fun.parC_3 ⟨by assumption, by assumption⟩ (by assumption)], hle⟩
    ·
     simp only [sps] at h14
     refine .skip ?_
     refine hK2 _ _ ?_
     refine .seq (fun K8 hK8 => ?_)
     refine .region ?_
     refine .m rfl rfl rfl (.assign rfl) ?_
     refine .nil ?_
     refine hK8 _ _ ?_
     refine .ret ?_
     -- leaf e4
     refine hret _ _ ?_
     refine ⟨_, rfl, ?_⟩
     first
     | exact ⟨by rw [Fun.parC_1 fun hh => absurd hh.1 (by assumption)], hle⟩
     | exact ⟨by rw [Fun.parC_1 fun hh => absurd hh.2 (by assumption)], hle⟩
     | exact ⟨by rw [Fun.parC_2 ⟨by assumption, by assumption⟩ (by assumption)], hle⟩
     | exact ⟨by rw [Fun.parC_3 ⟨by assumption, by assumption⟩ (by assumption)], hle⟩
theorem parallelCode_c {g o g' o' : Nat} {f k : Fun} {p q : FunP} {H : GHeap} (h : Fun.At H g o f p := by assumption) (h' : Fun.At H g' o' k q := by assumption) (hs : f.Small := by assumption) (hs1 : k.Small := by assumption) :
    GCalls Try.prog 37 [.pointer (some ⟨g, o, none⟩), .pointer (some ⟨g', o', none⟩)] H (Ret (.int .i64 (f.parC k)) H) := by
  refine GCalls.ret rfl ?_
  refine GCalls.body (N := 14) (rs := [.tmp 4]) Try.func37 rfl rfl rfl rfl (fun Qx hret hend => ?_)
  refine .forget (fr' := [(0, some _), (1, some _)]) ⟨rfl, rfl, trivial⟩ ?_
  have hle := GHeap.Le.refl H
  have base_h := h
  have base_h' := h'
  refine .seq (fun K1 hK1 => ?_)
  refine .region ?_
  refine .m rfl rfl rfl (.assign rfl) ?_
  refine .nil ?_
  refine hK1 _ _ ?_
  refine .seq (fun K2 hK2 => ?_)
  refine .seq (fun K3 hK3 => ?_)
  refine .region ?_
  refine .m rfl rfl rfl (.move rfl) ?_
  refine .m rfl rfl rfl (.move rfl) ?_
  refine .r rfl rfl rfl (.litR rfl sl_106_G ze_65_Hf rfl rfl (by omega) (by omega) rfl rfl) ?_
  rintro _ H7 ⟨g7, rfl, le7, ge7, at7⟩
  have nx_H7 := le7.1
  replace hle := hle.trans le7
  have lt_at7 := GHeap.lt_of_get at7
  replace h := base_h.mono hle
  replace h' := base_h'.mono hle
  refine .callQ rfl rfl rfl rfl @Try.call53 rfl (areFunctors2_c) ?_
  refine .m rfl rfl rfl (.not rfl) ?_
  refine .nil ?_
  refine hK3 _ _ ?_
  refine .cond rfl (fun h9 => ?_) (fun h9 => ?_)
  ·
   simp only [sps] at h9
   refine .seq (fun K4 hK4 => ?_)
   refine .region ?_
   refine .m rfl rfl rfl (.assign rfl) ?_
   refine .nil ?_
   refine hK4 _ _ ?_
   refine .ret ?_
   -- leaf e1
   refine hret _ _ ?_
   refine ⟨_, rfl, ?_⟩
   first
   | exact ⟨by rw [Fun.parC_1 (by assumption)], hle⟩
   | exact ⟨by rw [Fun.parC_2 (by assumption) (by assumption)], hle⟩
   | exact ⟨by rw [Fun.parC_3 (by assumption) (by assumption)], hle⟩
  ·
   simp only [sps] at h9
   refine .skip ?_
   refine hK2 _ _ ?_
   refine .seq (fun K5 hK5 => ?_)
   refine .seq (fun K6 hK6 => ?_)
   refine .region ?_
   refine .m rfl rfl rfl (.move rfl) ?_
   refine .m rfl rfl rfl (.move rfl) ?_
   refine .callQ rfl rfl rfl rfl @Try.call54 rfl (parallelFunctors_c) ?_
   refine .m rfl rfl rfl (.not rfl) ?_
   refine .nil ?_
   refine hK6 _ _ ?_
   refine .cond rfl (fun h13 => ?_) (fun h13 => ?_)
   ·
    simp only [sps] at h13
    refine .seq (fun K7 hK7 => ?_)
    refine .region ?_
    refine .m rfl rfl rfl (.assign rfl) ?_
    refine .nil ?_
    refine hK7 _ _ ?_
    refine .ret ?_
    -- leaf e2
    refine hret _ _ ?_
    refine ⟨_, rfl, ?_⟩
    first
    | exact ⟨by rw [Fun.parC_1 (by assumption)], hle⟩
    | exact ⟨by rw [Fun.parC_2 (by assumption) (by assumption)], hle⟩
    | exact ⟨by rw [Fun.parC_3 (by assumption) (by assumption)], hle⟩
   ·
    simp only [sps] at h13
    refine .skip ?_
    refine hK5 _ _ ?_
    refine .seq (fun K8 hK8 => ?_)
    refine .region ?_
    refine .m rfl rfl rfl (.assign rfl) ?_
    refine .nil ?_
    refine hK8 _ _ ?_
    refine .ret ?_
    -- leaf e3
    refine hret _ _ ?_
    refine ⟨_, rfl, ?_⟩
    first
    | exact ⟨by rw [Fun.parC_1 (by assumption)], hle⟩
    | exact ⟨by rw [Fun.parC_2 (by assumption) (by assumption)], hle⟩
    | exact ⟨by rw [Fun.parC_3 (by assumption) (by assumption)], hle⟩
end Go.Proofs.Ytnohkokoimmclaa
/- The first natural isomorphism. No condition but those of each statement. -/
namespace Go.Proofs.Ytnohkokoimmclaa
open Go Go.GL Go.RowKit Go.Proofs
set_option maxHeartbeats 4000000 in
theorem specFindNaturalIsomorphism_c {f k : Fun} {p q : FunP} {H : GHeap} (hin : f.In H p := by assumption) (hin1 : k.In H q := by assumption) (hs : f.Small := by assumption) (hs1 : k.Small := by assumption) :
    GCalls Try.prog 16 [.agg (f.cells p).toArray, .agg (k.cells q).toArray] H (fun v H' => H.Le H' ∧ ∃ a, v = .tuple #[.slice a (f.fnR k).length (f.fnR k).length, .int .i64 (f.fnC k)] ∧ IntsR H.next H' a (f.fnR k)) := by
  refine GCalls.body (N := 23) (rs := [.tmp 4, .tmp 5]) Try.func16 rfl rfl rfl rfl (fun Qx hret hend => ?_)
  refine .forget (fr' := [(0, some _), (1, some _)]) ⟨rfl, rfl, trivial⟩ ?_
  have hle := GHeap.Le.refl H
  have base_hin := hin
  have base_hin1 := hin1
  refine .seq (fun K1 hK1 => ?_)
  refine .region ?_
  refine .r rfl rfl rfl (.boxR rfl sz_33_E rfl) ?_
  rintro _ H2 ⟨g2, rfl, le2, ge2, at2⟩
  have nx_H2 := le2.1
  replace hle := hle.trans le2
  have lt_at2 := GHeap.lt_of_get at2
  replace hin := base_hin.mono hle
  replace hin1 := base_hin1.mono hle
  have hb2 : Fun.At _ g2 0 f p := ⟨Mem.of_get at2, hin⟩
  obtain ⟨fs2, ft2, c102, c112, j12, j22⟩ := hb2.get
  have hm2 : MemN _ _ _ _ _ := ⟨rfl, hb2.1⟩
  have hi2 := hb2.2
  have hms2 : MemN _ _ _ _ _ := ⟨rfl, fs2.1⟩
  have his2 := fs2.2
  have hmt2 : MemN _ _ _ _ _ := ⟨rfl, ft2.1⟩
  have hit2 := ft2.2
  refine .r rfl rfl rfl (.boxR rfl sz_33_E rfl) ?_
  rintro _ H3 ⟨g3, rfl, le3, ge3, at3⟩
  have nx_H3 := le3.1
  replace hle := hle.trans le3
  replace at2 := le3.2 _ _ at2
  have lt_at3 := GHeap.lt_of_get at3
  replace hin := base_hin.mono hle
  replace hin1 := base_hin1.mono hle
  clear hb2 fs2 ft2 c102 c112 j12 j22 hm2 hi2 hms2 his2 hmt2 hit2
  have hb2 : Fun.At _ g2 0 f p := ⟨Mem.of_get at2, hin⟩
  obtain ⟨fs2, ft2, c102, c112, j12, j22⟩ := hb2.get
  have hm2 : MemN _ _ _ _ _ := ⟨rfl, hb2.1⟩
  have hi2 := hb2.2
  have hms2 : MemN _ _ _ _ _ := ⟨rfl, fs2.1⟩
  have his2 := fs2.2
  have hmt2 : MemN _ _ _ _ _ := ⟨rfl, ft2.1⟩
  have hit2 := ft2.2
  have hb3 : Fun.At _ g3 0 k q := ⟨Mem.of_get at3, hin1⟩
  obtain ⟨fs3, ft3, c103, c113, j13, j23⟩ := hb3.get
  have hm3 : MemN _ _ _ _ _ := ⟨rfl, hb3.1⟩
  have hi3 := hb3.2
  have hms3 : MemN _ _ _ _ _ := ⟨rfl, fs3.1⟩
  have his3 := fs3.2
  have hmt3 : MemN _ _ _ _ _ := ⟨rfl, ft3.1⟩
  have hit3 := ft3.2
  refine .m rfl rfl rfl (.assign rfl) ?_
  refine .m rfl rfl rfl (.assign rfl) ?_
  refine .nil ?_
  refine hK1 _ _ ?_
  refine .seq (fun K2 hK2 => ?_)
  refine .region ?_
  refine .m rfl rfl rfl (.loadM ag_33_E rfl ⟨rfl, Mem.of_get at2⟩) ?_
  refine .m rfl rfl rfl (.loadM ag_33_E rfl ⟨rfl, Mem.of_get at3⟩) ?_
  refine .callQ rfl rfl rfl rfl @Try.call33 rfl (l07Code_c) ?_
  refine .m rfl rfl rfl (.assign rfl) ?_
  refine .nil ?_
  refine hK2 _ _ ?_
  refine .seq (fun K3 hK3 => ?_)
  refine .seq (fun K4 hK4 => ?_)
  refine .region ?_
  refine .m rfl rfl rfl (.move rfl) ?_
  refine .m rfl rfl rfl (.cmp rfl rfl rfl) ?_
  refine .nil ?_
  refine hK4 _ _ ?_
  refine .cond rfl (fun h12 => ?_) (fun h12 => ?_)
  ·
   simp only [sps] at h12
   refine .seq (fun K5 hK5 => ?_)
   refine .region ?_
   refine .m rfl rfl rfl (.move rfl) ?_
   refine .m rfl rfl rfl (.assign rfl) ?_
   refine .m rfl rfl rfl (.assign rfl) ?_
   refine .nil ?_
   refine hK5 _ _ ?_
   refine .ret ?_
   -- leaf e1
   refine hret _ _ ?_
   refine ⟨_, _, rfl, rfl, ?_⟩
   obtain ⟨e1, e2⟩ := Fun.fn_no h12
   rw [e1, e2]
   exact ⟨hle, none, rfl, .inl ⟨rfl, rfl⟩⟩
  ·
   simp only [sps] at h12
   have hc0 : f.parC k = 0 := by omega
   have hP := Fun.parC_0 hc0
   refine .skip ?_
   refine hK3 _ _ ?_
   refine .seq (fun K6 hK6 => ?_)
   refine .region ?_
   refine .m rfl rfl rfl (.loadM ag_33_E rfl ⟨rfl, Mem.of_get at2⟩) ?_
   refine .m rfl rfl rfl (.loadM ag_33_E rfl ⟨rfl, Mem.of_get at3⟩) ?_
   refine .call rfl rfl rfl rfl @Try.call41 rfl (l07Find_c (M := 1) (iso := true) (hP := hP) (h1 := by omega) (hM := by omega)) ?_
   rintro _ H16 ⟨le16, a16, r16, rfl, v16⟩
   have nx_H16 := le16.1
   replace hle := hle.trans le16
   replace at2 := le16.2 _ _ at2
   replace at3 := le16.2 _ _ at3
   have bs_v16 := v16
   have lv_v16 : Keep H3.next H16 H16 := fun _ _ _ h => h
   replace hin := base_hin.mono hle
   replace hin1 := base_hin1.mono hle
   clear hb2 fs2 ft2 c102 c112 j12 j22 hm2 hi2 hms2 his2 hmt2 hit2
   have hb2 : Fun.At _ g2 0 f p := ⟨Mem.of_get at2, hin⟩
   obtain ⟨fs2, ft2, c102, c112, j12, j22⟩ := hb2.get
   have hm2 : MemN _ _ _ _ _ := ⟨rfl, hb2.1⟩
   have hi2 := hb2.2
   have hms2 : MemN _ _ _ _ _ := ⟨rfl, fs2.1⟩
   have his2 := fs2.2
   have hmt2 : MemN _ _ _ _ _ := ⟨rfl, ft2.1⟩
   have hit2 := ft2.2
   clear hb3 fs3 ft3 c103 c113 j13 j23 hm3 hi3 hms3 his3 hmt3 hit3
   have hb3 : Fun.At _ g3 0 k q := ⟨Mem.of_get at3, hin1⟩
   obtain ⟨fs3, ft3, c103, c113, j13, j23⟩ := hb3.get
   have hm3 : MemN _ _ _ _ _ := ⟨rfl, hb3.1⟩
   have hi3 := hb3.2
   have hms3 : MemN _ _ _ _ _ := ⟨rfl, fs3.1⟩
   have his3 := fs3.2
   have hmt3 : MemN _ _ _ _ _ := ⟨rfl, ft3.1⟩
   have hit3 := ft3.2
   have i16 := v16.intss
   refine .m rfl rfl rfl (.assign rfl) ?_
   refine .nil ?_
   refine hK6 _ _ ?_
   refine .seq (fun K7 hK7 => ?_)
   refine .seq (fun K8 hK8 => ?_)
   refine .region ?_
   refine .m rfl rfl rfl (.move rfl) ?_
   refine .m rfl rfl rfl (.len sl_23_B rfl) ?_
   refine .m rfl rfl rfl (.cmp rfl rfl rfl) ?_
   refine .nil ?_
   refine hK8 _ _ ?_
   refine .cond rfl (fun h19 => ?_) (fun h19 => ?_)
   ·
    simp only [sps] at h19
    refine .seq (fun K9 hK9 => ?_)
    refine .region ?_
    refine .m rfl rfl rfl (.assign rfl) ?_
    refine .m rfl rfl rfl (.assign rfl) ?_
    refine .nil ?_
    refine hK9 _ _ ?_
    refine .ret ?_
    -- leaf e2
    refine hret _ _ ?_
    refine ⟨_, _, rfl, rfl, ?_⟩
    have hnil : (f.net k true).sols f.ob.length = [] := take_one_nil (by omega)
    obtain ⟨e1, e2⟩ := Fun.fn_nil hc0 hnil
    rw [e1, e2]
    exact ⟨hle, none, rfl, .inl ⟨rfl, rfl⟩⟩
   ·
    simp only [sps] at h19
    refine .skip ?_
    refine hK7 _ _ ?_
    refine .seq (fun K10 hK10 => ?_)
    refine .region ?_
    refine .m rfl rfl rfl (.move rfl) ?_
    obtain ⟨q0, l0, hq0⟩ : ∃ q0 l0, (f.net k true).sols f.ob.length = q0 :: l0 := by
      cases e : (f.net k true).sols f.ob.length with
      | nil => rw [e] at h19; simp at h19
      | cons a l => exact ⟨a, l, rfl⟩
    have ht1 : ((f.net k true).sols f.ob.length).take 1 = [q0] := by rw [hq0]; rfl
    have hl1 : 0 < (((f.net k true).sols f.ob.length).take 1).length := by rw [ht1]; simp
    have hrow := v16
    rw [ht1] at hrow
    replace hrow := hrow.row0
    refine .m rfl rfl rfl (.idxN (j := 0) sl_23_B i16.sl rfl rfl hl1) ?_
    refine .m rfl rfl rfl (.loadE on_22_B i16.sl rfl hl1) ?_
    refine .m rfl rfl rfl (.assign rfl) ?_
    refine .m rfl rfl rfl (.assign rfl) ?_
    refine .nil ?_
    refine hK10 _ _ ?_
    refine .ret ?_
    -- leaf e3
    refine hret _ _ ?_
    refine ⟨_, _, rfl, rfl, ?_⟩
    obtain ⟨e1, e2⟩ := Fun.fn_ok hc0 hq0
    rw [e1, e2]
    exact ⟨hle, r16 0, by rw [ht1]; rfl, hrow.keep (.of_le (.refl _)) (by omega)⟩
/-- What the closures of the search for an isomorphism answer. -/
theorem isoAllowed_c {g o g2 : Nat} {f : Fun} {p : FunP} {e : TypeId} {h : Int} {H : GHeap} (hf : Fun.At H g o f p) (h2 : H.get g2 = some (.row [.pointer (some ⟨g, o, none⟩)] e true)) (hS : f.t.Shape) (h0 : 0 ≤ h) (h1 : h < f.t.src.length) :
    GCalls Try.prog 61 [.int .i64 h, .pointer (some ⟨g2, 0, none⟩)] H (Ret (.bool (f.alB true h)) H) := by
  have k2 : GHeap.cell H g2 0 = some (.pointer (some ⟨g, o, none⟩)) := by rw [GHeap.cell_of h2]; rfl
  obtain ⟨fs, ft, c10, c11, j1, j2⟩ := hf.get
  refine GCalls.body (N := 10) (rs := [.tmp 3]) Try.func61 rfl rfl rfl rfl (fun Qx hret hend => ?_)
  refine .forget (fr' := [(0, some _), (1, some _)]) ⟨rfl, rfl, trivial⟩ ?_
  refine .seq (fun K1 hK1 => ?_)
  refine .region ?_
  refine .m rfl rfl rfl (.assign rfl) ?_
  refine .nil ?_
  refine hK1 _ _ ?_
  refine .seq (fun K2 hK2 => ?_)
  refine .region ?_
  refine .m rfl rfl rfl (.load on_65_G rfl (by assumption)) ?_
  refine .m rfl rfl rfl (.nilCheck rfl) ?_
  refine .m rfl rfl rfl (.fieldAddr fo_33_1_E rfl) ?_
  refine .m rfl rfl rfl (.move rfl) ?_
  refine .callQ rfl rfl rfl rfl @Try.call62 rfl (inverse_c (c := f.t) ft hS h0 h1) ?_
  refine .m rfl rfl rfl (.cmp rfl rfl rfl) ?_
  refine .m rfl rfl rfl (.assign rfl) ?_
  refine .nil ?_
  refine hK2 _ _ ?_
  refine .ret ?_
  -- leaf e1
  refine hret _ _ ?_
  refine ⟨_, rfl, ?_⟩
  exact .of rfl
theorem isoFound_c {go gF gc b : Nat} {q : List Int} {fs : List (List Int)} {H : GHeap} (hA : GathI 22 2 go b fs gF H) (hgc : H.get gc = some (.row (ints q) 2 true)) (n1 : gc ≠ go) (hfs : fs.length ≤ 0) (hq : q.length ≤ 8) (hF : gF < H.next) :
    GCalls Try.prog 63 [.slice (some ⟨gc, 0, none⟩) q.length q.length, .pointer (some ⟨go, 0, none⟩)] H (fun v H' => v = .bool (decide (fs.length + 1 ≤ 0)) ∧ ∃ gF', (gF' = gF ∨ H.next ≤ gF') ∧ gF' < H'.next ∧ St [go, gF] H H' ∧ GathI 22 2 go b (fs ++ [q]) gF' H') := by
  obtain ⟨x, _, hd, hx⟩ := hA.ex
  have hnil : fs = [] := List.eq_nil_of_length_eq_zero (by omega)
  subst hnil
  refine GCalls.body (N := 6) (rs := [.tmp 3]) Try.func63 rfl rfl rfl rfl (fun Qx hret hend => ?_)
  refine .forget (fr' := [(0, some _), (1, some _)]) ⟨rfl, rfl, trivial⟩ ?_
  have lt_hgc := GHeap.lt_of_get hgc
  have lt_hd := GHeap.lt_of_get hd
  have hfo := St.refl [go, gF] H
  refine .seq (fun K1 hK1 => ?_)
  refine .region ?_
  refine .m rfl rfl rfl (.assign rfl) ?_
  refine .nil ?_
  refine hK1 _ _ ?_
  refine .seq (fun K2 hK2 => ?_)
  refine .region ?_
  refine .m rfl rfl rfl (.move rfl) ?_
  refine .call rfl rfl rfl rfl @Try.call58 rfl (clone_c (Ints.of_get hgc)) ?_
  rintro _ H5 ⟨le5, g5, rfl, at5, ge5⟩
  have nx_H5 := le5.1
  replace hfo := hfo.le le5
  replace hgc := le5.2 _ _ hgc
  replace hd := le5.2 _ _ hd
  have lt_at5 := GHeap.lt_of_get at5
  have i5 := Ints.of_get at5
  refine .r0 rfl rfl (.storeR rfl sz_22_E rfl rfl rfl (by assumption) (by first | exact Nat.le_of_ble_eq_true rfl | (simp; done) | (simp <;> omega))) ?_
  rintro _ H1002 ⟨rfl, st1002, at1002⟩
  have nx_H1002 := st1002.nx
  replace hfo := hfo.st st1002 (fun k hk ho => by simp only [out, and_true] at ho ⊢ <;> omega)
  replace hgc := st1002.same _ _ ⟨by omega, trivial⟩ hgc
  replace at5 := st1002.same _ _ ⟨by omega, trivial⟩ at5
  have lt_at1002 := GHeap.lt_of_get at1002
  clear i5
  have i5 := Ints.of_get at5
  try simp only [Nat.zero_add, List.set_cons_succ, List.set_cons_zero] at at1002
  refine .nil ?_
  refine hK2 _ _ ?_
  refine .seq (fun K3 hK3 => ?_)
  refine .region ?_
  refine .m rfl rfl rfl (.assign rfl) ?_
  refine .nil ?_
  refine hK3 _ _ ?_
  refine .ret ?_
  -- leaf e1
  refine hret _ _ ?_
  refine ⟨_, rfl, ?_⟩
  exact ⟨rfl, g5, .inr (by omega), by omega, hfo, ⟨q, .inr rfl, at1002, at5⟩⟩
set_option maxHeartbeats 4000000 in
theorem naturalIso_c {g o g' o' : Nat} {f k : Fun} {p q : FunP} {H : GHeap} (h : Fun.At H g o f p := by assumption) (h' : Fun.At H g' o' k q := by assumption) (hP : f.Par k) :
    GCalls Try.prog 42 [.pointer (some ⟨g, o, none⟩), .pointer (some ⟨g', o', none⟩)] H (fun v H' => H.Le H' ∧ ∃ gF x, v = .tuple #[.slice (some ⟨gF, 0, none⟩) x.length x.length, .bool (!decide (((f.net k true).sols f.ob.length).length ≤ 0))] ∧ H.next ≤ gF ∧ H'.get gF = some (.row (ints x) 2 true) ∧ (((f.net k true).sols f.ob.length = [] ∧ x = []) ∨ ∃ t, (f.net k true).sols f.ob.length = x :: t)) := by
  have hTS := hP.fi.2.1.1
  refine GCalls.body (N := 17) (rs := [.tmp 4, .tmp 5]) Try.func42 rfl rfl rfl rfl (fun Qx hret hend => ?_)
  refine .forget (fr' := [(0, some _), (1, some _)]) ⟨rfl, rfl, trivial⟩ ?_
  have hle := GHeap.Le.refl H
  have base_h := h
  have base_h' := h'
  refine .seq (fun K1 hK1 => ?_)
  refine .region ?_
  refine .r rfl rfl rfl (.boxR rfl sz_65_He rfl) ?_
  rintro _ H2 ⟨g2, rfl, le2, ge2, at2⟩
  have nx_H2 := le2.1
  replace hle := hle.trans le2
  have lt_at2 := GHeap.lt_of_get at2
  replace h := base_h.mono hle
  replace h' := base_h'.mono hle
  refine .m rfl rfl rfl (.assign rfl) ?_
  refine .m rfl rfl rfl (.assign rfl) ?_
  refine .nil ?_
  refine hK1 _ _ ?_
  refine .seq (fun K2 hK2 => ?_)
  refine .region ?_
  have hH2 := at2
  have hb2 := h
  have hb2' := h'
  refine .r rfl rfl rfl (.litR rfl sl_22_A ze_2_E rfl rfl (by omega) (by omega) rfl rfl) ?_
  rintro _ H8 ⟨g8, rfl, le8, ge8, at8⟩
  have nx_H8 := le8.1
  replace hle := hle.trans le8
  replace at2 := le8.2 _ _ at2
  have lt_at8 := GHeap.lt_of_get at8
  replace h := base_h.mono hle
  replace h' := base_h'.mono hle
  replace at8 : GHeap.get H8 g8 = some (.row (ints []) 2 true) := at8
  refine .r rfl rfl rfl (.allocR rfl ze_22_E rfl) ?_
  rintro _ H6 ⟨g6, rfl, le6, ge6, at6⟩
  have nx_H6 := le6.1
  replace hle := hle.trans le6
  replace at2 := le6.2 _ _ at2
  replace at8 := le6.2 _ _ at8
  have lt_at6 := GHeap.lt_of_get at6
  replace h := base_h.mono hle
  replace h' := base_h'.mono hle
  refine .r0 rfl rfl (.storeR rfl sz_22_E rfl rfl rfl (by assumption) (by first | exact Nat.le_of_ble_eq_true rfl | (simp; done) | (simp <;> omega))) ?_
  rintro _ H1002 ⟨rfl, st1002, at1002⟩
  have nx_H1002 := st1002.nx
  replace hle := hle.st st1002 (fun k hk => ⟨by omega, trivial⟩)
  replace at2 := st1002.same _ _ ⟨by omega, trivial⟩ at2
  replace at8 := st1002.same _ _ ⟨by omega, trivial⟩ at8
  have lt_at1002 := GHeap.lt_of_get at1002
  replace h := base_h.mono hle
  replace h' := base_h'.mono hle
  try simp only [Nat.zero_add, List.set_cons_succ, List.set_cons_zero] at at1002
  refine .nil ?_
  refine hK2 _ _ ?_
  refine .seq (fun K3 hK3 => ?_)
  refine .region ?_
  refine .m rfl rfl rfl (.load on_65_G rfl (by first | assumption | exact Mem.of_get at2 0 _ rfl)) ?_
  refine .m rfl rfl rfl (.move rfl) ?_
  refine .m rfl rfl rfl (.makeFunc rfl) ?_
  refine .m rfl rfl rfl (.makeFunc rfl) ?_
  have hears : Hears Try.prog 63 #[.pointer (some ⟨g6, 0, none⟩)] H1002.next g6 0 2 (fun b fs gF H => GathI 22 2 g6 b fs gF H) := ⟨@Try.call63, fun h s => h.le s, fun h h1 h2 h3 s => h.st s (by omega) h3, fun hA h1 _ h3 h4 h5 h6 h7 h8 => isoFound_c hA h5 (by omega) h6 h7 h8⟩
  refine .call rfl rfl rfl rfl @Try.call55 rfl ((naturalLists_c (H0 := H2) (iso := true) (gF := g8) (g1 := g6) (capA := #[.pointer (some ⟨g2, 0, none⟩)]) hb2 hb2' hP hears @Try.call61 (fun H' s h h0 h1 => isoAllowed_c (hb2.mono s) (s.2 _ _ hH2) hTS h0 h1) ((le8.trans le6).st st1002 (fun k hk => ⟨by omega, trivial⟩)) (by omega) (by omega) (by omega) (by omega) (fun b => ⟨[], .inl ⟨rfl, rfl⟩, at1002, at8⟩))) ?_
  rintro _ H13 ⟨gF13, b13, rfl, hb13, hg13, hl13, st13, hA13⟩
  have nx_H13 := st13.nx
  replace hle := hle.st st13 (fun k hk => ⟨by omega, by omega, trivial⟩)
  replace at2 := st13.same _ _ ⟨by omega, by omega, trivial⟩ at2
  replace h := base_h.mono hle
  replace h' := base_h'.mono hle
  refine .m rfl rfl rfl (.assign rfl) ?_
  refine .nil ?_
  refine hK3 _ _ ?_
  refine .seq (fun K4 hK4 => ?_)
  refine .region ?_
  obtain ⟨x13, e0, e1, e2⟩ := hA13.ex
  have c8 := Mem.of_get e1 0 _ rfl
  refine .m rfl rfl rfl (.load on_22_B rfl (by assumption)) ?_
  refine .m rfl rfl rfl (.move rfl) ?_
  refine .m rfl rfl rfl (.not rfl) ?_
  refine .m rfl rfl rfl (.assign rfl) ?_
  refine .m rfl rfl rfl (.assign rfl) ?_
  refine .nil ?_
  refine hK4 _ _ ?_
  refine .ret ?_
  -- leaf e1
  refine hret _ _ ?_
  refine ⟨_, _, rfl, rfl, ?_⟩
  exact ⟨hle, gF13, x13, rfl, by omega, e2, take1_cases e0⟩
set_option maxHeartbeats 4000000 in
theorem implFindNaturalIsomorphism_c {f k : Fun} {p q : FunP} {H : GHeap} (hin : f.In H p := by assumption) (hin1 : k.In H q := by assumption) (hs : f.Small := by assumption) (hs1 : k.Small := by assumption) :
    GCalls Try.prog 17 [.agg (f.cells p).toArray, .agg (k.cells q).toArray] H (fun v H' => H.Le H' ∧ ∃ a, v = .tuple #[.slice a (f.fnR k).length (f.fnR k).length, .int .i64 (f.fnC k)] ∧ IntsR H.next H' a (f.fnR k)) := by
  refine GCalls.body (N := 20) (rs := [.tmp 4, .tmp 5]) Try.func17 rfl rfl rfl rfl (fun Qx hret hend => ?_)
  refine .forget (fr' := [(0, some _), (1, some _)]) ⟨rfl, rfl, trivial⟩ ?_
  have hle := GHeap.Le.refl H
  have base_hin := hin
  have base_hin1 := hin1
  refine .seq (fun K1 hK1 => ?_)
  refine .region ?_
  refine .r rfl rfl rfl (.boxR rfl sz_33_E rfl) ?_
  rintro _ H2 ⟨g2, rfl, le2, ge2, at2⟩
  have nx_H2 := le2.1
  replace hle := hle.trans le2
  have lt_at2 := GHeap.lt_of_get at2
  replace hin := base_hin.mono hle
  replace hin1 := base_hin1.mono hle
  have hb2 : Fun.At _ g2 0 f p := ⟨Mem.of_get at2, hin⟩
  obtain ⟨fs2, ft2, c102, c112, j12, j22⟩ := hb2.get
  have hm2 : MemN _ _ _ _ _ := ⟨rfl, hb2.1⟩
  have hi2 := hb2.2
  have hms2 : MemN _ _ _ _ _ := ⟨rfl, fs2.1⟩
  have his2 := fs2.2
  have hmt2 : MemN _ _ _ _ _ := ⟨rfl, ft2.1⟩
  have hit2 := ft2.2
  refine .r rfl rfl rfl (.boxR rfl sz_33_E rfl) ?_
  rintro _ H3 ⟨g3, rfl, le3, ge3, at3⟩
  have nx_H3 := le3.1
  replace hle := hle.trans le3
  replace at2 := le3.2 _ _ at2
  have lt_at3 := GHeap.lt_of_get at3
  replace hin := base_hin.mono hle
  replace hin1 := base_hin1.mono hle
  clear hb2 fs2 ft2 c102 c112 j12 j22 hm2 hi2 hms2 his2 hmt2 hit2
  have hb2 : Fun.At _ g2 0 f p := ⟨Mem.of_get at2, hin⟩
  obtain ⟨fs2, ft2, c102, c112, j12, j22⟩ := hb2.get
  have hm2 : MemN _ _ _ _ _ := ⟨rfl, hb2.1⟩
  have hi2 := hb2.2
  have hms2 : MemN _ _ _ _ _ := ⟨rfl, fs2.1⟩
  have his2 := fs2.2
  have hmt2 : MemN _ _ _ _ _ := ⟨rfl, ft2.1⟩
  have hit2 := ft2.2
  have hb3 : Fun.At _ g3 0 k q := ⟨Mem.of_get at3, hin1⟩
  obtain ⟨fs3, ft3, c103, c113, j13, j23⟩ := hb3.get
  have hm3 : MemN _ _ _ _ _ := ⟨rfl, hb3.1⟩
  have hi3 := hb3.2
  have hms3 : MemN _ _ _ _ _ := ⟨rfl, fs3.1⟩
  have his3 := fs3.2
  have hmt3 : MemN _ _ _ _ _ := ⟨rfl, ft3.1⟩
  have hit3 := ft3.2
  refine .m rfl rfl rfl (.assign rfl) ?_
  refine .m rfl rfl rfl (.assign rfl) ?_
  refine .nil ?_
  refine hK1 _ _ ?_
  refine .seq (fun K2 hK2 => ?_)
  refine .seq (fun K3 hK3 => ?_)
  refine .region ?_
  refine .callQ rfl rfl rfl rfl @Try.call37 rfl (parallelCode_c) ?_
  refine .m rfl rfl rfl (.assign rfl) ?_
  refine .nil ?_
  refine hK3 _ _ ?_
  refine .seq (fun K4 hK4 => ?_)
  refine .region ?_
  refine .m rfl rfl rfl (.move rfl) ?_
  refine .m rfl rfl rfl (.cmp rfl rfl rfl) ?_
  refine .nil ?_
  refine hK4 _ _ ?_
  refine .cond rfl (fun h11 => ?_) (fun h11 => ?_)
  ·
   simp only [sps] at h11
   refine .seq (fun K5 hK5 => ?_)
   refine .region ?_
   refine .m rfl rfl rfl (.move rfl) ?_
   refine .m rfl rfl rfl (.assign rfl) ?_
   refine .m rfl rfl rfl (.assign rfl) ?_
   refine .nil ?_
   refine hK5 _ _ ?_
   refine .ret ?_
   -- leaf e1
   refine hret _ _ ?_
   refine ⟨_, _, rfl, rfl, ?_⟩
   obtain ⟨e1, e2⟩ := Fun.fn_no h11
   rw [e1, e2]
   exact ⟨hle, none, rfl, .inl ⟨rfl, rfl⟩⟩
  ·
   simp only [sps] at h11
   have hc0 : f.parC k = 0 := by omega
   have hP := Fun.parC_0 hc0
   refine .skip ?_
   refine hK2 _ _ ?_
   refine .seq (fun K6 hK6 => ?_)
   refine .region ?_
   refine .call rfl rfl rfl rfl @Try.call42 rfl (naturalIso_c (hP := hP)) ?_
   rintro _ H14 ⟨le14, g14, x14, rfl, ge14, at14, hx14⟩
   have nx_H14 := le14.1
   replace hle := hle.trans le14
   replace at2 := le14.2 _ _ at2
   replace at3 := le14.2 _ _ at3
   have lt_at14 := GHeap.lt_of_get at14
   replace hin := base_hin.mono hle
   replace hin1 := base_hin1.mono hle
   clear hb2 fs2 ft2 c102 c112 j12 j22 hm2 hi2 hms2 his2 hmt2 hit2
   have hb2 : Fun.At _ g2 0 f p := ⟨Mem.of_get at2, hin⟩
   obtain ⟨fs2, ft2, c102, c112, j12, j22⟩ := hb2.get
   have hm2 : MemN _ _ _ _ _ := ⟨rfl, hb2.1⟩
   have hi2 := hb2.2
   have hms2 : MemN _ _ _ _ _ := ⟨rfl, fs2.1⟩
   have his2 := fs2.2
   have hmt2 : MemN _ _ _ _ _ := ⟨rfl, ft2.1⟩
   have hit2 := ft2.2
   clear hb3 fs3 ft3 c103 c113 j13 j23 hm3 hi3 hms3 his3 hmt3 hit3
   have hb3 : Fun.At _ g3 0 k q := ⟨Mem.of_get at3, hin1⟩
   obtain ⟨fs3, ft3, c103, c113, j13, j23⟩ := hb3.get
   have hm3 : MemN _ _ _ _ _ := ⟨rfl, hb3.1⟩
   have hi3 := hb3.2
   have hms3 : MemN _ _ _ _ _ := ⟨rfl, fs3.1⟩
   have his3 := fs3.2
   have hmt3 : MemN _ _ _ _ _ := ⟨rfl, ft3.1⟩
   have hit3 := ft3.2
   refine .m rfl rfl rfl (.move rfl) ?_
   refine .m rfl rfl rfl (.extract rfl rfl) ?_
   refine .m rfl rfl rfl (.extract rfl rfl) ?_
   refine .m rfl rfl rfl (.assign rfl) ?_
   refine .m rfl rfl rfl (.assign rfl) ?_
   refine .nil ?_
   refine hK6 _ _ ?_
   refine .seq (fun K7 hK7 => ?_)
   refine .seq (fun K8 hK8 => ?_)
   refine .region ?_
   refine .m rfl rfl rfl (.move rfl) ?_
   refine .m rfl rfl rfl (.not rfl) ?_
   refine .nil ?_
   refine hK8 _ _ ?_
   refine .cond rfl (fun h18 => ?_) (fun h18 => ?_)
   ·
    refine .seq (fun K9 hK9 => ?_)
    refine .region ?_
    refine .m rfl rfl rfl (.assign rfl) ?_
    refine .m rfl rfl rfl (.assign rfl) ?_
    refine .nil ?_
    refine hK9 _ _ ?_
    refine .ret ?_
    -- leaf e2
    refine hret _ _ ?_
    refine ⟨_, _, rfl, rfl, ?_⟩
    have hnil : (f.net k true).sols f.ob.length = [] := List.eq_nil_of_length_eq_zero (by have := of_decide_eq_true (bnot_f (bnot_T h18)); omega)
    obtain ⟨e1, e2⟩ := Fun.fn_nil hc0 hnil
    rw [e1, e2]
    exact ⟨hle, none, rfl, .inl ⟨rfl, rfl⟩⟩
   ·
    refine .skip ?_
    refine hK7 _ _ ?_
    refine .seq (fun K10 hK10 => ?_)
    refine .region ?_
    refine .m rfl rfl rfl (.move rfl) ?_
    refine .m rfl rfl rfl (.assign rfl) ?_
    refine .m rfl rfl rfl (.assign rfl) ?_
    refine .nil ?_
    refine hK10 _ _ ?_
    refine .ret ?_
    -- leaf e3
    refine hret _ _ ?_
    refine ⟨_, _, rfl, rfl, ?_⟩
    rcases hx14 with ⟨hn, _⟩ | ⟨t, ht⟩
    · rw [hn] at h18; exact absurd h18 (by decide)
    · obtain ⟨e1, e2⟩ := Fun.fn_ok hc0 ht
      rw [e1, e2]
      exact ⟨hle, some ⟨g14, 0, none⟩, rfl, IntsR.of_at at14 (by omega)⟩
end Go.Proofs.Ytnohkokoimmclaa
/- Writing over lists, and finding again what was written. No condition but those of each statement. -/
namespace Go.Proofs.Ytnohkokoimmclaa
open Go Go.GL Go.RowKit Go.Proofs
theorem markInt64S_own {g : Nat} {e : TypeId} {xs : List Int} {k : Int} {H : GHeap} (at0 : H.get g = some (.row (ints xs) e true)) (hk : 0 ≤ k) (hk' : k + xs.length ≤ 9223372036854775000) :
    GCalls Try.prog 19 [.slice (some ⟨g, 0, none⟩) xs.length xs.length, .int .i64 k] H (fun v H' => v = .int .i64 (k + xs.length) ∧ St [g] H H' ∧ H'.get g = some (.row (ints (seqL k xs.length)) e true)) := by
  refine GCalls.body (N := 19) (rs := [.tmp 4]) Try.func19 rfl rfl rfl rfl (fun Qx hret hend => ?_)
  refine .forget (fr' := [(0, some _), (1, some _)]) ⟨rfl, rfl, trivial⟩ ?_
  have lt_at0 := GHeap.lt_of_get at0
  refine .seq (fun K1 hK1 => ?_)
  refine .region ?_
  refine .m rfl rfl rfl (.assign rfl) ?_
  refine .nil ?_
  refine hK1 _ _ ?_
  refine .seq (fun K2 hK2 => ?_)
  refine .seq (fun K3 hK3 => ?_)
  refine .region ?_
  refine .m rfl rfl rfl (.assign rfl) ?_
  refine .nil ?_
  refine hK3 _ _ ?_
  refine .block ?_
  refine .loopR (σ := Nat × Int × List Int) [(0, some _)] (fun (i, q, ys) => [(5, some (.int .i64 (i : Int))), (1, some (.int .i64 q))]) (fun (i, q, ys) H' => St [g] H H' ∧ H'.get g = some (.row (ints ys) e true) ∧ i ≤ xs.length ∧ q = k + i ∧ ys.length = xs.length ∧ ∀ j, j < i → ys.getD j 0 = k + j) (fun (i, q, ys) => xs.length - i) ((0, k, xs)) ⟨rfl, trivial⟩ ⟨rfl, rfl, trivial⟩ ?_ ?_
  ·
   refine ⟨.refl _ _, by first | assumption | exact at0 | simpa using at0, ?_⟩
   exact ⟨by omega, by omega, rfl, fun _ _ => by omega⟩
  ·
   rintro ⟨i, q, ys⟩ HL1 ⟨lst1, at_L0, hI⟩ KL1 hKL1
   refine .forget (fr' := [(5, some (.int .i64 (i : Int))), (1, some (.int .i64 q)), (0, some _)]) ⟨rfl, rfl, rfl, trivial⟩ ?_
   have nx_HL1 := lst1.nx
   have lt_at_L0 := GHeap.lt_of_get at_L0
   obtain ⟨hi, hq, hyl, ha⟩ := hI
   have hsl := SlA.of_ints at_L0 hyl
   refine .seq (fun K4 hK4 => ?_)
   refine .seq (fun K5 hK5 => ?_)
   refine .region ?_
   refine .m rfl rfl rfl (.move rfl) ?_
   refine .m rfl rfl rfl (.move rfl) ?_
   refine .m rfl rfl rfl (.len sl_22_A rfl) ?_
   refine .m rfl rfl rfl (.cmp rfl rfl rfl) ?_
   refine .nil ?_
   refine hK5 _ _ ?_
   refine .cond rfl (fun h9 => ?_) (fun h9 => ?_)
   ·
    try simp only [sps] at h9
    refine .skip ?_
    refine hK4 _ _ ?_
    refine .seq (fun K6 hK6 => ?_)
    refine .block ?_
    refine .seq (fun K7 hK7 => ?_)
    refine .region ?_
    refine .m rfl rfl rfl (.move rfl) ?_
    refine .m rfl rfl rfl (.move rfl) ?_
    refine .m rfl rfl rfl (.move rfl) ?_
    refine .m rfl rfl rfl (.idxN sl_22_A (by first | assumption | exact SlA.of_row at_L0 (by first | rfl | (simp; done) | (simp <;> omega))) rfl rfl (by omega)) ?_
    refine .r0 rfl rfl (.storeI rfl sz_2_E rfl rfl (by assumption) (by first | omega | (simp <;> omega))) ?_
    rintro _ H4004 ⟨rfl, st4004, at4004⟩
    have nx_H4004 := st4004.nx
    replace lst1 := lst1.st st4004 (fun k hk ho => by simp only [out, and_true] at ho ⊢ <;> omega)
    have lt_at4004 := GHeap.lt_of_get at4004
    refine .nil ?_
    refine hK7 _ _ ?_
    refine .region ?_
    refine .m rfl rfl rfl (.move rfl) ?_
    refine .m rfl rfl rfl (.add rfl rfl rfl (by omega) (by omega)) ?_
    refine .m rfl rfl rfl (.assign rfl) ?_
    refine .nil ?_
    refine hK6 _ _ ?_
    refine .region ?_
    refine .m rfl rfl rfl (.move rfl) ?_
    refine .m rfl rfl rfl (.add rfl rfl rfl (by omega) (by omega)) ?_
    refine .m rfl rfl rfl (.assign rfl) ?_
    refine .nil ?_
    refine hKL1 ((i + 1, q + 1, ys.set (0 + i) q)) _ _ ?_ ?_ ⟨rfl, rfl, rfl, trivial⟩
    ·
     refine ⟨lst1, by assumption, ?_⟩
     refine ⟨by omega, by omega, by simpa using hyl, fun j hj => ?_⟩
     rw [Nat.zero_add, getD_set (by omega)]
     split
     · rename_i e; rw [e]; exact hq
     · exact ha j (by omega)
    ·
     (dsimp only; omega)
   ·
    try simp only [sps] at h9
    refine .exit ?_
    refine hK2 _ _ ?_
    refine .seq (fun K8 hK8 => ?_)
    refine .region ?_
    refine .m rfl rfl rfl (.move rfl) ?_
    refine .m rfl rfl rfl (.assign rfl) ?_
    refine .nil ?_
    refine hK8 _ _ ?_
    refine .ret ?_
    -- leaf e1
    refine hret _ _ ?_
    refine ⟨_, rfl, ?_⟩
    obtain rfl : ys = seqL k xs.length := eq_of_getD (by rw [hyl, length_seqL]) fun j hj => by rw [length_seqL] at hj; rw [ha j (by omega), seqL_get hj]
    obtain rfl : i = xs.length := by omega
    exact ⟨by rw [hq], lst1, at_L0⟩
theorem markInt64S_nil {a : Option Addr} {k : Int} {H : GHeap} (hk : 0 ≤ k) (hk' : k ≤ 9223372036854775000) :
    GCalls Try.prog 19 [.slice a 0 0, .int .i64 k] H (fun v H' => v = .int .i64 k ∧ H' = H) := by
  refine GCalls.body (N := 19) (rs := [.tmp 4]) Try.func19 rfl rfl rfl rfl (fun Qx hret hend => ?_)
  refine .forget (fr' := [(0, some _), (1, some _)]) ⟨rfl, rfl, trivial⟩ ?_
  refine .seq (fun K1 hK1 => ?_)
  refine .region ?_
  refine .m rfl rfl rfl (.assign rfl) ?_
  refine .nil ?_
  refine hK1 _ _ ?_
  refine .seq (fun K2 hK2 => ?_)
  refine .seq (fun K3 hK3 => ?_)
  refine .region ?_
  refine .m rfl rfl rfl (.assign rfl) ?_
  refine .nil ?_
  refine hK3 _ _ ?_
  refine .block ?_
  refine .loopR (σ := Unit) [(0, some _)] (fun u => [(5, some (.int .i64 0)), (1, some (.int .i64 k))]) (fun u H' => H = H' ∧ True) (fun u => 0) (()) ⟨rfl, trivial⟩ ⟨rfl, rfl, trivial⟩ ?_ ?_
  ·
   refine ⟨rfl, ?_⟩
   exact trivial
  ·
   rintro u _ ⟨rfl, hI⟩ KL1 hKL1
   refine .forget (fr' := [(5, some (.int .i64 0)), (1, some (.int .i64 k)), (0, some _)]) ⟨rfl, rfl, rfl, trivial⟩ ?_
   refine .seq (fun K4 hK4 => ?_)
   refine .seq (fun K5 hK5 => ?_)
   refine .region ?_
   refine .m rfl rfl rfl (.move rfl) ?_
   refine .m rfl rfl rfl (.move rfl) ?_
   refine .m rfl rfl rfl (.len sl_22_A rfl) ?_
   refine .m rfl rfl rfl (.cmp rfl rfl rfl) ?_
   refine .nil ?_
   refine hK5 _ _ ?_
   refine .cond rfl (fun h9 => ?_) (fun h9 => ?_)
   ·
    exact absurd h9 (by simp)
   ·
    try simp only [sps] at h9
    refine .exit ?_
    refine hK2 _ _ ?_
    refine .seq (fun K6 hK6 => ?_)
    refine .region ?_
    refine .m rfl rfl rfl (.move rfl) ?_
    refine .m rfl rfl rfl (.assign rfl) ?_
    refine .nil ?_
    refine hK6 _ _ ?_
    refine .ret ?_
    -- leaf e1
    refine hret _ _ ?_
    refine ⟨_, rfl, ?_⟩
    exact ⟨rfl, rfl⟩
theorem markInt64S_c {a : Option Addr} {n lo hi : Nat} {k : Int} {H : GHeap} (h : IntsW lo hi H a n := by assumption) (hk : 0 ≤ k := by omega) (hk' : k + n ≤ 9223372036854775000 := by omega) :
    GCalls Try.prog 19 [.slice a n n, .int .i64 k] H (fun v H' => v = .int .i64 (k + n) ∧ Marked lo hi H H' [(a, n)] k) := by
  by_cases h0 : n = 0
  · subst h0
    refine (markInt64S_nil hk (by omega)).mono fun v H' ⟨h1, h2⟩ => ?_
    subst h2
    exact ⟨by rw [h1]; simp, .refl _ _ _, .refl _ _, fun _ => ⟨.inl rfl, trivial⟩⟩
  · rcases h with h | ⟨g, e, xs, rfl, h2, h3, h4, rfl⟩
    · exact absurd h h0
    · exact (markInt64S_own h4 hk hk').mono fun v H' ⟨k1, k2, k3⟩ => ⟨k1, .one h2 h3 h4 k2 k3 h0⟩
theorem heldInt64S_c {a : Option Addr} {n b : Nat} {k : Int} {H : GHeap} (h : Held b H [(a, n)] k := by assumption) (hk : 0 ≤ k := by omega) (hk' : k + n ≤ 9223372036854775000 := by omega) :
    GCalls Try.prog 20 [.slice a n n, .int .i64 k] H (Ret (.int .i64 (k + n)) H) := by
  have hi := h.ints
  have hl : (seqL k n).length = n := length_seqL k n
  have hsl : SlA H a n (fun i => .int .i64 ((seqL k n).getD i 0)) := by have hi' := hi; unfold Ints at hi'; rw [hl] at hi'; exact hi'
  refine GCalls.body (N := 21) (rs := [.tmp 4]) Try.func20 rfl rfl rfl rfl (fun Qx hret hend => ?_)
  refine .forget (fr' := [(0, some _), (1, some _)]) ⟨rfl, rfl, trivial⟩ ?_
  refine .seq (fun K1 hK1 => ?_)
  refine .region ?_
  refine .m rfl rfl rfl (.assign rfl) ?_
  refine .nil ?_
  refine hK1 _ _ ?_
  refine .seq (fun K2 hK2 => ?_)
  refine .seq (fun K3 hK3 => ?_)
  refine .region ?_
  refine .m rfl rfl rfl (.assign rfl) ?_
  refine .nil ?_
  refine hK3 _ _ ?_
  refine .block ?_
  refine .loopR (σ := Nat × Int) [(0, some _)] (fun (i, q) => [(5, some (.int .i64 (i : Int))), (1, some (.int .i64 q))]) (fun (i, q) H' => H = H' ∧ i ≤ n ∧ q = k + i) (fun (i, q) => n - i) ((0, k)) ⟨rfl, trivial⟩ ⟨rfl, rfl, trivial⟩ ?_ ?_
  ·
   refine ⟨rfl, ?_⟩
   exact ⟨by omega, by omega⟩
  ·
   rintro ⟨i, q⟩ _ ⟨rfl, hI⟩ KL1 hKL1
   refine .forget (fr' := [(5, some (.int .i64 (i : Int))), (1, some (.int .i64 q)), (0, some _)]) ⟨rfl, rfl, rfl, trivial⟩ ?_
   obtain ⟨hi, hq⟩ := hI
   refine .seq (fun K4 hK4 => ?_)
   refine .seq (fun K5 hK5 => ?_)
   refine .region ?_
   refine .m rfl rfl rfl (.move rfl) ?_
   refine .m rfl rfl rfl (.move rfl) ?_
   refine .m rfl rfl rfl (.len sl_22_A rfl) ?_
   refine .m rfl rfl rfl (.cmp rfl rfl rfl) ?_
   refine .nil ?_
   refine hK5 _ _ ?_
   refine .cond rfl (fun h9 => ?_) (fun h9 => ?_)
   ·
    try simp only [sps] at h9
    refine .skip ?_
    refine hK4 _ _ ?_
    refine .seq (fun K6 hK6 => ?_)
    refine .block ?_
    refine .seq (fun K7 hK7 => ?_)
    refine .seq (fun K8 hK8 => ?_)
    refine .region ?_
    refine .m rfl rfl rfl (.move rfl) ?_
    refine .m rfl rfl rfl (.move rfl) ?_
    refine .m rfl rfl rfl (.idxN sl_22_A hsl rfl rfl (by omega)) ?_
    refine .m rfl rfl rfl (.loadE on_2_A hsl rfl (by omega)) ?_
    refine .m rfl rfl rfl (.move rfl) ?_
    refine .m rfl rfl rfl (.cmp rfl rfl rfl) ?_
    refine .nil ?_
    refine hK8 _ _ ?_
    refine .cond rfl (fun h17 => ?_) (fun h17 => ?_)
    ·
     simp only [sps] at h17
     rw [seqL_get (by omega)] at h17
     refine .seq (fun K9 hK9 => ?_)
     refine .region ?_
     refine .m rfl rfl rfl (.assign rfl) ?_
     refine .nil ?_
     refine hK9 _ _ ?_
     refine .ret ?_
     -- leaf e1
     refine hret _ _ ?_
     refine ⟨_, rfl, ?_⟩
     exact absurd hq.symm (by omega)
    ·
     try simp only [sps] at h17
     refine .skip ?_
     refine hK7 _ _ ?_
     refine .region ?_
     refine .m rfl rfl rfl (.move rfl) ?_
     refine .m rfl rfl rfl (.add rfl rfl rfl (by omega) (by omega)) ?_
     refine .m rfl rfl rfl (.assign rfl) ?_
     refine .nil ?_
     refine hK6 _ _ ?_
     refine .region ?_
     refine .m rfl rfl rfl (.move rfl) ?_
     refine .m rfl rfl rfl (.add rfl rfl rfl (by omega) (by omega)) ?_
     refine .m rfl rfl rfl (.assign rfl) ?_
     refine .nil ?_
     refine hKL1 ((i + 1, q + 1)) _ _ ?_ ?_ ⟨rfl, rfl, rfl, trivial⟩
     ·
      refine ⟨rfl, ?_⟩
      exact ⟨by omega, by omega⟩
     ·
      (dsimp only; omega)
   ·
    try simp only [sps] at h9
    refine .exit ?_
    refine hK2 _ _ ?_
    refine .seq (fun K10 hK10 => ?_)
    refine .region ?_
    refine .m rfl rfl rfl (.move rfl) ?_
    refine .m rfl rfl rfl (.assign rfl) ?_
    refine .nil ?_
    refine hK10 _ _ ?_
    refine .ret ?_
    -- leaf e2
    refine hret _ _ ?_
    refine ⟨_, rfl, ?_⟩
    obtain rfl : i = n := by omega
    exact .of (by rw [hq])
theorem markInt64SS_c {a : Option Addr} {xss : List (List Int)} {r : Nat → Option Addr} {lo hi : Nat} {k : Int} {H : GHeap} (h : IntssW lo hi H a xss r := by assumption) (hk : 0 ≤ k := by omega) (hk' : k + sumL xss ≤ 9223372036854775000 := by omega) (hl : xss.length ≤ 1048576 := by omega) :
    GCalls Try.prog 14 [.slice a xss.length xss.length, .int .i64 k] H (fun v H' => v = .int .i64 (k + sumL xss) ∧ Marked lo hi H H' (rowsL r xss xss.length) k) := by
  refine GCalls.body (N := 19) (rs := [.tmp 4]) Try.func14 rfl rfl rfl rfl (fun Qx hret hend => ?_)
  refine .forget (fr' := [(0, some _), (1, some _)]) ⟨rfl, rfl, trivial⟩ ?_
  refine .seq (fun K1 hK1 => ?_)
  refine .region ?_
  refine .m rfl rfl rfl (.assign rfl) ?_
  refine .nil ?_
  refine hK1 _ _ ?_
  refine .seq (fun K2 hK2 => ?_)
  refine .seq (fun K3 hK3 => ?_)
  refine .region ?_
  refine .m rfl rfl rfl (.assign rfl) ?_
  refine .nil ?_
  refine hK3 _ _ ?_
  refine .block ?_
  refine .loopR (σ := Nat × Int) [(0, some _)] (fun (i, q) => [(5, some (.int .i64 (i : Int))), (1, some (.int .i64 q))]) (fun (i, q) H' => i ≤ xss.length ∧ q = k + sumL (xss.take i) ∧ Marked lo hi H H' (rowsL r xss i) k) (fun (i, q) => xss.length - i) ((0, k)) ⟨rfl, trivial⟩ ⟨rfl, rfl, trivial⟩ ?_ ?_
  ·
   exact ⟨by omega, by simp [sumL], .nil _ _ _ _⟩
  ·
   rintro ⟨i, q⟩ H' hI KL1 hKL1
   refine .forget (fr' := [(5, some (.int .i64 (i : Int))), (1, some (.int .i64 q)), (0, some _)]) ⟨rfl, rfl, rfl, trivial⟩ ?_
   obtain ⟨hi', hq, hm⟩ := hI
   have hw := h.stm hm.stm
   have hsl := hw.1
   have hle1 := sumL_take_le (xss := xss) (k := i + 1)
   refine .seq (fun K4 hK4 => ?_)
   refine .seq (fun K5 hK5 => ?_)
   refine .region ?_
   refine .m rfl rfl rfl (.move rfl) ?_
   refine .m rfl rfl rfl (.move rfl) ?_
   refine .m rfl rfl rfl (.len sl_23_B rfl) ?_
   refine .m rfl rfl rfl (.cmp rfl rfl rfl) ?_
   refine .nil ?_
   refine hK5 _ _ ?_
   refine .cond rfl (fun h9 => ?_) (fun h9 => ?_)
   ·
    simp only [sps] at h9
    have hts := sumL_take_succ (xss := xss) (k := i) (by omega)
    refine .skip ?_
    refine hK4 _ _ ?_
    refine .seq (fun K6 hK6 => ?_)
    refine .block ?_
    refine .region ?_
    refine .m rfl rfl rfl (.move rfl) ?_
    refine .m rfl rfl rfl (.move rfl) ?_
    refine .m rfl rfl rfl (.idxN sl_23_B hsl rfl rfl (by omega)) ?_
    refine .m rfl rfl rfl (.loadE on_22_B hsl rfl (by omega)) ?_
    refine .m rfl rfl rfl (.move rfl) ?_
    refine .call rfl rfl rfl rfl @Try.call19 rfl (markInt64S_c (hw.2.1 i (by omega)) (by omega) (by omega)) ?_
    rintro _ H17 ⟨rfl, mk17⟩
    refine .m rfl rfl rfl (.assign rfl) ?_
    refine .nil ?_
    refine hK6 _ _ ?_
    refine .region ?_
    refine .m rfl rfl rfl (.move rfl) ?_
    refine .m rfl rfl rfl (.add rfl rfl rfl (by omega) (by omega)) ?_
    refine .m rfl rfl rfl (.assign rfl) ?_
    refine .nil ?_
    refine hKL1 ((i + 1, _)) _ _ ?_ ?_ ⟨rfl, rfl, rfl, trivial⟩
    ·
     exact ⟨by omega, by rw [sumL_take_succ (by omega)]; omega, by rw [rowsL_succ]; exact hm.app' mk17 (by rw [lvSum_rowsL _ _ _ (by omega)]; omega)⟩
    ·
     (dsimp only; omega)
   ·
    try simp only [sps] at h9
    refine .exit ?_
    refine hK2 _ _ ?_
    refine .seq (fun K7 hK7 => ?_)
    refine .region ?_
    refine .m rfl rfl rfl (.move rfl) ?_
    refine .m rfl rfl rfl (.assign rfl) ?_
    refine .nil ?_
    refine hK7 _ _ ?_
    refine .ret ?_
    -- leaf e1
    refine hret _ _ ?_
    refine ⟨_, rfl, ?_⟩
    obtain rfl : i = xss.length := by omega
    rw [List.take_length] at hq
    exact ⟨by rw [hq], hm⟩
theorem heldRow {b : Nat} {H : GHeap} {r : Nat → Option Addr} {xss : List (List Int)} {k : Int} : ∀ {n : Nat}, n ≤ xss.length → Held b H (rowsL r xss n) k → ∀ i, i < n → Held b H [(r i, (xss.getD i []).length)] (k + sumL (xss.take i))
  | 0, _, _, i, hi => by omega
  | n + 1, hn, h, i, hi => by
    rw [rowsL_succ] at h
    obtain ⟨h1, h2⟩ := h.app
    rw [lvSum_rowsL _ _ _ (by omega)] at h2
    by_cases e : i = n
    · subst e; exact h2
    · exact heldRow (by omega) h1 i (by omega)
theorem markCategory_c {c : Cat} {p : CatP} {lo hi : Nat} {k : Int} {H : GHeap} (w : CatW lo hi H c p := by assumption) (hs : c.Small := by assumption) (hk : 0 ≤ k := by omega) (hk' : k + c.total ≤ 9223372036854775000 := by omega) (hhi : hi ≤ H.next := by omega) :
    GCalls Try.prog 40 [.agg (c.cells p).toArray, .int .i64 k] H (fun v H' => v = .int .i64 (k + c.total) ∧ Marked lo hi H H' (c.leaves p) k) := by
  obtain ⟨w1, w2, w3, w4⟩ := w
  have ht : c.total = c.src.length + (c.tgt.length + (c.idn.length + sumL c.comp)) := rfl
  obtain ⟨s1, s2, s3, s4, s5, s6⟩ := hs
  refine GCalls.body (N := 22) (rs := [.tmp 4]) Try.func40 rfl rfl rfl rfl (fun Qx hret hend => ?_)
  refine .forget (fr' := [(0, some _), (1, some _)]) ⟨rfl, rfl, trivial⟩ ?_
  refine .seq (fun K1 hK1 => ?_)
  refine .region ?_
  refine .r rfl rfl rfl (.boxR rfl sz_31_D rfl) ?_
  rintro _ H2 ⟨g2, rfl, le2, ge2, at2⟩
  have nx_H2 := le2.1
  have lt_at2 := GHeap.lt_of_get at2
  have mm2 : MemN _ _ _ _ _ := ⟨rfl, Mem.of_get at2⟩
  replace w1 := w1.stm (.of_le le2)
  replace w2 := w2.stm (.of_le le2)
  replace w3 := w3.stm (.of_le le2)
  replace w4 := w4.stm (.of_le le2)
  have hc : Mem _ g2 0 (c.cells p) := Mem.of_get at2
  refine .m rfl rfl rfl (.assign rfl) ?_
  refine .nil ?_
  refine hK1 _ _ ?_
  refine .seq (fun K2 hK2 => ?_)
  refine .region ?_
  have c1 : H2.cell g2 (0 + 1) = some (.slice p.a1 c.src.length c.src.length) := Mem.of_get at2 1 _ rfl
  refine .m rfl rfl rfl (.fieldAddr fo_31_1_B rfl) ?_
  refine .m rfl rfl rfl (.load on_22_B rfl (by first | assumption | exact Mem.of_get at2 1 _ rfl)) ?_
  refine .m rfl rfl rfl (.move rfl) ?_
  refine .call rfl rfl rfl rfl @Try.call19 rfl (markInt64S_c) ?_
  rintro _ H8 ⟨rfl, mk8⟩
  have sm8 := mk8.stm
  have nx_H8 := sm8.nx
  replace at2 := sm8.same _ _ (by omega) at2
  replace w1 := w1.stm sm8
  replace w2 := w2.stm sm8
  replace w3 := w3.stm sm8
  replace w4 := w4.stm sm8
  clear mm2
  have mm2 : MemN _ _ _ _ _ := ⟨rfl, Mem.of_get at2⟩
  refine .m rfl rfl rfl (.assign rfl) ?_
  refine .nil ?_
  refine hK2 _ _ ?_
  refine .seq (fun K3 hK3 => ?_)
  refine .region ?_
  have c2 : H8.cell g2 (0 + 2) = some (.slice p.a2 c.tgt.length c.tgt.length) := Mem.of_get at2 2 _ rfl
  refine .m rfl rfl rfl (.fieldAddr fo_31_2_B rfl) ?_
  refine .m rfl rfl rfl (.load on_22_B rfl (by first | assumption | exact Mem.of_get at2 2 _ rfl)) ?_
  refine .m rfl rfl rfl (.move rfl) ?_
  refine .call rfl rfl rfl rfl @Try.call19 rfl (markInt64S_c) ?_
  rintro _ H12 ⟨rfl, mk12⟩
  have sm12 := mk12.stm
  have nx_H12 := sm12.nx
  replace at2 := sm12.same _ _ (by omega) at2
  replace w1 := w1.stm sm12
  replace w2 := w2.stm sm12
  replace w3 := w3.stm sm12
  replace w4 := w4.stm sm12
  clear mm2
  have mm2 : MemN _ _ _ _ _ := ⟨rfl, Mem.of_get at2⟩
  refine .m rfl rfl rfl (.assign rfl) ?_
  refine .nil ?_
  refine hK3 _ _ ?_
  refine .seq (fun K4 hK4 => ?_)
  refine .region ?_
  have c3 : H12.cell g2 (0 + 3) = some (.slice p.a3 c.idn.length c.idn.length) := Mem.of_get at2 3 _ rfl
  refine .m rfl rfl rfl (.fieldAddr fo_31_3_B rfl) ?_
  refine .m rfl rfl rfl (.load on_22_B rfl (by first | assumption | exact Mem.of_get at2 3 _ rfl)) ?_
  refine .m rfl rfl rfl (.move rfl) ?_
  refine .call rfl rfl rfl rfl @Try.call19 rfl (markInt64S_c) ?_
  rintro _ H16 ⟨rfl, mk16⟩
  have sm16 := mk16.stm
  have nx_H16 := sm16.nx
  replace at2 := sm16.same _ _ (by omega) at2
  replace w1 := w1.stm sm16
  replace w2 := w2.stm sm16
  replace w3 := w3.stm sm16
  replace w4 := w4.stm sm16
  clear mm2
  have mm2 : MemN _ _ _ _ _ := ⟨rfl, Mem.of_get at2⟩
  refine .m rfl rfl rfl (.assign rfl) ?_
  refine .nil ?_
  refine hK4 _ _ ?_
  refine .seq (fun K5 hK5 => ?_)
  refine .region ?_
  have c4 : H16.cell g2 (0 + 4) = some (.slice p.a4 c.comp.length c.comp.length) := Mem.of_get at2 4 _ rfl
  refine .m rfl rfl rfl (.fieldAddr fo_31_4_B rfl) ?_
  refine .m rfl rfl rfl (.load on_23_B rfl (by first | assumption | exact Mem.of_get at2 4 _ rfl)) ?_
  refine .m rfl rfl rfl (.move rfl) ?_
  refine .call rfl rfl rfl rfl @Try.call14 rfl (markInt64SS_c) ?_
  rintro _ H20 ⟨rfl, mk20⟩
  have sm20 := mk20.stm
  have nx_H20 := sm20.nx
  replace at2 := sm20.same _ _ (by omega) at2
  replace w1 := w1.stm sm20
  replace w2 := w2.stm sm20
  replace w3 := w3.stm sm20
  replace w4 := w4.stm sm20
  clear mm2
  have mm2 : MemN _ _ _ _ _ := ⟨rfl, Mem.of_get at2⟩
  refine .m rfl rfl rfl (.assign rfl) ?_
  refine .nil ?_
  refine hK5 _ _ ?_
  refine .seq (fun K6 hK6 => ?_)
  refine .region ?_
  refine .m rfl rfl rfl (.move rfl) ?_
  refine .m rfl rfl rfl (.assign rfl) ?_
  refine .nil ?_
  refine hK6 _ _ ?_
  refine .ret ?_
  -- leaf e1
  refine hret _ _ ?_
  refine ⟨_, rfl, ?_⟩
  exact ⟨by rw [ht]; congr 1; omega, .le_left le2 (mk8.app' (mk12.app' (mk16.app' mk20 (by simp [lvSum])) (by simp [lvSum])) (by simp [lvSum]))⟩
theorem markFunctor_c {c : Fun} {p : FunP} {lo hi : Nat} {k : Int} {H : GHeap} (w : FunW lo hi H c p := by assumption) (hs : c.Small := by assumption) (hk : 0 ≤ k := by omega) (hk' : k + c.total ≤ 9223372036854775000 := by omega) (hhi : hi ≤ H.next := by omega) :
    GCalls Try.prog 13 [.agg (c.cells p).toArray, .int .i64 k] H (fun v H' => v = .int .i64 (k + c.total) ∧ Marked lo hi H H' (c.leaves p) k) := by
  obtain ⟨w1, w2, w3, w4⟩ := w
  have ht : c.total = c.s.total + (c.t.total + (c.ob.length + c.ar.length)) := rfl
  obtain ⟨s1, s2, s3, s4⟩ := hs
  refine GCalls.body (N := 22) (rs := [.tmp 4]) Try.func13 rfl rfl rfl rfl (fun Qx hret hend => ?_)
  refine .forget (fr' := [(0, some _), (1, some _)]) ⟨rfl, rfl, trivial⟩ ?_
  refine .seq (fun K1 hK1 => ?_)
  refine .region ?_
  refine .r rfl rfl rfl (.boxR rfl sz_33_E rfl) ?_
  rintro _ H2 ⟨g2, rfl, le2, ge2, at2⟩
  have nx_H2 := le2.1
  have lt_at2 := GHeap.lt_of_get at2
  have mm2 : MemN _ _ _ _ _ := ⟨rfl, Mem.of_get at2⟩
  replace w1 := w1.stm (.of_le le2)
  replace w2 := w2.stm (.of_le le2)
  replace w3 := w3.stm (.of_le le2)
  replace w4 := w4.stm (.of_le le2)
  refine .m rfl rfl rfl (.assign rfl) ?_
  refine .nil ?_
  refine hK1 _ _ ?_
  refine .seq (fun K2 hK2 => ?_)
  refine .region ?_
  have m1 : MemN H2 g2 (0 + 0) 5 (c.s.cells p.s) := ⟨rfl, Mem.left (bs := c.t.cells p.t ++ _) (Mem.of_get at2)⟩
  refine .m rfl rfl rfl (.fieldAddr fo_33_0_E rfl) ?_
  refine .m rfl rfl rfl (.loadM ag_31_D rfl (by assumption)) ?_
  refine .m rfl rfl rfl (.move rfl) ?_
  refine .call rfl rfl rfl rfl @Try.call40 rfl (markCategory_c) ?_
  rintro _ H8 ⟨rfl, mk8⟩
  have sm8 := mk8.stm
  have nx_H8 := sm8.nx
  replace at2 := sm8.same _ _ (by omega) at2
  replace w1 := w1.stm sm8
  replace w2 := w2.stm sm8
  replace w3 := w3.stm sm8
  replace w4 := w4.stm sm8
  clear mm2
  have mm2 : MemN _ _ _ _ _ := ⟨rfl, Mem.of_get at2⟩
  refine .m rfl rfl rfl (.assign rfl) ?_
  refine .nil ?_
  refine hK2 _ _ ?_
  refine .seq (fun K3 hK3 => ?_)
  refine .region ?_
  have hx : Mem H8 g2 0 (c.s.cells p.s ++ (c.t.cells p.t ++ [.slice p.b1 c.ob.length c.ob.length, .slice p.b2 c.ar.length c.ar.length])) := Mem.of_get at2
  have m2 : MemN H8 g2 (0 + 5) 5 (c.t.cells p.t) := ⟨rfl, (hx.right (n := 5) rfl).left⟩
  refine .m rfl rfl rfl (.fieldAddr fo_33_1_E rfl) ?_
  refine .m rfl rfl rfl (.loadM ag_31_D rfl (by assumption)) ?_
  refine .m rfl rfl rfl (.move rfl) ?_
  refine .call rfl rfl rfl rfl @Try.call40 rfl (markCategory_c) ?_
  rintro _ H12 ⟨rfl, mk12⟩
  have sm12 := mk12.stm
  have nx_H12 := sm12.nx
  replace at2 := sm12.same _ _ (by omega) at2
  replace w1 := w1.stm sm12
  replace w2 := w2.stm sm12
  replace w3 := w3.stm sm12
  replace w4 := w4.stm sm12
  clear mm2
  have mm2 : MemN _ _ _ _ _ := ⟨rfl, Mem.of_get at2⟩
  refine .m rfl rfl rfl (.assign rfl) ?_
  refine .nil ?_
  refine hK3 _ _ ?_
  refine .seq (fun K4 hK4 => ?_)
  refine .region ?_
  have c1 : H12.cell g2 (0 + 10) = some (.slice p.b1 c.ob.length c.ob.length) := Mem.of_get at2 10 _ rfl
  refine .m rfl rfl rfl (.fieldAddr fo_33_2_E rfl) ?_
  refine .m rfl rfl rfl (.load on_22_B rfl (by first | assumption | exact Mem.of_get at2 10 _ rfl)) ?_
  refine .m rfl rfl rfl (.move rfl) ?_
  refine .call rfl rfl rfl rfl @Try.call19 rfl (markInt64S_c) ?_
  rintro _ H16 ⟨rfl, mk16⟩
  have sm16 := mk16.stm
  have nx_H16 := sm16.nx
  replace at2 := sm16.same _ _ (by omega) at2
  replace w1 := w1.stm sm16
  replace w2 := w2.stm sm16
  replace w3 := w3.stm sm16
  replace w4 := w4.stm sm16
  clear mm2
  have mm2 : MemN _ _ _ _ _ := ⟨rfl, Mem.of_get at2⟩
  refine .m rfl rfl rfl (.assign rfl) ?_
  refine .nil ?_
  refine hK4 _ _ ?_
  refine .seq (fun K5 hK5 => ?_)
  refine .region ?_
  have c1 : H16.cell g2 (0 + 11) = some (.slice p.b2 c.ar.length c.ar.length) := Mem.of_get at2 11 _ rfl
  refine .m rfl rfl rfl (.fieldAddr fo_33_3_E rfl) ?_
  refine .m rfl rfl rfl (.load on_22_B rfl (by first | assumption | exact Mem.of_get at2 11 _ rfl)) ?_
  refine .m rfl rfl rfl (.move rfl) ?_
  refine .call rfl rfl rfl rfl @Try.call19 rfl (markInt64S_c) ?_
  rintro _ H20 ⟨rfl, mk20⟩
  have sm20 := mk20.stm
  have nx_H20 := sm20.nx
  replace at2 := sm20.same _ _ (by omega) at2
  replace w1 := w1.stm sm20
  replace w2 := w2.stm sm20
  replace w3 := w3.stm sm20
  replace w4 := w4.stm sm20
  clear mm2
  have mm2 : MemN _ _ _ _ _ := ⟨rfl, Mem.of_get at2⟩
  refine .m rfl rfl rfl (.assign rfl) ?_
  refine .nil ?_
  refine hK5 _ _ ?_
  refine .seq (fun K6 hK6 => ?_)
  refine .region ?_
  refine .m rfl rfl rfl (.move rfl) ?_
  refine .m rfl rfl rfl (.assign rfl) ?_
  refine .nil ?_
  refine hK6 _ _ ?_
  refine .ret ?_
  -- leaf e1
  refine hret _ _ ?_
  refine ⟨_, rfl, ?_⟩
  exact ⟨by rw [ht]; congr 1; omega, .le_left le2 (mk8.app' (mk12.app' (mk16.app' mk20 (by simp [lvSum])) (by rw [Cat.lvSum_leaves])) (by rw [Cat.lvSum_leaves]))⟩
end Go.Proofs.Ytnohkokoimmclaa
/- The law of FindNaturalIsomorphism. No condition but those of each statement. -/
namespace Go.Proofs.Ytnohkokoimmclaa
open Go Go.GL Go.RowKit Go.Proofs
theorem ag_27_LFindNaturalIsomorphism : aggT Try.prog 27 = some 12 := by kernel_rfl
set_option maxHeartbeats 40000000 in
theorem lawFindNaturalIsomorphism_c {f : Fun} {p : FunP} {k : Fun} {q : FunP} {H : GHeap} (h0 : f.In H p) (w0 : f.Wide) (h1 : k.In H q) (w1 : k.Wide) :
    GCalls Try.prog 4 [.agg (f.cells p).toArray, .agg (k.cells q).toArray] H (fun v _ => v = .bool true) := by
  refine GCalls.body (N := 119) (rs := [.tmp 4]) Try.func4 rfl rfl rfl rfl (fun Qx hret hend => ?_)
  refine .forget (fr' := [(0, some _), (1, some _)]) ⟨rfl, rfl, trivial⟩ ?_
  have hle := GHeap.Le.refl H
  have base_h0 := h0
  have base_h1 := h1
  refine .seq (fun K1 hK1 => ?_)
  refine .region ?_
  refine .r rfl rfl rfl (.boxR rfl sz_27_E rfl) ?_
  rintro _ H2 ⟨g2, rfl, le2, ge2, at2⟩
  have nx_H2 := le2.1
  replace hle := hle.trans le2
  have lt_at2 := GHeap.lt_of_get at2
  replace h0 := base_h0.mono hle
  replace h1 := base_h1.mono hle
  have hb2 : Fun.At _ g2 0 f p := ⟨Mem.of_get at2, h0⟩
  obtain ⟨fs2, ft2, c102, c112, j12, j22⟩ := hb2.get
  have hm2 : MemN _ _ _ _ _ := ⟨rfl, hb2.1⟩
  have hi2 := hb2.2
  have hms2 : MemN _ _ _ _ _ := ⟨rfl, fs2.1⟩
  have his2 := fs2.2
  have hmt2 : MemN _ _ _ _ _ := ⟨rfl, ft2.1⟩
  have hit2 := ft2.2
  refine .r rfl rfl rfl (.boxR rfl sz_27_E rfl) ?_
  rintro _ H3 ⟨g3, rfl, le3, ge3, at3⟩
  have nx_H3 := le3.1
  replace hle := hle.trans le3
  replace at2 := le3.2 _ _ at2
  have lt_at3 := GHeap.lt_of_get at3
  replace h0 := base_h0.mono hle
  replace h1 := base_h1.mono hle
  clear hb2 fs2 ft2 c102 c112 j12 j22 hm2 hi2 hms2 his2 hmt2 hit2
  have hb2 : Fun.At _ g2 0 f p := ⟨Mem.of_get at2, h0⟩
  obtain ⟨fs2, ft2, c102, c112, j12, j22⟩ := hb2.get
  have hm2 : MemN _ _ _ _ _ := ⟨rfl, hb2.1⟩
  have hi2 := hb2.2
  have hms2 : MemN _ _ _ _ _ := ⟨rfl, fs2.1⟩
  have his2 := fs2.2
  have hmt2 : MemN _ _ _ _ _ := ⟨rfl, ft2.1⟩
  have hit2 := ft2.2
  have hb3 : Fun.At _ g3 0 k q := ⟨Mem.of_get at3, h1⟩
  obtain ⟨fs3, ft3, c103, c113, j13, j23⟩ := hb3.get
  have hm3 : MemN _ _ _ _ _ := ⟨rfl, hb3.1⟩
  have hi3 := hb3.2
  have hms3 : MemN _ _ _ _ _ := ⟨rfl, fs3.1⟩
  have his3 := fs3.2
  have hmt3 : MemN _ _ _ _ _ := ⟨rfl, ft3.1⟩
  have hit3 := ft3.2
  refine .m rfl rfl rfl (.assign rfl) ?_
  refine .nil ?_
  refine hK1 _ _ ?_
  refine .seq (fun K2 hK2 => ?_)
  refine .region ?_
  refine .m rfl rfl rfl (.assign rfl) ?_
  refine .nil ?_
  refine hK2 _ _ ?_
  refine .seq (fun K3 hK3 => ?_)
  refine .region ?_
  refine .m rfl rfl rfl (.loadM ag_27_LFindNaturalIsomorphism rfl ⟨rfl, Mem.of_get at2⟩) ?_
  refine .m rfl rfl rfl (.move rfl) ?_
  refine .call rfl rfl rfl rfl @Try.call7 rfl (szFunctor_c) ?_
  rintro _ _ ⟨heq, lf19, rfl, z119, z219, z319⟩
  obtain rfl := heq.symm
  refine .m rfl rfl rfl (.assign rfl) ?_
  refine .nil ?_
  refine hK3 _ _ ?_
  refine .seq (fun K4 hK4 => ?_)
  refine .seq (fun K5 hK5 => ?_)
  refine .region ?_
  refine .m rfl rfl rfl (.move rfl) ?_
  refine .m rfl rfl rfl (.cmp rfl rfl rfl) ?_
  refine .nil ?_
  refine hK5 _ _ ?_
  refine .cond rfl (fun h21 => ?_) (fun h21 => ?_)
  ·
   try simp only [sps] at h21
   refine .seq (fun K6 hK6 => ?_)
   refine .region ?_
   refine .m rfl rfl rfl (.assign rfl) ?_
   refine .nil ?_
   refine hK6 _ _ ?_
   refine .ret ?_
   -- leaf e1
   refine hret _ _ ?_
   refine ⟨_, rfl, ?_⟩
   first
   | exact rfl
   | exact absurd trivial (by assumption)
   | contradiction
   | (exfalso; omega)
  ·
   try simp only [sps] at h21
   have hsm19 := z319 (by omega)
   have tb19 := hsm19.tot
   refine .skip ?_
   refine hK4 _ _ ?_
   refine .seq (fun K7 hK7 => ?_)
   refine .region ?_
   refine .m rfl rfl rfl (.loadM ag_27_LFindNaturalIsomorphism rfl ⟨rfl, Mem.of_get at3⟩) ?_
   refine .m rfl rfl rfl (.move rfl) ?_
   refine .call rfl rfl rfl rfl @Try.call7 rfl (szFunctor_c) ?_
   rintro _ _ ⟨heq, lf24, rfl, z124, z224, z324⟩
   obtain rfl := heq.symm
   refine .m rfl rfl rfl (.assign rfl) ?_
   refine .nil ?_
   refine hK7 _ _ ?_
   refine .seq (fun K8 hK8 => ?_)
   refine .seq (fun K9 hK9 => ?_)
   refine .region ?_
   refine .m rfl rfl rfl (.move rfl) ?_
   refine .m rfl rfl rfl (.cmp rfl rfl rfl) ?_
   refine .nil ?_
   refine hK9 _ _ ?_
   refine .cond rfl (fun h26 => ?_) (fun h26 => ?_)
   ·
    try simp only [sps] at h26
    refine .seq (fun K10 hK10 => ?_)
    refine .region ?_
    refine .m rfl rfl rfl (.assign rfl) ?_
    refine .nil ?_
    refine hK10 _ _ ?_
    refine .ret ?_
    -- leaf e2
    refine hret _ _ ?_
    refine ⟨_, rfl, ?_⟩
    first
    | exact rfl
    | exact absurd trivial (by assumption)
    | contradiction
    | (exfalso; omega)
   ·
    simp only [sps] at h26
    have hcl := f.fn_len k
    have hsm24 := z324 (by omega)
    have tb24 := hsm24.tot
    refine .skip ?_
    refine hK8 _ _ ?_
    refine .seq (fun K11 hK11 => ?_)
    refine .regionD mixed_orders_B (.q 0 (.q 2 (.c 1 1 (.c 3 0 (.c 4 0 (.q 5 (.q 6 (.q 7 (.q 8 (.q 9 (.done))))))))))) (by kernel_rfl) ?_
    refine .m rfl rfl rfl rfl (.refl _) (.loadM ag_27_LFindNaturalIsomorphism rfl ⟨rfl, Mem.of_get at2⟩) ?_
    refine .m rfl rfl rfl rfl (.refl _) (.loadM ag_27_LFindNaturalIsomorphism rfl ⟨rfl, Mem.of_get at3⟩) ?_
    refine .call1 rfl rfl rfl rfl rfl @Try.call9 rfl (toFunctor_c) ?_
    rintro _ H29 ⟨le29, p29, rfl, v29⟩
    have hbl := le29
    refine ⟨hbl, ?_⟩
    have nx_H29 := le29.1
    replace hle := hle.trans le29
    replace at2 := le29.2 _ _ at2
    replace at3 := le29.2 _ _ at3
    have bs_v29 := v29
    have lv_v29 : Keep H3.next H29 H29 := fun _ _ _ h => h
    replace h0 := base_h0.mono hle
    replace h1 := base_h1.mono hle
    clear hb2 fs2 ft2 c102 c112 j12 j22 hm2 hi2 hms2 his2 hmt2 hit2
    have hb2 : Fun.At _ g2 0 f p := ⟨Mem.of_get at2, h0⟩
    obtain ⟨fs2, ft2, c102, c112, j12, j22⟩ := hb2.get
    have hm2 : MemN _ _ _ _ _ := ⟨rfl, hb2.1⟩
    have hi2 := hb2.2
    have hms2 : MemN _ _ _ _ _ := ⟨rfl, fs2.1⟩
    have his2 := fs2.2
    have hmt2 : MemN _ _ _ _ _ := ⟨rfl, ft2.1⟩
    have hit2 := ft2.2
    clear hb3 fs3 ft3 c103 c113 j13 j23 hm3 hi3 hms3 his3 hmt3 hit3
    have hb3 : Fun.At _ g3 0 k q := ⟨Mem.of_get at3, h1⟩
    obtain ⟨fs3, ft3, c103, c113, j13, j23⟩ := hb3.get
    have hm3 : MemN _ _ _ _ _ := ⟨rfl, hb3.1⟩
    have hi3 := hb3.2
    have hms3 : MemN _ _ _ _ _ := ⟨rfl, fs3.1⟩
    have his3 := fs3.2
    have hmt3 : MemN _ _ _ _ _ := ⟨rfl, ft3.1⟩
    have hit3 := ft3.2
    have i29 := v29.inn
    refine .call0 rfl rfl rfl rfl rfl @Try.call9 rfl (toFunctor_c) ?_
    rintro _ H31 ⟨le31, p31, rfl, v31⟩
    have nx_H31 := le31.1
    replace hle := hle.trans le31
    replace at2 := le31.2 _ _ at2
    replace at3 := le31.2 _ _ at3
    replace lv_v29 := Keep.le lv_v29 le31
    replace v29 := bs_v29.keep lv_v29 (Nat.le_refl _)
    have bs_v31 := v31
    have lv_v31 : Keep H29.next H31 H31 := fun _ _ _ h => h
    replace h0 := base_h0.mono hle
    replace h1 := base_h1.mono hle
    clear hb2 fs2 ft2 c102 c112 j12 j22 hm2 hi2 hms2 his2 hmt2 hit2
    have hb2 : Fun.At _ g2 0 f p := ⟨Mem.of_get at2, h0⟩
    obtain ⟨fs2, ft2, c102, c112, j12, j22⟩ := hb2.get
    have hm2 : MemN _ _ _ _ _ := ⟨rfl, hb2.1⟩
    have hi2 := hb2.2
    have hms2 : MemN _ _ _ _ _ := ⟨rfl, fs2.1⟩
    have his2 := fs2.2
    have hmt2 : MemN _ _ _ _ _ := ⟨rfl, ft2.1⟩
    have hit2 := ft2.2
    clear hb3 fs3 ft3 c103 c113 j13 j23 hm3 hi3 hms3 his3 hmt3 hit3
    have hb3 : Fun.At _ g3 0 k q := ⟨Mem.of_get at3, h1⟩
    obtain ⟨fs3, ft3, c103, c113, j13, j23⟩ := hb3.get
    have hm3 : MemN _ _ _ _ _ := ⟨rfl, hb3.1⟩
    have hi3 := hb3.2
    have hms3 : MemN _ _ _ _ _ := ⟨rfl, fs3.1⟩
    have his3 := fs3.2
    have hmt3 : MemN _ _ _ _ _ := ⟨rfl, ft3.1⟩
    have hit3 := ft3.2
    clear i29
    have i29 := v29.inn
    have i31 := v31.inn
    refine .call0 rfl rfl rfl rfl rfl @Try.call16 rfl (specFindNaturalIsomorphism_c) ?_
    rintro _ H32 ⟨le32, a32, rfl, v32⟩
    have nx_H32 := le32.1
    replace hle := hle.trans le32
    replace at2 := le32.2 _ _ at2
    replace at3 := le32.2 _ _ at3
    replace lv_v29 := Keep.le lv_v29 le32
    replace v29 := bs_v29.keep lv_v29 (Nat.le_refl _)
    replace lv_v31 := Keep.le lv_v31 le32
    replace v31 := bs_v31.keep lv_v31 (Nat.le_refl _)
    have bs_v32 := v32
    have lv_v32 : Keep H31.next H32 H32 := fun _ _ _ h => h
    replace h0 := base_h0.mono hle
    replace h1 := base_h1.mono hle
    clear hb2 fs2 ft2 c102 c112 j12 j22 hm2 hi2 hms2 his2 hmt2 hit2
    have hb2 : Fun.At _ g2 0 f p := ⟨Mem.of_get at2, h0⟩
    obtain ⟨fs2, ft2, c102, c112, j12, j22⟩ := hb2.get
    have hm2 : MemN _ _ _ _ _ := ⟨rfl, hb2.1⟩
    have hi2 := hb2.2
    have hms2 : MemN _ _ _ _ _ := ⟨rfl, fs2.1⟩
    have his2 := fs2.2
    have hmt2 : MemN _ _ _ _ _ := ⟨rfl, ft2.1⟩
    have hit2 := ft2.2
    clear hb3 fs3 ft3 c103 c113 j13 j23 hm3 hi3 hms3 his3 hmt3 hit3
    have hb3 : Fun.At _ g3 0 k q := ⟨Mem.of_get at3, h1⟩
    obtain ⟨fs3, ft3, c103, c113, j13, j23⟩ := hb3.get
    have hm3 : MemN _ _ _ _ _ := ⟨rfl, hb3.1⟩
    have hi3 := hb3.2
    have hms3 : MemN _ _ _ _ _ := ⟨rfl, fs3.1⟩
    have his3 := fs3.2
    have hmt3 : MemN _ _ _ _ _ := ⟨rfl, ft3.1⟩
    have hit3 := ft3.2
    clear i29
    have i29 := v29.inn
    clear i31
    have i31 := v31.inn
    have i32 := v32.ints
    refine .m rfl rfl rfl rfl (.refl _) (.move rfl) ?_
    refine .m rfl rfl rfl rfl (.refl _) (.extract rfl rfl) ?_
    refine .m rfl rfl rfl rfl (.refl _) (.extract rfl rfl) ?_
    refine .m rfl rfl rfl rfl (.refl _) (.assign rfl) ?_
    refine .m rfl rfl rfl rfl (.refl _) (.assign rfl) ?_
    refine .done ?_
    refine hK11 _ _ ?_
    refine .seq (fun K12 hK12 => ?_)
    refine .region ?_
    refine .m rfl rfl rfl (.loadM ag_27_LFindNaturalIsomorphism rfl ⟨rfl, Mem.of_get at2⟩) ?_
    refine .call rfl rfl rfl rfl @Try.call9 rfl (toFunctor_c) ?_
    rintro _ H36 ⟨le36, p36, rfl, v36⟩
    have nx_H36 := le36.1
    replace hle := hle.trans le36
    replace at2 := le36.2 _ _ at2
    replace at3 := le36.2 _ _ at3
    replace lv_v29 := Keep.le lv_v29 le36
    replace v29 := bs_v29.keep lv_v29 (Nat.le_refl _)
    replace lv_v31 := Keep.le lv_v31 le36
    replace v31 := bs_v31.keep lv_v31 (Nat.le_refl _)
    replace lv_v32 := Keep.le lv_v32 le36
    replace v32 := bs_v32.keep lv_v32 (Nat.le_refl _)
    have bs_v36 := v36
    have lv_v36 : Keep H32.next H36 H36 := fun _ _ _ h => h
    replace h0 := base_h0.mono hle
    replace h1 := base_h1.mono hle
    clear hb2 fs2 ft2 c102 c112 j12 j22 hm2 hi2 hms2 his2 hmt2 hit2
    have hb2 : Fun.At _ g2 0 f p := ⟨Mem.of_get at2, h0⟩
    obtain ⟨fs2, ft2, c102, c112, j12, j22⟩ := hb2.get
    have hm2 : MemN _ _ _ _ _ := ⟨rfl, hb2.1⟩
    have hi2 := hb2.2
    have hms2 : MemN _ _ _ _ _ := ⟨rfl, fs2.1⟩
    have his2 := fs2.2
    have hmt2 : MemN _ _ _ _ _ := ⟨rfl, ft2.1⟩
    have hit2 := ft2.2
    clear hb3 fs3 ft3 c103 c113 j13 j23 hm3 hi3 hms3 his3 hmt3 hit3
    have hb3 : Fun.At _ g3 0 k q := ⟨Mem.of_get at3, h1⟩
    obtain ⟨fs3, ft3, c103, c113, j13, j23⟩ := hb3.get
    have hm3 : MemN _ _ _ _ _ := ⟨rfl, hb3.1⟩
    have hi3 := hb3.2
    have hms3 : MemN _ _ _ _ _ := ⟨rfl, fs3.1⟩
    have his3 := fs3.2
    have hmt3 : MemN _ _ _ _ _ := ⟨rfl, ft3.1⟩
    have hit3 := ft3.2
    clear i29
    have i29 := v29.inn
    clear i31
    have i31 := v31.inn
    clear i32
    have i32 := v32.ints
    have i36 := v36.inn
    refine .r rfl rfl rfl (.allocR rfl ze_33_E rfl) ?_
    rintro _ H8 ⟨g8, rfl, le8, ge8, at8⟩
    have nx_H8 := le8.1
    replace hle := hle.trans le8
    replace at2 := le8.2 _ _ at2
    replace at3 := le8.2 _ _ at3
    replace lv_v29 := Keep.le lv_v29 le8
    replace v29 := bs_v29.keep lv_v29 (Nat.le_refl _)
    replace lv_v31 := Keep.le lv_v31 le8
    replace v31 := bs_v31.keep lv_v31 (Nat.le_refl _)
    replace lv_v32 := Keep.le lv_v32 le8
    replace v32 := bs_v32.keep lv_v32 (Nat.le_refl _)
    replace lv_v36 := Keep.le lv_v36 le8
    replace v36 := bs_v36.keep lv_v36 (Nat.le_refl _)
    have lt_at8 := GHeap.lt_of_get at8
    replace h0 := base_h0.mono hle
    replace h1 := base_h1.mono hle
    clear hb2 fs2 ft2 c102 c112 j12 j22 hm2 hi2 hms2 his2 hmt2 hit2
    have hb2 : Fun.At _ g2 0 f p := ⟨Mem.of_get at2, h0⟩
    obtain ⟨fs2, ft2, c102, c112, j12, j22⟩ := hb2.get
    have hm2 : MemN _ _ _ _ _ := ⟨rfl, hb2.1⟩
    have hi2 := hb2.2
    have hms2 : MemN _ _ _ _ _ := ⟨rfl, fs2.1⟩
    have his2 := fs2.2
    have hmt2 : MemN _ _ _ _ _ := ⟨rfl, ft2.1⟩
    have hit2 := ft2.2
    clear hb3 fs3 ft3 c103 c113 j13 j23 hm3 hi3 hms3 his3 hmt3 hit3
    have hb3 : Fun.At _ g3 0 k q := ⟨Mem.of_get at3, h1⟩
    obtain ⟨fs3, ft3, c103, c113, j13, j23⟩ := hb3.get
    have hm3 : MemN _ _ _ _ _ := ⟨rfl, hb3.1⟩
    have hi3 := hb3.2
    have hms3 : MemN _ _ _ _ _ := ⟨rfl, fs3.1⟩
    have his3 := fs3.2
    have hmt3 : MemN _ _ _ _ _ := ⟨rfl, ft3.1⟩
    have hit3 := ft3.2
    clear i29
    have i29 := v29.inn
    clear i31
    have i31 := v31.inn
    clear i32
    have i32 := v32.ints
    clear i36
    have i36 := v36.inn
    refine .r0 rfl rfl (.fillR rfl sz_33_E rfl rfl rfl rfl (by assumption) (by first | rfl | exact Nat.le_of_ble_eq_true rfl | simp)) ?_
    rintro _ H9003 ⟨rfl, st9003, at9003⟩
    have nx_H9003 := st9003.nx
    replace hle := hle.st st9003 (fun k hk => ⟨by omega, trivial⟩)
    replace at2 := st9003.same _ _ ⟨by omega, trivial⟩ at2
    replace at3 := st9003.same _ _ ⟨by omega, trivial⟩ at3
    replace lv_v29 := Keep.st lv_v29 st9003 (fun k hb hk => ⟨by omega, trivial⟩)
    replace v29 := bs_v29.keep lv_v29 (Nat.le_refl _)
    replace lv_v31 := Keep.st lv_v31 st9003 (fun k hb hk => ⟨by omega, trivial⟩)
    replace v31 := bs_v31.keep lv_v31 (Nat.le_refl _)
    replace lv_v32 := Keep.st lv_v32 st9003 (fun k hb hk => ⟨by omega, trivial⟩)
    replace v32 := bs_v32.keep lv_v32 (Nat.le_refl _)
    replace lv_v36 := Keep.st lv_v36 st9003 (fun k hb hk => ⟨by omega, trivial⟩)
    replace v36 := bs_v36.keep lv_v36 (Nat.le_refl _)
    have lt_at9003 := GHeap.lt_of_get at9003
    replace h0 := base_h0.mono hle
    replace h1 := base_h1.mono hle
    clear hb2 fs2 ft2 c102 c112 j12 j22 hm2 hi2 hms2 his2 hmt2 hit2
    have hb2 : Fun.At _ g2 0 f p := ⟨Mem.of_get at2, h0⟩
    obtain ⟨fs2, ft2, c102, c112, j12, j22⟩ := hb2.get
    have hm2 : MemN _ _ _ _ _ := ⟨rfl, hb2.1⟩
    have hi2 := hb2.2
    have hms2 : MemN _ _ _ _ _ := ⟨rfl, fs2.1⟩
    have his2 := fs2.2
    have hmt2 : MemN _ _ _ _ _ := ⟨rfl, ft2.1⟩
    have hit2 := ft2.2
    clear hb3 fs3 ft3 c103 c113 j13 j23 hm3 hi3 hms3 his3 hmt3 hit3
    have hb3 : Fun.At _ g3 0 k q := ⟨Mem.of_get at3, h1⟩
    obtain ⟨fs3, ft3, c103, c113, j13, j23⟩ := hb3.get
    have hm3 : MemN _ _ _ _ _ := ⟨rfl, hb3.1⟩
    have hi3 := hb3.2
    have hms3 : MemN _ _ _ _ _ := ⟨rfl, fs3.1⟩
    have his3 := fs3.2
    have hmt3 : MemN _ _ _ _ _ := ⟨rfl, ft3.1⟩
    have hit3 := ft3.2
    clear i29
    have i29 := v29.inn
    clear i31
    have i31 := v31.inn
    clear i32
    have i32 := v32.ints
    clear i36
    have i36 := v36.inn
    have mm9003 : MemN _ _ _ _ _ := ⟨rfl, Mem.of_get at9003⟩
    refine .nil ?_
    refine hK12 _ _ ?_
    refine .seq (fun K13 hK13 => ?_)
    refine .region ?_
    refine .m rfl rfl rfl (.loadM ag_27_LFindNaturalIsomorphism rfl ⟨rfl, Mem.of_get at3⟩) ?_
    refine .call rfl rfl rfl rfl @Try.call9 rfl (toFunctor_c) ?_
    rintro _ H38 ⟨le38, p38, rfl, v38⟩
    have nx_H38 := le38.1
    replace hle := hle.trans le38
    replace at2 := le38.2 _ _ at2
    replace at3 := le38.2 _ _ at3
    replace at9003 := le38.2 _ _ at9003
    replace lv_v29 := Keep.le lv_v29 le38
    replace v29 := bs_v29.keep lv_v29 (Nat.le_refl _)
    replace lv_v31 := Keep.le lv_v31 le38
    replace v31 := bs_v31.keep lv_v31 (Nat.le_refl _)
    replace lv_v32 := Keep.le lv_v32 le38
    replace v32 := bs_v32.keep lv_v32 (Nat.le_refl _)
    replace lv_v36 := Keep.le lv_v36 le38
    replace v36 := bs_v36.keep lv_v36 (Nat.le_refl _)
    have bs_v38 := v38
    have lv_v38 : Keep H9003.next H38 H38 := fun _ _ _ h => h
    replace h0 := base_h0.mono hle
    replace h1 := base_h1.mono hle
    clear hb2 fs2 ft2 c102 c112 j12 j22 hm2 hi2 hms2 his2 hmt2 hit2
    have hb2 : Fun.At _ g2 0 f p := ⟨Mem.of_get at2, h0⟩
    obtain ⟨fs2, ft2, c102, c112, j12, j22⟩ := hb2.get
    have hm2 : MemN _ _ _ _ _ := ⟨rfl, hb2.1⟩
    have hi2 := hb2.2
    have hms2 : MemN _ _ _ _ _ := ⟨rfl, fs2.1⟩
    have his2 := fs2.2
    have hmt2 : MemN _ _ _ _ _ := ⟨rfl, ft2.1⟩
    have hit2 := ft2.2
    clear hb3 fs3 ft3 c103 c113 j13 j23 hm3 hi3 hms3 his3 hmt3 hit3
    have hb3 : Fun.At _ g3 0 k q := ⟨Mem.of_get at3, h1⟩
    obtain ⟨fs3, ft3, c103, c113, j13, j23⟩ := hb3.get
    have hm3 : MemN _ _ _ _ _ := ⟨rfl, hb3.1⟩
    have hi3 := hb3.2
    have hms3 : MemN _ _ _ _ _ := ⟨rfl, fs3.1⟩
    have his3 := fs3.2
    have hmt3 : MemN _ _ _ _ _ := ⟨rfl, ft3.1⟩
    have hit3 := ft3.2
    clear i29
    have i29 := v29.inn
    clear i31
    have i31 := v31.inn
    clear i32
    have i32 := v32.ints
    clear i36
    have i36 := v36.inn
    clear mm9003
    have mm9003 : MemN _ _ _ _ _ := ⟨rfl, Mem.of_get at9003⟩
    have i38 := v38.inn
    refine .r rfl rfl rfl (.allocR rfl ze_33_E rfl) ?_
    rintro _ H9 ⟨g9, rfl, le9, ge9, at9⟩
    have nx_H9 := le9.1
    replace hle := hle.trans le9
    replace at2 := le9.2 _ _ at2
    replace at3 := le9.2 _ _ at3
    replace at9003 := le9.2 _ _ at9003
    replace lv_v29 := Keep.le lv_v29 le9
    replace v29 := bs_v29.keep lv_v29 (Nat.le_refl _)
    replace lv_v31 := Keep.le lv_v31 le9
    replace v31 := bs_v31.keep lv_v31 (Nat.le_refl _)
    replace lv_v32 := Keep.le lv_v32 le9
    replace v32 := bs_v32.keep lv_v32 (Nat.le_refl _)
    replace lv_v36 := Keep.le lv_v36 le9
    replace v36 := bs_v36.keep lv_v36 (Nat.le_refl _)
    replace lv_v38 := Keep.le lv_v38 le9
    replace v38 := bs_v38.keep lv_v38 (Nat.le_refl _)
    have lt_at9 := GHeap.lt_of_get at9
    replace h0 := base_h0.mono hle
    replace h1 := base_h1.mono hle
    clear hb2 fs2 ft2 c102 c112 j12 j22 hm2 hi2 hms2 his2 hmt2 hit2
    have hb2 : Fun.At _ g2 0 f p := ⟨Mem.of_get at2, h0⟩
    obtain ⟨fs2, ft2, c102, c112, j12, j22⟩ := hb2.get
    have hm2 : MemN _ _ _ _ _ := ⟨rfl, hb2.1⟩
    have hi2 := hb2.2
    have hms2 : MemN _ _ _ _ _ := ⟨rfl, fs2.1⟩
    have his2 := fs2.2
    have hmt2 : MemN _ _ _ _ _ := ⟨rfl, ft2.1⟩
    have hit2 := ft2.2
    clear hb3 fs3 ft3 c103 c113 j13 j23 hm3 hi3 hms3 his3 hmt3 hit3
    have hb3 : Fun.At _ g3 0 k q := ⟨Mem.of_get at3, h1⟩
    obtain ⟨fs3, ft3, c103, c113, j13, j23⟩ := hb3.get
    have hm3 : MemN _ _ _ _ _ := ⟨rfl, hb3.1⟩
    have hi3 := hb3.2
    have hms3 : MemN _ _ _ _ _ := ⟨rfl, fs3.1⟩
    have his3 := fs3.2
    have hmt3 : MemN _ _ _ _ _ := ⟨rfl, ft3.1⟩
    have hit3 := ft3.2
    clear i29
    have i29 := v29.inn
    clear i31
    have i31 := v31.inn
    clear i32
    have i32 := v32.ints
    clear i36
    have i36 := v36.inn
    clear mm9003
    have mm9003 : MemN _ _ _ _ _ := ⟨rfl, Mem.of_get at9003⟩
    clear i38
    have i38 := v38.inn
    refine .r0 rfl rfl (.fillR rfl sz_33_E rfl rfl rfl rfl (by assumption) (by first | rfl | exact Nat.le_of_ble_eq_true rfl | simp)) ?_
    rintro _ H10003 ⟨rfl, st10003, at10003⟩
    have nx_H10003 := st10003.nx
    replace hle := hle.st st10003 (fun k hk => ⟨by omega, trivial⟩)
    replace at2 := st10003.same _ _ ⟨by omega, trivial⟩ at2
    replace at3 := st10003.same _ _ ⟨by omega, trivial⟩ at3
    replace at9003 := st10003.same _ _ ⟨by omega, trivial⟩ at9003
    replace lv_v29 := Keep.st lv_v29 st10003 (fun k hb hk => ⟨by omega, trivial⟩)
    replace v29 := bs_v29.keep lv_v29 (Nat.le_refl _)
    replace lv_v31 := Keep.st lv_v31 st10003 (fun k hb hk => ⟨by omega, trivial⟩)
    replace v31 := bs_v31.keep lv_v31 (Nat.le_refl _)
    replace lv_v32 := Keep.st lv_v32 st10003 (fun k hb hk => ⟨by omega, trivial⟩)
    replace v32 := bs_v32.keep lv_v32 (Nat.le_refl _)
    replace lv_v36 := Keep.st lv_v36 st10003 (fun k hb hk => ⟨by omega, trivial⟩)
    replace v36 := bs_v36.keep lv_v36 (Nat.le_refl _)
    replace lv_v38 := Keep.st lv_v38 st10003 (fun k hb hk => ⟨by omega, trivial⟩)
    replace v38 := bs_v38.keep lv_v38 (Nat.le_refl _)
    have lt_at10003 := GHeap.lt_of_get at10003
    replace h0 := base_h0.mono hle
    replace h1 := base_h1.mono hle
    clear hb2 fs2 ft2 c102 c112 j12 j22 hm2 hi2 hms2 his2 hmt2 hit2
    have hb2 : Fun.At _ g2 0 f p := ⟨Mem.of_get at2, h0⟩
    obtain ⟨fs2, ft2, c102, c112, j12, j22⟩ := hb2.get
    have hm2 : MemN _ _ _ _ _ := ⟨rfl, hb2.1⟩
    have hi2 := hb2.2
    have hms2 : MemN _ _ _ _ _ := ⟨rfl, fs2.1⟩
    have his2 := fs2.2
    have hmt2 : MemN _ _ _ _ _ := ⟨rfl, ft2.1⟩
    have hit2 := ft2.2
    clear hb3 fs3 ft3 c103 c113 j13 j23 hm3 hi3 hms3 his3 hmt3 hit3
    have hb3 : Fun.At _ g3 0 k q := ⟨Mem.of_get at3, h1⟩
    obtain ⟨fs3, ft3, c103, c113, j13, j23⟩ := hb3.get
    have hm3 : MemN _ _ _ _ _ := ⟨rfl, hb3.1⟩
    have hi3 := hb3.2
    have hms3 : MemN _ _ _ _ _ := ⟨rfl, fs3.1⟩
    have his3 := fs3.2
    have hmt3 : MemN _ _ _ _ _ := ⟨rfl, ft3.1⟩
    have hit3 := ft3.2
    clear i29
    have i29 := v29.inn
    clear i31
    have i31 := v31.inn
    clear i32
    have i32 := v32.ints
    clear i36
    have i36 := v36.inn
    clear mm9003
    have mm9003 : MemN _ _ _ _ _ := ⟨rfl, Mem.of_get at9003⟩
    clear i38
    have i38 := v38.inn
    have mm10003 : MemN _ _ _ _ _ := ⟨rfl, Mem.of_get at10003⟩
    refine .nil ?_
    refine hK13 _ _ ?_
    refine .seq (fun K14 hK14 => ?_)
    refine .region ?_
    refine .m rfl rfl rfl (.loadM ag_33_E rfl ⟨rfl, Mem.of_get at9003⟩) ?_
    refine .m rfl rfl rfl (.loadM ag_33_E rfl ⟨rfl, Mem.of_get at10003⟩) ?_
    refine .call rfl rfl rfl rfl @Try.call17 rfl (implFindNaturalIsomorphism_c) ?_
    rintro _ H42 ⟨le42, a42, rfl, v42⟩
    have nx_H42 := le42.1
    replace hle := hle.trans le42
    replace at2 := le42.2 _ _ at2
    replace at3 := le42.2 _ _ at3
    replace at9003 := le42.2 _ _ at9003
    replace at10003 := le42.2 _ _ at10003
    replace lv_v29 := Keep.le lv_v29 le42
    replace v29 := bs_v29.keep lv_v29 (Nat.le_refl _)
    replace lv_v31 := Keep.le lv_v31 le42
    replace v31 := bs_v31.keep lv_v31 (Nat.le_refl _)
    replace lv_v32 := Keep.le lv_v32 le42
    replace v32 := bs_v32.keep lv_v32 (Nat.le_refl _)
    replace lv_v36 := Keep.le lv_v36 le42
    replace v36 := bs_v36.keep lv_v36 (Nat.le_refl _)
    replace lv_v38 := Keep.le lv_v38 le42
    replace v38 := bs_v38.keep lv_v38 (Nat.le_refl _)
    have bs_v42 := v42
    have lv_v42 : Keep H10003.next H42 H42 := fun _ _ _ h => h
    replace h0 := base_h0.mono hle
    replace h1 := base_h1.mono hle
    clear hb2 fs2 ft2 c102 c112 j12 j22 hm2 hi2 hms2 his2 hmt2 hit2
    have hb2 : Fun.At _ g2 0 f p := ⟨Mem.of_get at2, h0⟩
    obtain ⟨fs2, ft2, c102, c112, j12, j22⟩ := hb2.get
    have hm2 : MemN _ _ _ _ _ := ⟨rfl, hb2.1⟩
    have hi2 := hb2.2
    have hms2 : MemN _ _ _ _ _ := ⟨rfl, fs2.1⟩
    have his2 := fs2.2
    have hmt2 : MemN _ _ _ _ _ := ⟨rfl, ft2.1⟩
    have hit2 := ft2.2
    clear hb3 fs3 ft3 c103 c113 j13 j23 hm3 hi3 hms3 his3 hmt3 hit3
    have hb3 : Fun.At _ g3 0 k q := ⟨Mem.of_get at3, h1⟩
    obtain ⟨fs3, ft3, c103, c113, j13, j23⟩ := hb3.get
    have hm3 : MemN _ _ _ _ _ := ⟨rfl, hb3.1⟩
    have hi3 := hb3.2
    have hms3 : MemN _ _ _ _ _ := ⟨rfl, fs3.1⟩
    have his3 := fs3.2
    have hmt3 : MemN _ _ _ _ _ := ⟨rfl, ft3.1⟩
    have hit3 := ft3.2
    clear i29
    have i29 := v29.inn
    clear i31
    have i31 := v31.inn
    clear i32
    have i32 := v32.ints
    clear i36
    have i36 := v36.inn
    clear mm9003
    have mm9003 : MemN _ _ _ _ _ := ⟨rfl, Mem.of_get at9003⟩
    clear i38
    have i38 := v38.inn
    clear mm10003
    have mm10003 : MemN _ _ _ _ _ := ⟨rfl, Mem.of_get at10003⟩
    have i42 := v42.ints
    refine .m rfl rfl rfl (.move rfl) ?_
    refine .m rfl rfl rfl (.extract rfl rfl) ?_
    refine .m rfl rfl rfl (.extract rfl rfl) ?_
    refine .m rfl rfl rfl (.assign rfl) ?_
    refine .m rfl rfl rfl (.assign rfl) ?_
    refine .nil ?_
    refine hK14 _ _ ?_
    refine .seq (fun K15 hK15 => ?_)
    refine .seq (fun K16 hK16 => ?_)
    refine .region ?_
    refine .m rfl rfl rfl (.move rfl) ?_
    refine .m rfl rfl rfl (.move rfl) ?_
    refine .callQ rfl rfl rfl rfl @Try.call18 rfl (eqInt64S_c) ?_
    refine .m rfl rfl rfl (.not rfl) ?_
    refine .m rfl rfl rfl (.move rfl) ?_
    refine .split (fun h49 => ?_) (fun h49 => ?_)
    ·
     try simp only [sps] at h49
     refine .sg rfl rfl rfl rfl rfl ?_
     refine .sg rfl rfl rfl rfl rfl ?_
     refine .sg rfl rfl rfl rfl rfl ?_
     refine .m rfl rfl rfl (.pickT rfl rfl) ?_
     refine .nil ?_
     refine hK16 _ _ ?_
     refine .condT rfl ?_
     refine .seq (fun K17 hK17 => ?_)
     refine .region ?_
     refine .m rfl rfl rfl (.assign rfl) ?_
     refine .nil ?_
     refine hK17 _ _ ?_
     refine .ret ?_
     -- leaf e3
     refine hret _ _ ?_
     refine ⟨_, rfl, ?_⟩
     first
     | exact rfl
     | exact absurd trivial (by assumption)
     | contradiction
     | (exfalso; omega)
    ·
     try simp only [sps] at h49
     refine .mg rfl rfl rfl rfl rfl (.move rfl) ?_
     refine .mg rfl rfl rfl rfl rfl (.move rfl) ?_
     refine .mg rfl rfl rfl rfl rfl (.cmp rfl rfl rfl) ?_
     refine .m rfl rfl rfl (.pickF rfl rfl) ?_
     refine .nil ?_
     refine hK16 _ _ ?_
     refine .cond rfl (fun h53 => ?_) (fun h53 => ?_)
     ·
      try simp only [sps] at h53
      refine .seq (fun K18 hK18 => ?_)
      refine .region ?_
      refine .m rfl rfl rfl (.assign rfl) ?_
      refine .nil ?_
      refine hK18 _ _ ?_
      refine .ret ?_
      -- leaf e4
      refine hret _ _ ?_
      refine ⟨_, rfl, ?_⟩
      first
      | exact rfl
      | exact absurd trivial (by assumption)
      | contradiction
      | (exfalso; omega)
     ·
      try simp only [sps] at h53
      refine .skip ?_
      refine hK15 _ _ ?_
      refine .seq (fun K19 hK19 => ?_)
      refine .seq (fun K20 hK20 => ?_)
      refine .regionD mixed_orders_B (.q 0 (.q 1 (.c 2 1 (.c 3 0 (.q 4 (.done)))))) (by kernel_rfl) ?_
      refine .m rfl rfl rfl rfl (.refl _) (.loadM ag_33_E rfl ⟨rfl, Mem.of_get at9003⟩) ?_
      refine .m rfl rfl rfl rfl (.refl _) (.loadM ag_27_LFindNaturalIsomorphism rfl ⟨rfl, Mem.of_get at2⟩) ?_
      refine .call1 rfl rfl rfl rfl rfl @Try.call9 rfl (toFunctor_c) ?_
      rintro _ H56 ⟨le56, p56, rfl, v56⟩
      have hbl := le56
      refine ⟨hbl, ?_⟩
      have nx_H56 := le56.1
      replace hle := hle.trans le56
      replace at2 := le56.2 _ _ at2
      replace at3 := le56.2 _ _ at3
      replace at9003 := le56.2 _ _ at9003
      replace at10003 := le56.2 _ _ at10003
      replace lv_v29 := Keep.le lv_v29 le56
      replace v29 := bs_v29.keep lv_v29 (Nat.le_refl _)
      replace lv_v31 := Keep.le lv_v31 le56
      replace v31 := bs_v31.keep lv_v31 (Nat.le_refl _)
      replace lv_v32 := Keep.le lv_v32 le56
      replace v32 := bs_v32.keep lv_v32 (Nat.le_refl _)
      replace lv_v36 := Keep.le lv_v36 le56
      replace v36 := bs_v36.keep lv_v36 (Nat.le_refl _)
      replace lv_v38 := Keep.le lv_v38 le56
      replace v38 := bs_v38.keep lv_v38 (Nat.le_refl _)
      replace lv_v42 := Keep.le lv_v42 le56
      replace v42 := bs_v42.keep lv_v42 (Nat.le_refl _)
      have bs_v56 := v56
      have lv_v56 : Keep H42.next H56 H56 := fun _ _ _ h => h
      replace h0 := base_h0.mono hle
      replace h1 := base_h1.mono hle
      clear hb2 fs2 ft2 c102 c112 j12 j22 hm2 hi2 hms2 his2 hmt2 hit2
      have hb2 : Fun.At _ g2 0 f p := ⟨Mem.of_get at2, h0⟩
      obtain ⟨fs2, ft2, c102, c112, j12, j22⟩ := hb2.get
      have hm2 : MemN _ _ _ _ _ := ⟨rfl, hb2.1⟩
      have hi2 := hb2.2
      have hms2 : MemN _ _ _ _ _ := ⟨rfl, fs2.1⟩
      have his2 := fs2.2
      have hmt2 : MemN _ _ _ _ _ := ⟨rfl, ft2.1⟩
      have hit2 := ft2.2
      clear hb3 fs3 ft3 c103 c113 j13 j23 hm3 hi3 hms3 his3 hmt3 hit3
      have hb3 : Fun.At _ g3 0 k q := ⟨Mem.of_get at3, h1⟩
      obtain ⟨fs3, ft3, c103, c113, j13, j23⟩ := hb3.get
      have hm3 : MemN _ _ _ _ _ := ⟨rfl, hb3.1⟩
      have hi3 := hb3.2
      have hms3 : MemN _ _ _ _ _ := ⟨rfl, fs3.1⟩
      have his3 := fs3.2
      have hmt3 : MemN _ _ _ _ _ := ⟨rfl, ft3.1⟩
      have hit3 := ft3.2
      clear i29
      have i29 := v29.inn
      clear i31
      have i31 := v31.inn
      clear i32
      have i32 := v32.ints
      clear i36
      have i36 := v36.inn
      clear mm9003
      have mm9003 : MemN _ _ _ _ _ := ⟨rfl, Mem.of_get at9003⟩
      clear i38
      have i38 := v38.inn
      clear mm10003
      have mm10003 : MemN _ _ _ _ _ := ⟨rfl, Mem.of_get at10003⟩
      clear i42
      have i42 := v42.ints
      have i56 := v56.inn
      refine .callQ0 rfl rfl rfl rfl rfl @Try.call12 rfl (eqFunctor_c) ?_
      refine .m rfl rfl rfl rfl (.refl _) (.not rfl) ?_
      refine .done ?_
      refine hK20 _ _ ?_
      refine .cond rfl (fun h58 => ?_) (fun h58 => ?_)
      ·
       try simp only [sps] at h58
       refine .seq (fun K21 hK21 => ?_)
       refine .region ?_
       refine .m rfl rfl rfl (.assign rfl) ?_
       refine .nil ?_
       refine hK21 _ _ ?_
       refine .ret ?_
       -- leaf e5
       refine hret _ _ ?_
       refine ⟨_, rfl, ?_⟩
       first
       | exact rfl
       | exact absurd trivial (by assumption)
       | contradiction
       | (exfalso; omega)
      ·
       try simp only [sps] at h58
       refine .skip ?_
       refine hK19 _ _ ?_
       refine .seq (fun K22 hK22 => ?_)
       refine .seq (fun K23 hK23 => ?_)
       refine .regionD mixed_orders_B (.q 0 (.q 1 (.c 2 1 (.c 3 0 (.q 4 (.done)))))) (by kernel_rfl) ?_
       refine .m rfl rfl rfl rfl (.refl _) (.loadM ag_33_E rfl ⟨rfl, Mem.of_get at10003⟩) ?_
       refine .m rfl rfl rfl rfl (.refl _) (.loadM ag_27_LFindNaturalIsomorphism rfl ⟨rfl, Mem.of_get at3⟩) ?_
       refine .call1 rfl rfl rfl rfl rfl @Try.call9 rfl (toFunctor_c) ?_
       rintro _ H61 ⟨le61, p61, rfl, v61⟩
       have hbl := le61
       refine ⟨hbl, ?_⟩
       have nx_H61 := le61.1
       replace hle := hle.trans le61
       replace at2 := le61.2 _ _ at2
       replace at3 := le61.2 _ _ at3
       replace at9003 := le61.2 _ _ at9003
       replace at10003 := le61.2 _ _ at10003
       replace lv_v29 := Keep.le lv_v29 le61
       replace v29 := bs_v29.keep lv_v29 (Nat.le_refl _)
       replace lv_v31 := Keep.le lv_v31 le61
       replace v31 := bs_v31.keep lv_v31 (Nat.le_refl _)
       replace lv_v32 := Keep.le lv_v32 le61
       replace v32 := bs_v32.keep lv_v32 (Nat.le_refl _)
       replace lv_v36 := Keep.le lv_v36 le61
       replace v36 := bs_v36.keep lv_v36 (Nat.le_refl _)
       replace lv_v38 := Keep.le lv_v38 le61
       replace v38 := bs_v38.keep lv_v38 (Nat.le_refl _)
       replace lv_v42 := Keep.le lv_v42 le61
       replace v42 := bs_v42.keep lv_v42 (Nat.le_refl _)
       replace lv_v56 := Keep.le lv_v56 le61
       replace v56 := bs_v56.keep lv_v56 (Nat.le_refl _)
       have bs_v61 := v61
       have lv_v61 : Keep H56.next H61 H61 := fun _ _ _ h => h
       replace h0 := base_h0.mono hle
       replace h1 := base_h1.mono hle
       clear hb2 fs2 ft2 c102 c112 j12 j22 hm2 hi2 hms2 his2 hmt2 hit2
       have hb2 : Fun.At _ g2 0 f p := ⟨Mem.of_get at2, h0⟩
       obtain ⟨fs2, ft2, c102, c112, j12, j22⟩ := hb2.get
       have hm2 : MemN _ _ _ _ _ := ⟨rfl, hb2.1⟩
       have hi2 := hb2.2
       have hms2 : MemN _ _ _ _ _ := ⟨rfl, fs2.1⟩
       have his2 := fs2.2
       have hmt2 : MemN _ _ _ _ _ := ⟨rfl, ft2.1⟩
       have hit2 := ft2.2
       clear hb3 fs3 ft3 c103 c113 j13 j23 hm3 hi3 hms3 his3 hmt3 hit3
       have hb3 : Fun.At _ g3 0 k q := ⟨Mem.of_get at3, h1⟩
       obtain ⟨fs3, ft3, c103, c113, j13, j23⟩ := hb3.get
       have hm3 : MemN _ _ _ _ _ := ⟨rfl, hb3.1⟩
       have hi3 := hb3.2
       have hms3 : MemN _ _ _ _ _ := ⟨rfl, fs3.1⟩
       have his3 := fs3.2
       have hmt3 : MemN _ _ _ _ _ := ⟨rfl, ft3.1⟩
       have hit3 := ft3.2
       clear i29
       have i29 := v29.inn
       clear i31
       have i31 := v31.inn
       clear i32
       have i32 := v32.ints
       clear i36
       have i36 := v36.inn
       clear mm9003
       have mm9003 : MemN _ _ _ _ _ := ⟨rfl, Mem.of_get at9003⟩
       clear i38
       have i38 := v38.inn
       clear mm10003
       have mm10003 : MemN _ _ _ _ _ := ⟨rfl, Mem.of_get at10003⟩
       clear i42
       have i42 := v42.ints
       clear i56
       have i56 := v56.inn
       have i61 := v61.inn
       refine .callQ0 rfl rfl rfl rfl rfl @Try.call12 rfl (eqFunctor_c) ?_
       refine .m rfl rfl rfl rfl (.refl _) (.not rfl) ?_
       refine .done ?_
       refine hK23 _ _ ?_
       refine .cond rfl (fun h63 => ?_) (fun h63 => ?_)
       ·
        try simp only [sps] at h63
        refine .seq (fun K24 hK24 => ?_)
        refine .region ?_
        refine .m rfl rfl rfl (.assign rfl) ?_
        refine .nil ?_
        refine hK24 _ _ ?_
        refine .ret ?_
        -- leaf e6
        refine hret _ _ ?_
        refine ⟨_, rfl, ?_⟩
        first
        | exact rfl
        | exact absurd trivial (by assumption)
        | contradiction
        | (exfalso; omega)
       ·
        try simp only [sps] at h63
        refine .skip ?_
        refine hK22 _ _ ?_
        refine .seq (fun K25 hK25 => ?_)
        refine .region ?_
        refine .m rfl rfl rfl (.assign rfl) ?_
        refine .nil ?_
        refine hK25 _ _ ?_
        refine .seq (fun K26 hK26 => ?_)
        refine .region ?_
        refine .m rfl rfl rfl (.loadM ag_33_E rfl ⟨rfl, Mem.of_get at9003⟩) ?_
        refine .m rfl rfl rfl (.move rfl) ?_
        have w_v36 := FunW.of_at bs_v36 lv_v36
        refine .call rfl rfl rfl rfl @Try.call13 rfl (markFunctor_c) ?_
        rintro _ H66 ⟨rfl, mk66⟩
        have sm66 := mk66.stm
        have nx_H66 := sm66.nx
        replace hle := StM.le_left hle sm66 (by omega)
        replace at2 := sm66.same _ _ (by omega) at2
        replace at3 := sm66.same _ _ (by omega) at3
        replace at9003 := sm66.same _ _ (by omega) at9003
        replace at10003 := sm66.same _ _ (by omega) at10003
        replace lv_v29 := Keep.stM lv_v29 sm66 (fun k hb hk => by omega)
        replace v29 := bs_v29.keep lv_v29 (Nat.le_refl _)
        replace lv_v31 := Keep.stM lv_v31 sm66 (fun k hb hk => by omega)
        replace v31 := bs_v31.keep lv_v31 (Nat.le_refl _)
        replace lv_v32 := Keep.stM lv_v32 sm66 (fun k hb hk => by omega)
        replace v32 := bs_v32.keep lv_v32 (Nat.le_refl _)
        replace lv_v38 := Keep.stM lv_v38 sm66 (fun k hb hk => by omega)
        replace v38 := bs_v38.keep lv_v38 (Nat.le_refl _)
        replace lv_v42 := Keep.stM lv_v42 sm66 (fun k hb hk => by omega)
        replace v42 := bs_v42.keep lv_v42 (Nat.le_refl _)
        replace lv_v56 := Keep.stM lv_v56 sm66 (fun k hb hk => by omega)
        replace v56 := bs_v56.keep lv_v56 (Nat.le_refl _)
        replace lv_v61 := Keep.stM lv_v61 sm66 (fun k hb hk => by omega)
        replace v61 := bs_v61.keep lv_v61 (Nat.le_refl _)
        replace h0 := base_h0.mono hle
        replace h1 := base_h1.mono hle
        clear hb2 fs2 ft2 c102 c112 j12 j22 hm2 hi2 hms2 his2 hmt2 hit2
        have hb2 : Fun.At _ g2 0 f p := ⟨Mem.of_get at2, h0⟩
        obtain ⟨fs2, ft2, c102, c112, j12, j22⟩ := hb2.get
        have hm2 : MemN _ _ _ _ _ := ⟨rfl, hb2.1⟩
        have hi2 := hb2.2
        have hms2 : MemN _ _ _ _ _ := ⟨rfl, fs2.1⟩
        have his2 := fs2.2
        have hmt2 : MemN _ _ _ _ _ := ⟨rfl, ft2.1⟩
        have hit2 := ft2.2
        clear hb3 fs3 ft3 c103 c113 j13 j23 hm3 hi3 hms3 his3 hmt3 hit3
        have hb3 : Fun.At _ g3 0 k q := ⟨Mem.of_get at3, h1⟩
        obtain ⟨fs3, ft3, c103, c113, j13, j23⟩ := hb3.get
        have hm3 : MemN _ _ _ _ _ := ⟨rfl, hb3.1⟩
        have hi3 := hb3.2
        have hms3 : MemN _ _ _ _ _ := ⟨rfl, fs3.1⟩
        have his3 := fs3.2
        have hmt3 : MemN _ _ _ _ _ := ⟨rfl, ft3.1⟩
        have hit3 := ft3.2
        clear i29
        have i29 := v29.inn
        clear i31
        have i31 := v31.inn
        clear i32
        have i32 := v32.ints
        clear mm9003
        have mm9003 : MemN _ _ _ _ _ := ⟨rfl, Mem.of_get at9003⟩
        clear i38
        have i38 := v38.inn
        clear mm10003
        have mm10003 : MemN _ _ _ _ _ := ⟨rfl, Mem.of_get at10003⟩
        clear i42
        have i42 := v42.ints
        clear i56
        have i56 := v56.inn
        clear i61
        have i61 := v61.inn
        refine .m rfl rfl rfl (.assign rfl) ?_
        refine .nil ?_
        refine hK26 _ _ ?_
        refine .seq (fun K27 hK27 => ?_)
        refine .region ?_
        refine .m rfl rfl rfl (.loadM ag_33_E rfl ⟨rfl, Mem.of_get at10003⟩) ?_
        refine .m rfl rfl rfl (.move rfl) ?_
        have w_v38 := FunW.of_at bs_v38 lv_v38
        refine .call rfl rfl rfl rfl @Try.call13 rfl (markFunctor_c) ?_
        rintro _ H69 ⟨rfl, mk69⟩
        have sm69 := mk69.stm
        have nx_H69 := sm69.nx
        replace hle := StM.le_left hle sm69 (by omega)
        replace at2 := sm69.same _ _ (by omega) at2
        replace at3 := sm69.same _ _ (by omega) at3
        replace at9003 := sm69.same _ _ (by omega) at9003
        replace at10003 := sm69.same _ _ (by omega) at10003
        replace lv_v29 := Keep.stM lv_v29 sm69 (fun k hb hk => by omega)
        replace v29 := bs_v29.keep lv_v29 (Nat.le_refl _)
        replace lv_v31 := Keep.stM lv_v31 sm69 (fun k hb hk => by omega)
        replace v31 := bs_v31.keep lv_v31 (Nat.le_refl _)
        replace lv_v32 := Keep.stM lv_v32 sm69 (fun k hb hk => by omega)
        replace v32 := bs_v32.keep lv_v32 (Nat.le_refl _)
        replace lv_v42 := Keep.stM lv_v42 sm69 (fun k hb hk => by omega)
        replace v42 := bs_v42.keep lv_v42 (Nat.le_refl _)
        replace lv_v56 := Keep.stM lv_v56 sm69 (fun k hb hk => by omega)
        replace v56 := bs_v56.keep lv_v56 (Nat.le_refl _)
        replace lv_v61 := Keep.stM lv_v61 sm69 (fun k hb hk => by omega)
        replace v61 := bs_v61.keep lv_v61 (Nat.le_refl _)
        replace h0 := base_h0.mono hle
        replace h1 := base_h1.mono hle
        clear hb2 fs2 ft2 c102 c112 j12 j22 hm2 hi2 hms2 his2 hmt2 hit2
        have hb2 : Fun.At _ g2 0 f p := ⟨Mem.of_get at2, h0⟩
        obtain ⟨fs2, ft2, c102, c112, j12, j22⟩ := hb2.get
        have hm2 : MemN _ _ _ _ _ := ⟨rfl, hb2.1⟩
        have hi2 := hb2.2
        have hms2 : MemN _ _ _ _ _ := ⟨rfl, fs2.1⟩
        have his2 := fs2.2
        have hmt2 : MemN _ _ _ _ _ := ⟨rfl, ft2.1⟩
        have hit2 := ft2.2
        clear hb3 fs3 ft3 c103 c113 j13 j23 hm3 hi3 hms3 his3 hmt3 hit3
        have hb3 : Fun.At _ g3 0 k q := ⟨Mem.of_get at3, h1⟩
        obtain ⟨fs3, ft3, c103, c113, j13, j23⟩ := hb3.get
        have hm3 : MemN _ _ _ _ _ := ⟨rfl, hb3.1⟩
        have hi3 := hb3.2
        have hms3 : MemN _ _ _ _ _ := ⟨rfl, fs3.1⟩
        have his3 := fs3.2
        have hmt3 : MemN _ _ _ _ _ := ⟨rfl, ft3.1⟩
        have hit3 := ft3.2
        clear i29
        have i29 := v29.inn
        clear i31
        have i31 := v31.inn
        clear i32
        have i32 := v32.ints
        clear mm9003
        have mm9003 : MemN _ _ _ _ _ := ⟨rfl, Mem.of_get at9003⟩
        clear mm10003
        have mm10003 : MemN _ _ _ _ _ := ⟨rfl, Mem.of_get at10003⟩
        clear i42
        have i42 := v42.ints
        clear i56
        have i56 := v56.inn
        clear i61
        have i61 := v61.inn
        refine .m rfl rfl rfl (.assign rfl) ?_
        refine .nil ?_
        refine hK27 _ _ ?_
        refine .seq (fun K28 hK28 => ?_)
        refine .seq (fun K29 hK29 => ?_)
        refine .region ?_
        refine .m rfl rfl rfl (.move rfl) ?_
        refine .m rfl rfl rfl (.cmp rfl rfl rfl) ?_
        refine .m rfl rfl rfl (.move rfl) ?_
        refine .split (fun h72 => ?_) (fun h72 => ?_)
        ·
         try simp only [sps] at h72
         refine .sg rfl rfl rfl rfl rfl ?_
         refine .sg rfl rfl rfl rfl rfl ?_
         refine .sg rfl rfl rfl rfl rfl ?_
         refine .sg rfl rfl rfl rfl rfl ?_
         refine .m rfl rfl rfl (.pickT rfl rfl) ?_
         refine .m rfl rfl rfl (.move rfl) ?_
         refine .sg rfl rfl rfl rfl rfl ?_
         refine .sg rfl rfl rfl rfl rfl ?_
         refine .sg rfl rfl rfl rfl rfl ?_
         refine .m rfl rfl rfl (.pickT rfl rfl) ?_
         refine .nil ?_
         refine hK29 _ _ ?_
         refine .condT rfl ?_
         refine .seq (fun K30 hK30 => ?_)
         refine .region ?_
         refine .m rfl rfl rfl (.assign rfl) ?_
         refine .nil ?_
         refine hK30 _ _ ?_
         refine .ret ?_
         -- leaf e7
         refine hret _ _ ?_
         refine ⟨_, rfl, ?_⟩
         first
         | exact rfl
         | exact absurd trivial (by assumption)
         | contradiction
         | (exfalso; omega)
        ·
         try simp only [sps] at h72
         refine .mg rfl rfl rfl rfl rfl (.move rfl) ?_
         refine .mg rfl rfl rfl rfl rfl (.move rfl) ?_
         refine .callQg rfl rfl rfl rfl rfl rfl @Try.call18 rfl (eqInt64S_c) ?_
         refine .mg rfl rfl rfl rfl rfl (.not rfl) ?_
         refine .m rfl rfl rfl (.pickF rfl rfl) ?_
         refine .m rfl rfl rfl (.move rfl) ?_
         refine .split (fun h78 => ?_) (fun h78 => ?_)
         ·
          try simp only [sps] at h78
          refine .sg rfl rfl rfl rfl rfl ?_
          refine .sg rfl rfl rfl rfl rfl ?_
          refine .sg rfl rfl rfl rfl rfl ?_
          refine .m rfl rfl rfl (.pickT rfl rfl) ?_
          refine .nil ?_
          refine hK29 _ _ ?_
          refine .condT rfl ?_
          refine .seq (fun K31 hK31 => ?_)
          refine .region ?_
          refine .m rfl rfl rfl (.assign rfl) ?_
          refine .nil ?_
          refine hK31 _ _ ?_
          refine .ret ?_
          -- leaf e8
          refine hret _ _ ?_
          refine ⟨_, rfl, ?_⟩
          first
          | exact rfl
          | exact absurd trivial (by assumption)
          | contradiction
          | (exfalso; omega)
         ·
          try simp only [sps] at h78
          refine .mg rfl rfl rfl rfl rfl (.move rfl) ?_
          refine .mg rfl rfl rfl rfl rfl (.move rfl) ?_
          refine .mg rfl rfl rfl rfl rfl (.cmp rfl rfl rfl) ?_
          refine .m rfl rfl rfl (.pickF rfl rfl) ?_
          refine .nil ?_
          refine hK29 _ _ ?_
          refine .cond rfl (fun h82 => ?_) (fun h82 => ?_)
          ·
           try simp only [sps] at h82
           refine .seq (fun K32 hK32 => ?_)
           refine .region ?_
           refine .m rfl rfl rfl (.assign rfl) ?_
           refine .nil ?_
           refine hK32 _ _ ?_
           refine .ret ?_
           -- leaf e9
           refine hret _ _ ?_
           refine ⟨_, rfl, ?_⟩
           first
           | exact rfl
           | exact absurd trivial (by assumption)
           | contradiction
           | (exfalso; omega)
          ·
           try simp only [sps] at h82
           refine .skip ?_
           refine hK28 _ _ ?_
           refine .seq (fun K33 hK33 => ?_)
           refine .region ?_
           refine .m rfl rfl rfl (.assign rfl) ?_
           refine .nil ?_
           refine hK33 _ _ ?_
           refine .seq (fun K34 hK34 => ?_)
           refine .region ?_
           refine .m rfl rfl rfl (.move rfl) ?_
           refine .m rfl rfl rfl (.move rfl) ?_
           have w_v42 := IntsW.of_r bs_v42 lv_v42
           refine .call rfl rfl rfl rfl @Try.call19 rfl (markInt64S_c) ?_
           rintro _ H85 ⟨rfl, mk85⟩
           have sm85 := mk85.stm
           have nx_H85 := sm85.nx
           replace hle := StM.le_left hle sm85 (by omega)
           replace at2 := sm85.same _ _ (by omega) at2
           replace at3 := sm85.same _ _ (by omega) at3
           replace at9003 := sm85.same _ _ (by omega) at9003
           replace at10003 := sm85.same _ _ (by omega) at10003
           replace lv_v29 := Keep.stM lv_v29 sm85 (fun k hb hk => by omega)
           replace v29 := bs_v29.keep lv_v29 (Nat.le_refl _)
           replace lv_v31 := Keep.stM lv_v31 sm85 (fun k hb hk => by omega)
           replace v31 := bs_v31.keep lv_v31 (Nat.le_refl _)
           replace lv_v32 := Keep.stM lv_v32 sm85 (fun k hb hk => by omega)
           replace v32 := bs_v32.keep lv_v32 (Nat.le_refl _)
           replace lv_v56 := Keep.stM lv_v56 sm85 (fun k hb hk => by omega)
           replace v56 := bs_v56.keep lv_v56 (Nat.le_refl _)
           replace lv_v61 := Keep.stM lv_v61 sm85 (fun k hb hk => by omega)
           replace v61 := bs_v61.keep lv_v61 (Nat.le_refl _)
           replace h0 := base_h0.mono hle
           replace h1 := base_h1.mono hle
           clear hb2 fs2 ft2 c102 c112 j12 j22 hm2 hi2 hms2 his2 hmt2 hit2
           have hb2 : Fun.At _ g2 0 f p := ⟨Mem.of_get at2, h0⟩
           obtain ⟨fs2, ft2, c102, c112, j12, j22⟩ := hb2.get
           have hm2 : MemN _ _ _ _ _ := ⟨rfl, hb2.1⟩
           have hi2 := hb2.2
           have hms2 : MemN _ _ _ _ _ := ⟨rfl, fs2.1⟩
           have his2 := fs2.2
           have hmt2 : MemN _ _ _ _ _ := ⟨rfl, ft2.1⟩
           have hit2 := ft2.2
           clear hb3 fs3 ft3 c103 c113 j13 j23 hm3 hi3 hms3 his3 hmt3 hit3
           have hb3 : Fun.At _ g3 0 k q := ⟨Mem.of_get at3, h1⟩
           obtain ⟨fs3, ft3, c103, c113, j13, j23⟩ := hb3.get
           have hm3 : MemN _ _ _ _ _ := ⟨rfl, hb3.1⟩
           have hi3 := hb3.2
           have hms3 : MemN _ _ _ _ _ := ⟨rfl, fs3.1⟩
           have his3 := fs3.2
           have hmt3 : MemN _ _ _ _ _ := ⟨rfl, ft3.1⟩
           have hit3 := ft3.2
           clear i29
           have i29 := v29.inn
           clear i31
           have i31 := v31.inn
           clear i32
           have i32 := v32.ints
           clear mm9003
           have mm9003 : MemN _ _ _ _ _ := ⟨rfl, Mem.of_get at9003⟩
           clear mm10003
           have mm10003 : MemN _ _ _ _ _ := ⟨rfl, Mem.of_get at10003⟩
           clear i56
           have i56 := v56.inn
           clear i61
           have i61 := v61.inn
           have hd85 := mk85.held (IntsR.nodup)
           have wd85 := w_v42.stm sm85
           have bs_hd85 := hd85
           have lv_hd85 : Keep H10003.next H85 H85 := fun _ _ _ h => h
           have bs_wd85 := wd85
           have lv_wd85 : Keep H10003.next H85 H85 := fun _ _ _ h => h
           refine .m rfl rfl rfl (.assign rfl) ?_
           refine .nil ?_
           refine hK34 _ _ ?_
           refine .seq (fun K35 hK35 => ?_)
           refine .region ?_
           refine .m rfl rfl rfl (.assign rfl) ?_
           refine .nil ?_
           refine hK35 _ _ ?_
           refine .seq (fun K36 hK36 => ?_)
           refine .region ?_
           refine .m rfl rfl rfl (.move rfl) ?_
           refine .m rfl rfl rfl (.move rfl) ?_
           refine .callQ rfl rfl rfl rfl @Try.call20 rfl (heldInt64S_c) ?_
           refine .m rfl rfl rfl (.assign rfl) ?_
           refine .nil ?_
           refine hK36 _ _ ?_
           refine .seq (fun K37 hK37 => ?_)
           refine .seq (fun K38 hK38 => ?_)
           refine .region ?_
           refine .m rfl rfl rfl (.move rfl) ?_
           refine .m rfl rfl rfl (.cmp rfl rfl rfl) ?_
           refine .nil ?_
           refine hK38 _ _ ?_
           refine .cond rfl (fun h90 => ?_) (fun h90 => ?_)
           ·
            try simp only [sps] at h90
            refine .seq (fun K39 hK39 => ?_)
            refine .region ?_
            refine .m rfl rfl rfl (.assign rfl) ?_
            refine .nil ?_
            refine hK39 _ _ ?_
            refine .ret ?_
            -- leaf e10
            refine hret _ _ ?_
            refine ⟨_, rfl, ?_⟩
            first
            | exact rfl
            | exact absurd trivial (by assumption)
            | contradiction
            | (exfalso; omega)
           ·
            try simp only [sps] at h90
            refine .skip ?_
            refine hK37 _ _ ?_
            refine .seq (fun K40 hK40 => ?_)
            refine .seq (fun K41 hK41 => ?_)
            refine .region ?_
            refine .m rfl rfl rfl (.move rfl) ?_
            refine .m rfl rfl rfl (.move rfl) ?_
            refine .m rfl rfl rfl (.cmp rfl rfl rfl) ?_
            refine .nil ?_
            refine hK41 _ _ ?_
            refine .cond rfl (fun h93 => ?_) (fun h93 => ?_)
            ·
             try simp only [sps] at h93
             refine .seq (fun K42 hK42 => ?_)
             refine .region ?_
             refine .m rfl rfl rfl (.assign rfl) ?_
             refine .nil ?_
             refine hK42 _ _ ?_
             refine .ret ?_
             -- leaf e11
             refine hret _ _ ?_
             refine ⟨_, rfl, ?_⟩
             first
             | exact rfl
             | exact absurd trivial (by assumption)
             | contradiction
             | (exfalso; omega)
            ·
             try simp only [sps] at h93
             refine .skip ?_
             refine hK40 _ _ ?_
             refine .seq (fun K43 hK43 => ?_)
             refine .regionD mixed_orders_B (.q 0 (.q 2 (.c 1 1 (.c 3 0 (.c 4 0 (.q 5 (.q 6 (.q 7 (.q 8 (.q 9 (.done))))))))))) (by kernel_rfl) ?_
             refine .m rfl rfl rfl rfl (.refl _) (.loadM ag_27_LFindNaturalIsomorphism rfl ⟨rfl, Mem.of_get at2⟩) ?_
             refine .m rfl rfl rfl rfl (.refl _) (.loadM ag_27_LFindNaturalIsomorphism rfl ⟨rfl, Mem.of_get at3⟩) ?_
             refine .call1 rfl rfl rfl rfl rfl @Try.call9 rfl (toFunctor_c) ?_
             rintro _ H96 ⟨le96, p96, rfl, v96⟩
             have hbl := le96
             refine ⟨hbl, ?_⟩
             have nx_H96 := le96.1
             replace hle := hle.trans le96
             replace at2 := le96.2 _ _ at2
             replace at3 := le96.2 _ _ at3
             replace at9003 := le96.2 _ _ at9003
             replace at10003 := le96.2 _ _ at10003
             replace lv_v29 := Keep.le lv_v29 le96
             replace v29 := bs_v29.keep lv_v29 (Nat.le_refl _)
             replace lv_v31 := Keep.le lv_v31 le96
             replace v31 := bs_v31.keep lv_v31 (Nat.le_refl _)
             replace lv_v32 := Keep.le lv_v32 le96
             replace v32 := bs_v32.keep lv_v32 (Nat.le_refl _)
             replace lv_v56 := Keep.le lv_v56 le96
             replace v56 := bs_v56.keep lv_v56 (Nat.le_refl _)
             replace lv_v61 := Keep.le lv_v61 le96
             replace v61 := bs_v61.keep lv_v61 (Nat.le_refl _)
             replace lv_hd85 := Keep.le lv_hd85 le96
             replace hd85 := bs_hd85.keep lv_hd85 (Nat.le_refl _)
             replace lv_wd85 := Keep.le lv_wd85 le96
             replace wd85 := bs_wd85.keep lv_wd85 (Nat.le_refl _)
             have bs_v96 := v96
             have lv_v96 : Keep H85.next H96 H96 := fun _ _ _ h => h
             replace h0 := base_h0.mono hle
             replace h1 := base_h1.mono hle
             clear hb2 fs2 ft2 c102 c112 j12 j22 hm2 hi2 hms2 his2 hmt2 hit2
             have hb2 : Fun.At _ g2 0 f p := ⟨Mem.of_get at2, h0⟩
             obtain ⟨fs2, ft2, c102, c112, j12, j22⟩ := hb2.get
             have hm2 : MemN _ _ _ _ _ := ⟨rfl, hb2.1⟩
             have hi2 := hb2.2
             have hms2 : MemN _ _ _ _ _ := ⟨rfl, fs2.1⟩
             have his2 := fs2.2
             have hmt2 : MemN _ _ _ _ _ := ⟨rfl, ft2.1⟩
             have hit2 := ft2.2
             clear hb3 fs3 ft3 c103 c113 j13 j23 hm3 hi3 hms3 his3 hmt3 hit3
             have hb3 : Fun.At _ g3 0 k q := ⟨Mem.of_get at3, h1⟩
             obtain ⟨fs3, ft3, c103, c113, j13, j23⟩ := hb3.get
             have hm3 : MemN _ _ _ _ _ := ⟨rfl, hb3.1⟩
             have hi3 := hb3.2
             have hms3 : MemN _ _ _ _ _ := ⟨rfl, fs3.1⟩
             have his3 := fs3.2
             have hmt3 : MemN _ _ _ _ _ := ⟨rfl, ft3.1⟩
             have hit3 := ft3.2
             clear i29
             have i29 := v29.inn
             clear i31
             have i31 := v31.inn
             clear i32
             have i32 := v32.ints
             clear mm9003
             have mm9003 : MemN _ _ _ _ _ := ⟨rfl, Mem.of_get at9003⟩
             clear mm10003
             have mm10003 : MemN _ _ _ _ _ := ⟨rfl, Mem.of_get at10003⟩
             clear i56
             have i56 := v56.inn
             clear i61
             have i61 := v61.inn
             have i96 := v96.inn
             refine .call0 rfl rfl rfl rfl rfl @Try.call9 rfl (toFunctor_c) ?_
             rintro _ H98 ⟨le98, p98, rfl, v98⟩
             have nx_H98 := le98.1
             replace hle := hle.trans le98
             replace at2 := le98.2 _ _ at2
             replace at3 := le98.2 _ _ at3
             replace at9003 := le98.2 _ _ at9003
             replace at10003 := le98.2 _ _ at10003
             replace lv_v29 := Keep.le lv_v29 le98
             replace v29 := bs_v29.keep lv_v29 (Nat.le_refl _)
             replace lv_v31 := Keep.le lv_v31 le98
             replace v31 := bs_v31.keep lv_v31 (Nat.le_refl _)
             replace lv_v32 := Keep.le lv_v32 le98
             replace v32 := bs_v32.keep lv_v32 (Nat.le_refl _)
             replace lv_v56 := Keep.le lv_v56 le98
             replace v56 := bs_v56.keep lv_v56 (Nat.le_refl _)
             replace lv_v61 := Keep.le lv_v61 le98
             replace v61 := bs_v61.keep lv_v61 (Nat.le_refl _)
             replace lv_hd85 := Keep.le lv_hd85 le98
             replace hd85 := bs_hd85.keep lv_hd85 (Nat.le_refl _)
             replace lv_wd85 := Keep.le lv_wd85 le98
             replace wd85 := bs_wd85.keep lv_wd85 (Nat.le_refl _)
             replace lv_v96 := Keep.le lv_v96 le98
             replace v96 := bs_v96.keep lv_v96 (Nat.le_refl _)
             have bs_v98 := v98
             have lv_v98 : Keep H96.next H98 H98 := fun _ _ _ h => h
             replace h0 := base_h0.mono hle
             replace h1 := base_h1.mono hle
             clear hb2 fs2 ft2 c102 c112 j12 j22 hm2 hi2 hms2 his2 hmt2 hit2
             have hb2 : Fun.At _ g2 0 f p := ⟨Mem.of_get at2, h0⟩
             obtain ⟨fs2, ft2, c102, c112, j12, j22⟩ := hb2.get
             have hm2 : MemN _ _ _ _ _ := ⟨rfl, hb2.1⟩
             have hi2 := hb2.2
             have hms2 : MemN _ _ _ _ _ := ⟨rfl, fs2.1⟩
             have his2 := fs2.2
             have hmt2 : MemN _ _ _ _ _ := ⟨rfl, ft2.1⟩
             have hit2 := ft2.2
             clear hb3 fs3 ft3 c103 c113 j13 j23 hm3 hi3 hms3 his3 hmt3 hit3
             have hb3 : Fun.At _ g3 0 k q := ⟨Mem.of_get at3, h1⟩
             obtain ⟨fs3, ft3, c103, c113, j13, j23⟩ := hb3.get
             have hm3 : MemN _ _ _ _ _ := ⟨rfl, hb3.1⟩
             have hi3 := hb3.2
             have hms3 : MemN _ _ _ _ _ := ⟨rfl, fs3.1⟩
             have his3 := fs3.2
             have hmt3 : MemN _ _ _ _ _ := ⟨rfl, ft3.1⟩
             have hit3 := ft3.2
             clear i29
             have i29 := v29.inn
             clear i31
             have i31 := v31.inn
             clear i32
             have i32 := v32.ints
             clear mm9003
             have mm9003 : MemN _ _ _ _ _ := ⟨rfl, Mem.of_get at9003⟩
             clear mm10003
             have mm10003 : MemN _ _ _ _ _ := ⟨rfl, Mem.of_get at10003⟩
             clear i56
             have i56 := v56.inn
             clear i61
             have i61 := v61.inn
             clear i96
             have i96 := v96.inn
             have i98 := v98.inn
             refine .call0 rfl rfl rfl rfl rfl @Try.call17 rfl (implFindNaturalIsomorphism_c) ?_
             rintro _ H99 ⟨le99, a99, rfl, v99⟩
             have nx_H99 := le99.1
             replace hle := hle.trans le99
             replace at2 := le99.2 _ _ at2
             replace at3 := le99.2 _ _ at3
             replace at9003 := le99.2 _ _ at9003
             replace at10003 := le99.2 _ _ at10003
             replace lv_v29 := Keep.le lv_v29 le99
             replace v29 := bs_v29.keep lv_v29 (Nat.le_refl _)
             replace lv_v31 := Keep.le lv_v31 le99
             replace v31 := bs_v31.keep lv_v31 (Nat.le_refl _)
             replace lv_v32 := Keep.le lv_v32 le99
             replace v32 := bs_v32.keep lv_v32 (Nat.le_refl _)
             replace lv_v56 := Keep.le lv_v56 le99
             replace v56 := bs_v56.keep lv_v56 (Nat.le_refl _)
             replace lv_v61 := Keep.le lv_v61 le99
             replace v61 := bs_v61.keep lv_v61 (Nat.le_refl _)
             replace lv_hd85 := Keep.le lv_hd85 le99
             replace hd85 := bs_hd85.keep lv_hd85 (Nat.le_refl _)
             replace lv_wd85 := Keep.le lv_wd85 le99
             replace wd85 := bs_wd85.keep lv_wd85 (Nat.le_refl _)
             replace lv_v96 := Keep.le lv_v96 le99
             replace v96 := bs_v96.keep lv_v96 (Nat.le_refl _)
             replace lv_v98 := Keep.le lv_v98 le99
             replace v98 := bs_v98.keep lv_v98 (Nat.le_refl _)
             have bs_v99 := v99
             have lv_v99 : Keep H98.next H99 H99 := fun _ _ _ h => h
             replace h0 := base_h0.mono hle
             replace h1 := base_h1.mono hle
             clear hb2 fs2 ft2 c102 c112 j12 j22 hm2 hi2 hms2 his2 hmt2 hit2
             have hb2 : Fun.At _ g2 0 f p := ⟨Mem.of_get at2, h0⟩
             obtain ⟨fs2, ft2, c102, c112, j12, j22⟩ := hb2.get
             have hm2 : MemN _ _ _ _ _ := ⟨rfl, hb2.1⟩
             have hi2 := hb2.2
             have hms2 : MemN _ _ _ _ _ := ⟨rfl, fs2.1⟩
             have his2 := fs2.2
             have hmt2 : MemN _ _ _ _ _ := ⟨rfl, ft2.1⟩
             have hit2 := ft2.2
             clear hb3 fs3 ft3 c103 c113 j13 j23 hm3 hi3 hms3 his3 hmt3 hit3
             have hb3 : Fun.At _ g3 0 k q := ⟨Mem.of_get at3, h1⟩
             obtain ⟨fs3, ft3, c103, c113, j13, j23⟩ := hb3.get
             have hm3 : MemN _ _ _ _ _ := ⟨rfl, hb3.1⟩
             have hi3 := hb3.2
             have hms3 : MemN _ _ _ _ _ := ⟨rfl, fs3.1⟩
             have his3 := fs3.2
             have hmt3 : MemN _ _ _ _ _ := ⟨rfl, ft3.1⟩
             have hit3 := ft3.2
             clear i29
             have i29 := v29.inn
             clear i31
             have i31 := v31.inn
             clear i32
             have i32 := v32.ints
             clear mm9003
             have mm9003 : MemN _ _ _ _ _ := ⟨rfl, Mem.of_get at9003⟩
             clear mm10003
             have mm10003 : MemN _ _ _ _ _ := ⟨rfl, Mem.of_get at10003⟩
             clear i56
             have i56 := v56.inn
             clear i61
             have i61 := v61.inn
             clear i96
             have i96 := v96.inn
             clear i98
             have i98 := v98.inn
             have i99 := v99.ints
             refine .m rfl rfl rfl rfl (.refl _) (.move rfl) ?_
             refine .m rfl rfl rfl rfl (.refl _) (.extract rfl rfl) ?_
             refine .m rfl rfl rfl rfl (.refl _) (.extract rfl rfl) ?_
             refine .m rfl rfl rfl rfl (.refl _) (.assign rfl) ?_
             refine .m rfl rfl rfl rfl (.refl _) (.assign rfl) ?_
             refine .done ?_
             refine hK43 _ _ ?_
             refine .seq (fun K44 hK44 => ?_)
             refine .seq (fun K45 hK45 => ?_)
             refine .region ?_
             refine .m rfl rfl rfl (.move rfl) ?_
             refine .m rfl rfl rfl (.move rfl) ?_
             refine .callQ rfl rfl rfl rfl @Try.call18 rfl (eqInt64S_c) ?_
             refine .m rfl rfl rfl (.not rfl) ?_
             refine .m rfl rfl rfl (.move rfl) ?_
             refine .split (fun h106 => ?_) (fun h106 => ?_)
             ·
              try simp only [sps] at h106
              refine .sg rfl rfl rfl rfl rfl ?_
              refine .sg rfl rfl rfl rfl rfl ?_
              refine .sg rfl rfl rfl rfl rfl ?_
              refine .m rfl rfl rfl (.pickT rfl rfl) ?_
              refine .nil ?_
              refine hK45 _ _ ?_
              refine .condT rfl ?_
              refine .seq (fun K46 hK46 => ?_)
              refine .region ?_
              refine .m rfl rfl rfl (.assign rfl) ?_
              refine .nil ?_
              refine hK46 _ _ ?_
              refine .ret ?_
              -- leaf e12
              refine hret _ _ ?_
              refine ⟨_, rfl, ?_⟩
              first
              | exact rfl
              | exact absurd trivial (by assumption)
              | contradiction
              | (exfalso; omega)
             ·
              try simp only [sps] at h106
              refine .mg rfl rfl rfl rfl rfl (.move rfl) ?_
              refine .mg rfl rfl rfl rfl rfl (.move rfl) ?_
              refine .mg rfl rfl rfl rfl rfl (.cmp rfl rfl rfl) ?_
              refine .m rfl rfl rfl (.pickF rfl rfl) ?_
              refine .nil ?_
              refine hK45 _ _ ?_
              refine .cond rfl (fun h110 => ?_) (fun h110 => ?_)
              ·
               try simp only [sps] at h110
               refine .seq (fun K47 hK47 => ?_)
               refine .region ?_
               refine .m rfl rfl rfl (.assign rfl) ?_
               refine .nil ?_
               refine hK47 _ _ ?_
               refine .ret ?_
               -- leaf e13
               refine hret _ _ ?_
               refine ⟨_, rfl, ?_⟩
               first
               | exact rfl
               | exact absurd trivial (by assumption)
               | contradiction
               | (exfalso; omega)
              ·
               try simp only [sps] at h110
               refine .skip ?_
               refine hK44 _ _ ?_
               refine .seq (fun K48 hK48 => ?_)
               refine .region ?_
               refine .m rfl rfl rfl (.assign rfl) ?_
               refine .nil ?_
               refine hK48 _ _ ?_
               refine .seq (fun K49 hK49 => ?_)
               refine .region ?_
               refine .m rfl rfl rfl (.move rfl) ?_
               refine .m rfl rfl rfl (.move rfl) ?_
               refine .callQ rfl rfl rfl rfl @Try.call20 rfl (heldInt64S_c) ?_
               refine .m rfl rfl rfl (.assign rfl) ?_
               refine .nil ?_
               refine hK49 _ _ ?_
               refine .seq (fun K50 hK50 => ?_)
               refine .seq (fun K51 hK51 => ?_)
               refine .region ?_
               refine .m rfl rfl rfl (.move rfl) ?_
               refine .m rfl rfl rfl (.cmp rfl rfl rfl) ?_
               refine .nil ?_
               refine hK51 _ _ ?_
               refine .cond rfl (fun h115 => ?_) (fun h115 => ?_)
               ·
                try simp only [sps] at h115
                refine .seq (fun K52 hK52 => ?_)
                refine .region ?_
                refine .m rfl rfl rfl (.assign rfl) ?_
                refine .nil ?_
                refine hK52 _ _ ?_
                refine .ret ?_
                -- leaf e14
                refine hret _ _ ?_
                refine ⟨_, rfl, ?_⟩
                first
                | exact rfl
                | exact absurd trivial (by assumption)
                | contradiction
                | (exfalso; omega)
               ·
                try simp only [sps] at h115
                refine .skip ?_
                refine hK50 _ _ ?_
                refine .seq (fun K53 hK53 => ?_)
                refine .seq (fun K54 hK54 => ?_)
                refine .region ?_
                refine .m rfl rfl rfl (.move rfl) ?_
                refine .m rfl rfl rfl (.move rfl) ?_
                refine .m rfl rfl rfl (.cmp rfl rfl rfl) ?_
                refine .nil ?_
                refine hK54 _ _ ?_
                refine .cond rfl (fun h118 => ?_) (fun h118 => ?_)
                ·
                 try simp only [sps] at h118
                 refine .seq (fun K55 hK55 => ?_)
                 refine .region ?_
                 refine .m rfl rfl rfl (.assign rfl) ?_
                 refine .nil ?_
                 refine hK55 _ _ ?_
                 refine .ret ?_
                 -- leaf e15
                 refine hret _ _ ?_
                 refine ⟨_, rfl, ?_⟩
                 first
                 | exact rfl
                 | exact absurd trivial (by assumption)
                 | contradiction
                 | (exfalso; omega)
                ·
                 try simp only [sps] at h118
                 refine .skip ?_
                 refine hK53 _ _ ?_
                 refine .seq (fun K56 hK56 => ?_)
                 refine .region ?_
                 refine .m rfl rfl rfl (.assign rfl) ?_
                 refine .nil ?_
                 refine hK56 _ _ ?_
                 refine .ret ?_
                 -- leaf e16
                 refine hret _ _ ?_
                 refine ⟨_, rfl, ?_⟩
                 first
                 | exact rfl
                 | exact absurd trivial (by assumption)
                 | contradiction
                 | (exfalso; omega)
end Go.Proofs.Ytnohkokoimmclaa
/- The call of a law, whatever it takes: the arguments brought in one by one. No condition. -/
namespace Go.GL
open Go.RowKit Go.WideShapes Go.ChangeShapes Go.Deep

/-- An argument of type t may be brought in so that R holds of what stands for it. -/
structure Imp1 (P : Program) (t : TypeId) (R : GHeap → Value → Prop) : Prop where
  mono : ∀ {H H' : GHeap} {g : Value}, H.Le H' → R H g → R H' g
  imp : ∀ {T : Type} {enc : TypeId × Value → T} {B : Nat} {w0 : World} {ρ : Place} {H : GHeap} {w : World} {held : Bool} {base fuel : Nat} {v : Value} {x : DataW T × List MemPlace}, Sim P B w0 ρ H w → w.heap.size ≤ B →
    DataW.trod enc P w 0 (fun _ => true) held fuel t v.cells.toList = some x → Value.okWide P w .any base t v → ∃ ρ' H' g, Sim P B w0 ρ' H' w ∧ Ext ρ ρ' ∧ H.Le H' ∧ VRel ρ' g v ∧ R H' g

def structT (P : Program) (t : TypeId) : Bool := match P.underlying t with | some (.struct _) => true | _ => false
theorem imp1_struct {P : Program} {t : TypeId} {α β : Type} {cells : α → β → List Value} {I : GHeap → α → β → Prop} {W : α → Prop} (hm : ∀ {H H' : GHeap} {c : α} {p : β}, I H c p → H.Le H' → I H' c p)
    (hI : Imports P t (fun ρ H cs => ∃ (c : α) (p : β), LRel ρ (cells c p) cs ∧ I H c p ∧ W c)) (hst : structT P t = true) : Imp1 P t (fun H g => ∃ (c : α) (p : β), g = .agg (cells c p).toArray ∧ I H c p ∧ W c) where
  mono h := fun ⟨c, p, h1, h2, h3⟩ => ⟨c, p, h1, hm h2 h, h3⟩
  imp := by
    intro T enc B w0 ρ H w held base fuel v x hs hB h hv
    have hagg : ∃ cs, v = .agg cs := by
      unfold Value.okWide at hv
      unfold structT at hst
      split at hst
      · rename_i fs hu
        rw [hu] at hv
        obtain ⟨cs, h, _⟩ := hv
        exact ⟨cs, h⟩
      · cases hst
    obtain ⟨cs, rfl⟩ := hagg
    obtain ⟨ρ', H', h1, h2, h3, c, p, h4, h5, h6⟩ := hI hs hB h
    exact ⟨ρ', H', _, h1, h2, h3, by have := VRel.agg_of h4; simpa [Value.cells] using this, c, p, rfl, h5, h6⟩
theorem imp1_int {P : Program} {t : TypeId} (ht : i64T P t = true) : Imp1 P t (fun _ g => ∃ n, g = .int .i64 n ∧ I64 n) where
  mono _ := id
  imp := by
    intro T enc B w0 ρ H w held base fuel v x hs hB h hv
    obtain ⟨n, rfl⟩ := okWide_int (i64T_run ht) hv
    obtain ⟨ρ', H', h1, h2, h3, m, h4, h5⟩ := import_int ht hs hB h
    have : n = m := by simpa [Value.cells] using h4
    subst this
    exact ⟨ρ', H', _, h1, h2, h3, .int _ _, n, rfl, h5⟩
theorem imp1_ints {P : Program} {t : TypeId} (ht : intsT P t = true) : Imp1 P t (fun H g => ∃ a xs, g = .slice a xs.length xs.length ∧ Ints H a xs ∧ I64s xs) where
  mono h := fun ⟨a, xs, h1, h2, h3⟩ => ⟨a, xs, h1, h2.mono h, h3⟩
  imp := by
    intro T enc B w0 ρ H w held base fuel v x hs hB h hv
    obtain ⟨e, hu, _⟩ := intsT_run ht
    obtain ⟨a, l, c, rfl⟩ := okWide_slice hu hv
    obtain ⟨ρ', H', h1, h2, h3, a', xs, c', h4, h5, h6, h7⟩ := import_ints ht hs hB h
    have : Value.slice a l c = c' := by simpa [Value.cells] using h4
    subst this
    exact ⟨ρ', H', _, h1, h2, h3, h5, a', xs, rfl, h6, h7⟩
theorem imp1_intss {P : Program} {t : TypeId} (ht : intssT P t = true) : Imp1 P t (fun H g => ∃ a xss r, g = .slice a xss.length xss.length ∧ Intss H a xss r ∧ xss.length ≤ 9223372036854775807 ∧ ∀ i, I64s (xss.getD i [])) where
  mono h := fun ⟨a, xs, r, h1, h2, h3⟩ => ⟨a, xs, r, h1, h2.mono h, h3⟩
  imp := by
    intro T enc B w0 ρ H w held base fuel v x hs hB h hv
    obtain ⟨e, hu, _⟩ := intssT_run ht
    obtain ⟨a, l, c, rfl⟩ := okWide_slice hu hv
    obtain ⟨ρ', H', h1, h2, h3, a', xs, r, c', h4, h5, h6, h7⟩ := import_intss ht hs hB h
    have : Value.slice a l c = c' := by simpa [Value.cells] using h4
    subst this
    exact ⟨ρ', H', _, h1, h2, h3, h5, a', xs, r, rfl, h6, h7⟩
theorem imp1_intsss {P : Program} {t : TypeId} (ht : intsssT P t = true) : Imp1 P t (fun H g => ∃ a x r s, g = .slice a x.length x.length ∧ Intsss H a x r s ∧ Wd3 x) where
  mono h := fun ⟨a, xs, r, s, h1, h2, h3⟩ => ⟨a, xs, r, s, h1, h2.mono h, h3⟩
  imp := by
    intro T enc B w0 ρ H w held base fuel v x hs hB h hv
    obtain ⟨e, hu, _⟩ := intsssT_run ht
    obtain ⟨a, l, c, rfl⟩ := okWide_slice hu hv
    obtain ⟨ρ', H', h1, h2, h3, a', xs, r, s, c', h4, h5, h6, h7⟩ := import_intsss ht hs hB h
    have : Value.slice a l c = c' := by simpa [Value.cells] using h4
    subst this
    exact ⟨ρ', H', _, h1, h2, h3, h5, a', xs, r, s, rfl, h6, h7⟩

/-- Arguments of types ts may be brought in so that R holds of what stands for them. -/
structure ImpAll (P : Program) (ts : List TypeId) (R : GHeap → List Value → Prop) : Prop where
  imp : ∀ {T : Type} {enc : TypeId × Value → T} {B : Nat} {w0 : World} {ρ : Place} {H : GHeap} {w : World} {base : Nat} {vs : List Value} {ds : List (DataW T)} {ps : List MemPlace}, Sim P B w0 ρ H w → w.heap.size ≤ B →
    DataW.TrodAll enc P w 0 (fun _ => true) true ts vs ds ps → (∀ (j : Nat) t v, ts[j]? = some t → vs[j]? = some v → Value.okWide P w .any base t v) → ds.length = ts.length ∧ ∃ ρ' H' gs, Sim P B w0 ρ' H' w ∧ Ext ρ ρ' ∧ H.Le H' ∧ LRel ρ' gs vs ∧ R H' gs
theorem ImpAll.nil {P : Program} : ImpAll P [] (fun _ gs => gs = []) where
  imp := by
    intro T enc B w0 ρ H w base vs ds ps hs hB h hv
    obtain ⟨rfl, rfl, rfl⟩ := trodAll_nil h
    exact ⟨rfl, ρ, H, [], hs, .refl ρ, .refl H, .nil ρ, rfl⟩
theorem ImpAll.cons {P : Program} {t : TypeId} {ts : List TypeId} {R1 : GHeap → Value → Prop} {R : GHeap → List Value → Prop} (h1 : Imp1 P t R1) (h2 : ImpAll P ts R) : ImpAll P (t :: ts) (fun H gs => ∃ g r, gs = g :: r ∧ R1 H g ∧ R H r) where
  imp := by
    intro T enc B w0 ρ H w base vs ds ps hs hB h hv
    obtain ⟨v, vs, d, ds, p, q, rfl, rfl, rfl, ⟨fuel, k1⟩, k2⟩ := trodAll_cons h
    obtain ⟨ρ1, H1, g, s1, e1, l1, v1, r1⟩ := h1.imp hs hB k1 (hv 0 t v rfl rfl)
    obtain ⟨hl, ρ2, H2, gs, s2, e2, l2, v2, r2⟩ := h2.imp s1 hB k2 (fun j t v ht hj => hv (j + 1) t v (by simpa using ht) (by simpa using hj))
    exact ⟨by simp [hl], ρ2, H2, g :: gs, s2, e1.trans e2, l1.trans l2, .cons (v1.mono e2) v2, g, gs, rfl, h1.mono l2 r1, r2⟩

/-- The call of a law. -/
theorem law_calls {P : Program} {f : FuncId} {fn : Func} {ts : List TypeId} {tb : TypeId} {R : GHeap → List Value → Prop} (hI : ImpAll P ts R) (hp : fn.params = ts.toArray)
    (hc : ∀ H gs, R H gs → GCalls P f gs H fun v _ => v = .bool true)
    {T : Type} {enc : TypeId × Value → T} {W : World} {base : Nat} {args : Array Value} {s : ChangeSpec} {apart fresh handsOn again : Bool} {ds gs : List (DataW T)} {before : List MemPlace}
    (hval : ∀ (j : Nat) t v, fn.params[j]? = some t → args[j]? = some v → Value.okWide P W .any base t v)
    (hW : DataW.Whole enc P fn.params.toList s.vars apart W args.toList ds gs before)
    (hl : laidOutB P = true) (hr : readB P fn.params.toList = true) (hv : s.vars = []) (hrt : fn.resultTypes = #[tb]) (htb : P.underlying tb = some .bool)
    (hs : ∀ ds : List (DataW T), ds.length = ts.length → (s.fn T ds).results = [.lit (.bool true)] ∧ (s.fn T ds).args = ds ∧ (s.fn T ds).vars = []) :
    Calls P f args W fun e W' => ∃ v, e = .returned v ∧ s.post enc P fn apart fresh handsOn again W args v W' := by
  have hWW := hW
  obtain ⟨p, q, hA, _⟩ := hW
  rw [hp] at hA
  obtain ⟨hlen, ρ, H, gs', hs', _, _, hrel, hR⟩ := hI.imp (base := base) (Sim.start P W) (Nat.le_refl _) (by simpa using hA) (fun j t v ht hj => hval j t v (by rw [hp]; simpa using ht) (by simpa using hj))
  have := (hc H gs' hR) _ _ ρ args.toList W hs' hrel
  rw [Array.toArray_toList] at this
  refine this.mono fun e W' ⟨v, c, ρ', H', he, hv', _, hsim, hrv⟩ => ?_
  subst hv'
  cases hrv
  exact ⟨_, he, law_post hl hr hv hrt htb hWW (hs ds hlen).1 (hs ds hlen).2.1 (hs ds hlen).2.2 hsim.below⟩
end Go.GL
