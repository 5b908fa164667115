/- The search for transformations, whole. No condition but those of each statement. -/
import Derived.Test.YtpmjlhbglcaokaaZ9
namespace Go.Proofs.Ytpmjlhbglcaokaa
open Go Go.GL Go.RowKit Go.Proofs
theorem bt_122_Hc : buildT Try.prog 122 = some ([.int .i64 0, .slice none 0 0, .slice none 0 0, .slice none 0 0, .slice none 0 0, .int .i64 0, .slice none 0 0, .slice none 0 0, .slice none 0 0, .slice none 0 0, .slice none 0 0, .slice none 0 0, .int .i64 0, .slice none 0 0, .slice none 0 0, .slice none 0 0, .slice none 0 0, .int .i64 0, .slice none 0 0, .slice none 0 0, .slice none 0 0, .slice none 0 0, .slice none 0 0, .slice none 0 0, .bool false, .int .i64 0, .slice none 0 0], [(0, 12), (12, 12), (24, 1), (25, 1), (26, 1)]) := by kernel_rfl
theorem sz_122_Hc : (Try.prog.info? 122).map (·.size) = some 27 := by kernel_rfl
theorem st_build1 {f k : Fun} {p q : FunP} {iso : Bool} {most : Int} : fillL ([(0, 12), (12, 12), (24, 1), (25, 1), (26, 1)][·]?) [.int .i64 0, .slice none 0 0, .slice none 0 0, .slice none 0 0, .slice none 0 0, .int .i64 0, .slice none 0 0, .slice none 0 0, .slice none 0 0, .slice none 0 0, .slice none 0 0, .slice none 0 0, .int .i64 0, .slice none 0 0, .slice none 0 0, .slice none 0 0, .slice none 0 0, .int .i64 0, .slice none 0 0, .slice none 0 0, .slice none 0 0, .slice none 0 0, .slice none 0 0, .slice none 0 0, .bool false, .int .i64 0, .slice none 0 0] [(0, .agg (f.cells p).toArray), (1, .agg (k.cells q).toArray), (2, .bool iso), (3, .int .i64 most)] = some (stCells f p k q iso most none 0) := by kernel_rfl
theorem st_build2 {f k : Fun} {p q : FunP} {iso : Bool} {most : Int} {a : Option Addr} : fillL ([(0, 12), (12, 12), (24, 1), (25, 1), (26, 1)][·]?) [.int .i64 0, .slice none 0 0, .slice none 0 0, .slice none 0 0, .slice none 0 0, .int .i64 0, .slice none 0 0, .slice none 0 0, .slice none 0 0, .slice none 0 0, .slice none 0 0, .slice none 0 0, .int .i64 0, .slice none 0 0, .slice none 0 0, .slice none 0 0, .slice none 0 0, .int .i64 0, .slice none 0 0, .slice none 0 0, .slice none 0 0, .slice none 0 0, .slice none 0 0, .slice none 0 0, .bool false, .int .i64 0, .slice none 0 0] [(0, .agg (f.cells p).toArray), (1, .agg (k.cells q).toArray), (2, .bool iso), (3, .int .i64 most), (4, .slice a 0 0)] = some (stCells f p k q iso most a 0) := by kernel_rfl
set_option maxHeartbeats 4000000 in
theorem l07Find_c {f k : Fun} {p q : FunP} {iso : Bool} {M : Nat} {H : GHeap} (hin : f.In H p := by assumption) (hin1 : k.In H q := by assumption) (hP : f.Par k) (h1 : 1 ≤ M) (hM : M ≤ 1048576) :
    GCalls Try.prog 89 [.agg (f.cells p).toArray, .agg (k.cells q).toArray, .bool iso, .int .i64 (M : Int)] H (NewIntssR H (((f.net k iso).sols f.ob.length).take M)) := by
  have hs := hP.fi.1.1
  have b1 := hs.n40
  have b2 := hs.tl
  have b3 := hs.obj
  have b4 := hP.fi.2.2.ol
  have hgood := hP.fi.good k iso
  have hjl : (joinL f.ob.length ((f.s.endL f.s.src.length).map fun p => (pA p, pB p))).length = f.ob.length := length_joinL _ _
  refine GCalls.body (N := 105) (rs := [.tmp 8]) Try.func89 rfl rfl rfl rfl (fun Qx hret hend => ?_)
  refine .forget (fr' := [(0, some _), (1, some _), (2, some _), (3, some _)]) ⟨rfl, rfl, rfl, rfl, trivial⟩ ?_
  have hle := GHeap.Le.refl H
  have base_hin := hin
  have base_hin1 := hin1
  refine .seq (fun K1 hK1 => ?_)
  refine .region ?_
  refine .r rfl rfl rfl (.boxR rfl sz_34_E rfl) ?_
  rintro _ H4 ⟨g4, rfl, le4, ge4, at4⟩
  have nx_H4 := le4.1
  replace hle := hle.trans le4
  have lt_at4 := GHeap.lt_of_get at4
  replace hin := base_hin.mono hle
  replace hin1 := base_hin1.mono hle
  have hb4 : Fun.At _ g4 0 f p := ⟨Mem.of_get at4, hin⟩
  obtain ⟨fs4, ft4, c104, c114, j14, j24⟩ := hb4.get
  have hm4 : MemN _ _ _ _ _ := ⟨rfl, hb4.1⟩
  have hi4 := hb4.2
  have hms4 : MemN _ _ _ _ _ := ⟨rfl, fs4.1⟩
  have his4 := fs4.2
  have hmt4 : MemN _ _ _ _ _ := ⟨rfl, ft4.1⟩
  have hit4 := ft4.2
  refine .r rfl rfl rfl (.boxR rfl sz_34_E rfl) ?_
  rintro _ H5 ⟨g5, rfl, le5, ge5, at5⟩
  have nx_H5 := le5.1
  replace hle := hle.trans le5
  replace at4 := le5.2 _ _ at4
  have lt_at5 := GHeap.lt_of_get at5
  replace hin := base_hin.mono hle
  replace hin1 := base_hin1.mono hle
  clear hb4 fs4 ft4 c104 c114 j14 j24 hm4 hi4 hms4 his4 hmt4 hit4
  have hb4 : Fun.At _ g4 0 f p := ⟨Mem.of_get at4, hin⟩
  obtain ⟨fs4, ft4, c104, c114, j14, j24⟩ := hb4.get
  have hm4 : MemN _ _ _ _ _ := ⟨rfl, hb4.1⟩
  have hi4 := hb4.2
  have hms4 : MemN _ _ _ _ _ := ⟨rfl, fs4.1⟩
  have his4 := fs4.2
  have hmt4 : MemN _ _ _ _ _ := ⟨rfl, ft4.1⟩
  have hit4 := ft4.2
  have hb5 : Fun.At _ g5 0 k q := ⟨Mem.of_get at5, hin1⟩
  obtain ⟨fs5, ft5, c105, c115, j15, j25⟩ := hb5.get
  have hm5 : MemN _ _ _ _ _ := ⟨rfl, hb5.1⟩
  have hi5 := hb5.2
  have hms5 : MemN _ _ _ _ _ := ⟨rfl, fs5.1⟩
  have his5 := fs5.2
  have hmt5 : MemN _ _ _ _ _ := ⟨rfl, ft5.1⟩
  have hit5 := ft5.2
  refine .m rfl rfl rfl (.assign rfl) (.nil ?_)
  refine hK1 _ _ ?_
  refine .seq (fun K2 hK2 => ?_)
  refine .region (.m rfl rfl rfl (.fieldAddr fo_34_0_E rfl) ?_)
  refine .m rfl rfl rfl (.loadM ag_32_D rfl (by assumption)) ?_
  refine .r rfl rfl rfl (.allocR rfl ze_32_E rfl) ?_
  rintro _ H9 ⟨g9, rfl, le9, ge9, at9⟩
  have nx_H9 := le9.1
  replace hle := hle.trans le9
  replace at4 := le9.2 _ _ at4
  replace at5 := le9.2 _ _ at5
  have lt_at9 := GHeap.lt_of_get at9
  replace hin := base_hin.mono hle
  replace hin1 := base_hin1.mono hle
  clear hb4 fs4 ft4 c104 c114 j14 j24 hm4 hi4 hms4 his4 hmt4 hit4
  have hb4 : Fun.At _ g4 0 f p := ⟨Mem.of_get at4, hin⟩
  obtain ⟨fs4, ft4, c104, c114, j14, j24⟩ := hb4.get
  have hm4 : MemN _ _ _ _ _ := ⟨rfl, hb4.1⟩
  have hi4 := hb4.2
  have hms4 : MemN _ _ _ _ _ := ⟨rfl, fs4.1⟩
  have his4 := fs4.2
  have hmt4 : MemN _ _ _ _ _ := ⟨rfl, ft4.1⟩
  have hit4 := ft4.2
  clear hb5 fs5 ft5 c105 c115 j15 j25 hm5 hi5 hms5 his5 hmt5 hit5
  have hb5 : Fun.At _ g5 0 k q := ⟨Mem.of_get at5, hin1⟩
  obtain ⟨fs5, ft5, c105, c115, j15, j25⟩ := hb5.get
  have hm5 : MemN _ _ _ _ _ := ⟨rfl, hb5.1⟩
  have hi5 := hb5.2
  have hms5 : MemN _ _ _ _ _ := ⟨rfl, fs5.1⟩
  have his5 := fs5.2
  have hmt5 : MemN _ _ _ _ _ := ⟨rfl, ft5.1⟩
  have hit5 := ft5.2
  refine .r0 rfl rfl (.fillR rfl sz_32_D rfl rfl rfl rfl (by assumption) (by first | rfl | exact Nat.le_of_ble_eq_true rfl | simp)) ?_
  rintro _ H1003 ⟨rfl, st1003, at1003⟩
  have nx_H1003 := st1003.nx
  replace hle := hle.st st1003 (fun k hk => ⟨by omega, trivial⟩)
  replace at4 := st1003.same _ _ ⟨by omega, trivial⟩ at4
  replace at5 := st1003.same _ _ ⟨by omega, trivial⟩ at5
  have lt_at1003 := GHeap.lt_of_get at1003
  replace hin := base_hin.mono hle
  replace hin1 := base_hin1.mono hle
  clear hb4 fs4 ft4 c104 c114 j14 j24 hm4 hi4 hms4 his4 hmt4 hit4
  have hb4 : Fun.At _ g4 0 f p := ⟨Mem.of_get at4, hin⟩
  obtain ⟨fs4, ft4, c104, c114, j14, j24⟩ := hb4.get
  have hm4 : MemN _ _ _ _ _ := ⟨rfl, hb4.1⟩
  have hi4 := hb4.2
  have hms4 : MemN _ _ _ _ _ := ⟨rfl, fs4.1⟩
  have his4 := fs4.2
  have hmt4 : MemN _ _ _ _ _ := ⟨rfl, ft4.1⟩
  have hit4 := ft4.2
  clear hb5 fs5 ft5 c105 c115 j15 j25 hm5 hi5 hms5 his5 hmt5 hit5
  have hb5 : Fun.At _ g5 0 k q := ⟨Mem.of_get at5, hin1⟩
  obtain ⟨fs5, ft5, c105, c115, j15, j25⟩ := hb5.get
  have hm5 : MemN _ _ _ _ _ := ⟨rfl, hb5.1⟩
  have hi5 := hb5.2
  have hms5 : MemN _ _ _ _ _ := ⟨rfl, fs5.1⟩
  have his5 := fs5.2
  have hmt5 : MemN _ _ _ _ _ := ⟨rfl, ft5.1⟩
  have hit5 := ft5.2
  have mm1003 : MemN _ _ _ _ _ := ⟨rfl, Mem.of_get at1003⟩
  have hb9 : Cat.At _ g9 0 f.s p.s := ⟨Mem.of_get at1003, hin.1⟩
  obtain ⟨c09, c19, c29, c39, c49, i19, i29, i39, i49⟩ := hb9.get
  have hm9 : MemN _ _ _ _ _ := ⟨rfl, hb9.1⟩
  have hi9 := hb9.2
  refine .nil ?_
  refine hK2 _ _ ?_
  refine .seq (fun K3 hK3 => ?_)
  refine .region ?_
  refine .r rfl rfl rfl (.litR rfl sl_23_B ze_22_E rfl rfl (by omega) (by omega) rfl rfl) ?_
  rintro _ H21 ⟨g21, rfl, le21, ge21, at21⟩
  have nx_H21 := le21.1
  replace hle := hle.trans le21
  replace at4 := le21.2 _ _ at4
  replace at5 := le21.2 _ _ at5
  replace at1003 := le21.2 _ _ at1003
  have lt_at21 := GHeap.lt_of_get at21
  replace hin := base_hin.mono hle
  replace hin1 := base_hin1.mono hle
  clear hb4 fs4 ft4 c104 c114 j14 j24 hm4 hi4 hms4 his4 hmt4 hit4
  have hb4 : Fun.At _ g4 0 f p := ⟨Mem.of_get at4, hin⟩
  obtain ⟨fs4, ft4, c104, c114, j14, j24⟩ := hb4.get
  have hm4 : MemN _ _ _ _ _ := ⟨rfl, hb4.1⟩
  have hi4 := hb4.2
  have hms4 : MemN _ _ _ _ _ := ⟨rfl, fs4.1⟩
  have his4 := fs4.2
  have hmt4 : MemN _ _ _ _ _ := ⟨rfl, ft4.1⟩
  have hit4 := ft4.2
  clear hb5 fs5 ft5 c105 c115 j15 j25 hm5 hi5 hms5 his5 hmt5 hit5
  have hb5 : Fun.At _ g5 0 k q := ⟨Mem.of_get at5, hin1⟩
  obtain ⟨fs5, ft5, c105, c115, j15, j25⟩ := hb5.get
  have hm5 : MemN _ _ _ _ _ := ⟨rfl, hb5.1⟩
  have hi5 := hb5.2
  have hms5 : MemN _ _ _ _ _ := ⟨rfl, fs5.1⟩
  have his5 := fs5.2
  have hmt5 : MemN _ _ _ _ _ := ⟨rfl, ft5.1⟩
  have hit5 := ft5.2
  clear mm1003
  have mm1003 : MemN _ _ _ _ _ := ⟨rfl, Mem.of_get at1003⟩
  clear hb9 c09 c19 c29 c39 c49 i19 i29 i39 i49 hm9 hi9
  have hb9 : Cat.At _ g9 0 f.s p.s := ⟨Mem.of_get at1003, hin.1⟩
  obtain ⟨c09, c19, c29, c39, c49, i19, i29, i39, i49⟩ := hb9.get
  have hm9 : MemN _ _ _ _ _ := ⟨rfl, hb9.1⟩
  have hi9 := hb9.2
  refine .m rfl rfl rfl (.assign rfl) (.nil ?_)
  refine hK3 _ _ ?_
  refine .seq (fun K4 hK4 => ?_)
  refine .seq (fun K5 hK5 => ?_)
  refine .region (.m rfl rfl rfl (.assign rfl) (.nil ?_))
  refine hK5 _ _ ?_
  refine .block ?_
  refine .loopR (σ := Nat × (Nat → Option Addr) × Nat × Nat) [(2, some _), (3, some _), (4, some _), (5, some _), (9, some _)] (fun (a, rr, gL10, nL10) => [(11, some (.int .i64 (a : Int))), (10, some (.slice (some ⟨gL10, 0, none⟩) nL10 nL10))]) (fun (a, rr, gL10, nL10) H' => St [g21] H21 H' ∧ H'.get gL10 = some (.row ((slsL rr (f.s.endL a))) 22 true) ∧ (gL10 = g21 ∨ H21.next ≤ gL10) ∧ nL10 = (slsL rr (f.s.endL a)).length ∧ a ≤ f.s.src.length ∧ OwnL H.next H' 2 rr (f.s.endL a)) (fun (a, rr, gL10, nL10) => f.s.src.length - a) ((0, fun _ => none, _, _)) ⟨rfl, rfl, rfl, rfl, rfl, trivial⟩ ⟨rfl, rfl, trivial⟩ ?_ ?_
  ·
   refine ⟨.refl _ _, by first | assumption | exact at21 | simpa using at21, .inl rfl, by first | rfl | assumption | simp | omega, ?_⟩
   exact ⟨by omega, .nil _ _ _ _⟩
  rintro ⟨a, rr, gL10, nL10⟩ HL1 ⟨lst1, at_L10, pl_L10, ln_L10, hI⟩ KL1 hKL1
  refine .forget (fr' := [(11, some (.int .i64 (a : Int))), (10, some (.slice (some ⟨gL10, 0, none⟩) nL10 nL10)), (2, some _), (3, some _), (4, some _), (5, some _), (9, some _)]) ⟨rfl, rfl, rfl, rfl, rfl, rfl, rfl, trivial⟩ ?_
  have ge_L10 : H.next ≤ gL10 := by omega
  have nx_HL1 := lst1.nx
  replace hle := hle.st lst1 (fun k hk => ⟨by omega, trivial⟩)
  replace at4 := lst1.same _ _ ⟨by omega, trivial⟩ at4
  replace at5 := lst1.same _ _ ⟨by omega, trivial⟩ at5
  replace at1003 := lst1.same _ _ ⟨by omega, trivial⟩ at1003
  have lt_at_L10 := GHeap.lt_of_get at_L10
  replace hin := base_hin.mono hle
  replace hin1 := base_hin1.mono hle
  clear hb4 fs4 ft4 c104 c114 j14 j24 hm4 hi4 hms4 his4 hmt4 hit4
  have hb4 : Fun.At _ g4 0 f p := ⟨Mem.of_get at4, hin⟩
  obtain ⟨fs4, ft4, c104, c114, j14, j24⟩ := hb4.get
  have hm4 : MemN _ _ _ _ _ := ⟨rfl, hb4.1⟩
  have hi4 := hb4.2
  have hms4 : MemN _ _ _ _ _ := ⟨rfl, fs4.1⟩
  have his4 := fs4.2
  have hmt4 : MemN _ _ _ _ _ := ⟨rfl, ft4.1⟩
  have hit4 := ft4.2
  clear hb5 fs5 ft5 c105 c115 j15 j25 hm5 hi5 hms5 his5 hmt5 hit5
  have hb5 : Fun.At _ g5 0 k q := ⟨Mem.of_get at5, hin1⟩
  obtain ⟨fs5, ft5, c105, c115, j15, j25⟩ := hb5.get
  have hm5 : MemN _ _ _ _ _ := ⟨rfl, hb5.1⟩
  have hi5 := hb5.2
  have hms5 : MemN _ _ _ _ _ := ⟨rfl, fs5.1⟩
  have his5 := fs5.2
  have hmt5 : MemN _ _ _ _ _ := ⟨rfl, ft5.1⟩
  have hit5 := ft5.2
  clear mm1003
  have mm1003 : MemN _ _ _ _ _ := ⟨rfl, Mem.of_get at1003⟩
  clear hb9 c09 c19 c29 c39 c49 i19 i29 i39 i49 hm9 hi9
  have hb9 : Cat.At _ g9 0 f.s p.s := ⟨Mem.of_get at1003, hin.1⟩
  obtain ⟨c09, c19, c29, c39, c49, i19, i29, i39, i49⟩ := hb9.get
  have hm9 : MemN _ _ _ _ _ := ⟨rfl, hb9.1⟩
  have hi9 := hb9.2
  have rk := St.refl [gL10] HL1
  obtain ⟨ha, hR⟩ := hI
  have hat10 := at_L10
  have hfl : (slsL rr (f.s.endL a)).length = (f.s.endL a).length := length_slsL _ _
  have hpl := Cat.length_endL f.s a
  refine .seq (fun K6 hK6 => ?_)
  refine .seq (fun K7 hK7 => ?_)
  refine .region (.m rfl rfl rfl (.move rfl) (.m rfl rfl rfl (.fieldAddr fo_32_1_B rfl) ?_))
  refine .m rfl rfl rfl (.load on_22_B rfl (by first | assumption | exact Mem.of_get at1003 1 _ rfl)) ?_
  refine .m rfl rfl rfl (.len sl_22_A rfl) (.m rfl rfl rfl (.cmp rfl rfl rfl) (.nil ?_))
  refine hK7 _ _ ?_
  refine .cond rfl (fun h26 => ?_) (fun h26 => ?_)
  ·
   simp only [sps] at h26
   refine .skip ?_
   refine hK6 _ _ ?_
   refine .seq (fun K8 hK8 => ?_)
   refine .block ?_
   refine .regionD mixed_orders_B (.q 0 (.q 1 (.q 2 (.q 3 (.q 4 (.q 5 (.q 6 (.q 7 (.q 8 (.q 9 (.q 10 (.c 11 1 (.c 12 1 (.c 13 0 (.c 14 0 (.done)))))))))))))))) (by kernel_rfl) ?_
   refine .m rfl rfl rfl rfl (.refl _) (.move rfl) (.m rfl rfl rfl rfl (.refl _) (.fieldAddr fo_32_1_B rfl) ?_)
   refine .m rfl rfl rfl rfl (.refl _) (.load on_22_B rfl (by first | assumption | exact Mem.of_get at1003 1 _ rfl)) ?_
   refine .m rfl rfl rfl rfl (.refl _) (.move rfl) ?_
   refine .m rfl rfl rfl rfl (.refl _) (.idxN sl_22_A (by assumption) rfl rfl (by omega)) ?_
   refine .m rfl rfl rfl rfl (.refl _) (.loadI on_2_A (by assumption) rfl (by omega)) ?_
   refine .m rfl rfl rfl rfl (.refl _) (.fieldAddr fo_32_2_B rfl) ?_
   refine .m rfl rfl rfl rfl (.refl _) (.load on_22_B rfl (by first | assumption | exact Mem.of_get at1003 2 _ rfl)) ?_
   refine .m rfl rfl rfl rfl (.refl _) (.move rfl) ?_
   refine .m rfl rfl rfl rfl (.refl _) (.idxN sl_22_A (by assumption) rfl rfl (by omega)) ?_
   refine .m rfl rfl rfl rfl (.refl _) (.loadI on_2_A (by assumption) rfl (by omega)) ?_
   refine .c1 rfl rfl rfl rfl (.litR rfl sl_22_A ze_2_E rfl rfl (by omega) (by omega) rfl rfl) ?_
   rintro _ H40 ⟨g40, rfl, le40, ge40, at40⟩
   have hbl := le40
   refine ⟨hbl, ?_⟩
   have nx_H40 := le40.1
   replace hle := hle.trans le40
   replace lst1 := lst1.le le40
   replace rk := rk.le le40
   replace at4 := le40.2 _ _ at4
   replace at5 := le40.2 _ _ at5
   replace at1003 := le40.2 _ _ at1003
   replace at_L10 := le40.2 _ _ at_L10
   have lt_at40 := GHeap.lt_of_get at40
   replace hin := base_hin.mono hle
   replace hin1 := base_hin1.mono hle
   clear hb4 fs4 ft4 c104 c114 j14 j24 hm4 hi4 hms4 his4 hmt4 hit4
   have hb4 : Fun.At _ g4 0 f p := ⟨Mem.of_get at4, hin⟩
   obtain ⟨fs4, ft4, c104, c114, j14, j24⟩ := hb4.get
   have hm4 : MemN _ _ _ _ _ := ⟨rfl, hb4.1⟩
   have hi4 := hb4.2
   have hms4 : MemN _ _ _ _ _ := ⟨rfl, fs4.1⟩
   have his4 := fs4.2
   have hmt4 : MemN _ _ _ _ _ := ⟨rfl, ft4.1⟩
   have hit4 := ft4.2
   clear hb5 fs5 ft5 c105 c115 j15 j25 hm5 hi5 hms5 his5 hmt5 hit5
   have hb5 : Fun.At _ g5 0 k q := ⟨Mem.of_get at5, hin1⟩
   obtain ⟨fs5, ft5, c105, c115, j15, j25⟩ := hb5.get
   have hm5 : MemN _ _ _ _ _ := ⟨rfl, hb5.1⟩
   have hi5 := hb5.2
   have hms5 : MemN _ _ _ _ _ := ⟨rfl, fs5.1⟩
   have his5 := fs5.2
   have hmt5 : MemN _ _ _ _ _ := ⟨rfl, ft5.1⟩
   have hit5 := ft5.2
   clear mm1003
   have mm1003 : MemN _ _ _ _ _ := ⟨rfl, Mem.of_get at1003⟩
   clear hb9 c09 c19 c29 c39 c49 i19 i29 i39 i49 hm9 hi9
   have hb9 : Cat.At _ g9 0 f.s p.s := ⟨Mem.of_get at1003, hin.1⟩
   obtain ⟨c09, c19, c29, c39, c49, i19, i29, i39, i49⟩ := hb9.get
   have hm9 : MemN _ _ _ _ _ := ⟨rfl, hb9.1⟩
   have hi9 := hb9.2
   refine .c1 rfl rfl rfl rfl (.litR rfl sl_23_B ze_22_E rfl rfl (by omega) (by omega) rfl rfl) ?_
   rintro _ H41 ⟨g41, rfl, le41, ge41, at41⟩
   replace hbl := hbl.trans le41
   refine ⟨hbl, ?_⟩
   have nx_H41 := le41.1
   replace hle := hle.trans le41
   replace lst1 := lst1.le le41
   replace rk := rk.le le41
   replace at4 := le41.2 _ _ at4
   replace at5 := le41.2 _ _ at5
   replace at1003 := le41.2 _ _ at1003
   replace at_L10 := le41.2 _ _ at_L10
   replace at40 := le41.2 _ _ at40
   have lt_at41 := GHeap.lt_of_get at41
   replace hin := base_hin.mono hle
   replace hin1 := base_hin1.mono hle
   clear hb4 fs4 ft4 c104 c114 j14 j24 hm4 hi4 hms4 his4 hmt4 hit4
   have hb4 : Fun.At _ g4 0 f p := ⟨Mem.of_get at4, hin⟩
   obtain ⟨fs4, ft4, c104, c114, j14, j24⟩ := hb4.get
   have hm4 : MemN _ _ _ _ _ := ⟨rfl, hb4.1⟩
   have hi4 := hb4.2
   have hms4 : MemN _ _ _ _ _ := ⟨rfl, fs4.1⟩
   have his4 := fs4.2
   have hmt4 : MemN _ _ _ _ _ := ⟨rfl, ft4.1⟩
   have hit4 := ft4.2
   clear hb5 fs5 ft5 c105 c115 j15 j25 hm5 hi5 hms5 his5 hmt5 hit5
   have hb5 : Fun.At _ g5 0 k q := ⟨Mem.of_get at5, hin1⟩
   obtain ⟨fs5, ft5, c105, c115, j15, j25⟩ := hb5.get
   have hm5 : MemN _ _ _ _ _ := ⟨rfl, hb5.1⟩
   have hi5 := hb5.2
   have hms5 : MemN _ _ _ _ _ := ⟨rfl, fs5.1⟩
   have his5 := fs5.2
   have hmt5 : MemN _ _ _ _ _ := ⟨rfl, ft5.1⟩
   have hit5 := ft5.2
   clear mm1003
   have mm1003 : MemN _ _ _ _ _ := ⟨rfl, Mem.of_get at1003⟩
   clear hb9 c09 c19 c29 c39 c49 i19 i29 i39 i49 hm9 hi9
   have hb9 : Cat.At _ g9 0 f.s p.s := ⟨Mem.of_get at1003, hin.1⟩
   obtain ⟨c09, c19, c29, c39, c49, i19, i29, i39, i49⟩ := hb9.get
   have hm9 : MemN _ _ _ _ _ := ⟨rfl, hb9.1⟩
   have hi9 := hb9.2
   refine .c0 rfl rfl rfl rfl (.appendV rfl sl_23_B ze_22_E rfl by_22_E sl_23_B rfl rfl (by assumption) (by assumption) (by first | omega | (simp <;> omega)) rfl rfl (by omega) (by omega)) ?_
   rintro _ H42 ⟨g42, rfl, st42, ge42, at42⟩
   have nx_H42 := st42.nx
   replace hle := hle.st st42 (fun k hk => ⟨by omega, trivial⟩)
   replace lst1 := lst1.st st42 (fun k hk ho => by simp only [out, and_true] at ho ⊢ <;> omega)
   replace rk := rk.st st42 (fun k hk ho => by simp only [out, and_true] at ho ⊢ <;> omega)
   replace at4 := st42.same _ _ ⟨by omega, trivial⟩ at4
   replace at5 := st42.same _ _ ⟨by omega, trivial⟩ at5
   replace at1003 := st42.same _ _ ⟨by omega, trivial⟩ at1003
   replace at40 := st42.same _ _ ⟨by omega, trivial⟩ at40
   replace at41 := st42.same _ _ ⟨by omega, trivial⟩ at41
   have lt_at42 := GHeap.lt_of_get at42
   replace hin := base_hin.mono hle
   replace hin1 := base_hin1.mono hle
   clear hb4 fs4 ft4 c104 c114 j14 j24 hm4 hi4 hms4 his4 hmt4 hit4
   have hb4 : Fun.At _ g4 0 f p := ⟨Mem.of_get at4, hin⟩
   obtain ⟨fs4, ft4, c104, c114, j14, j24⟩ := hb4.get
   have hm4 : MemN _ _ _ _ _ := ⟨rfl, hb4.1⟩
   have hi4 := hb4.2
   have hms4 : MemN _ _ _ _ _ := ⟨rfl, fs4.1⟩
   have his4 := fs4.2
   have hmt4 : MemN _ _ _ _ _ := ⟨rfl, ft4.1⟩
   have hit4 := ft4.2
   clear hb5 fs5 ft5 c105 c115 j15 j25 hm5 hi5 hms5 his5 hmt5 hit5
   have hb5 : Fun.At _ g5 0 k q := ⟨Mem.of_get at5, hin1⟩
   obtain ⟨fs5, ft5, c105, c115, j15, j25⟩ := hb5.get
   have hm5 : MemN _ _ _ _ _ := ⟨rfl, hb5.1⟩
   have hi5 := hb5.2
   have hms5 : MemN _ _ _ _ _ := ⟨rfl, fs5.1⟩
   have his5 := fs5.2
   have hmt5 : MemN _ _ _ _ _ := ⟨rfl, ft5.1⟩
   have hit5 := ft5.2
   clear mm1003
   have mm1003 : MemN _ _ _ _ _ := ⟨rfl, Mem.of_get at1003⟩
   clear hb9 c09 c19 c29 c39 c49 i19 i29 i39 i49 hm9 hi9
   have hb9 : Cat.At _ g9 0 f.s p.s := ⟨Mem.of_get at1003, hin.1⟩
   obtain ⟨c09, c19, c29, c39, c49, i19, i29, i39, i49⟩ := hb9.get
   have hm9 : MemN _ _ _ _ _ := ⟨rfl, hb9.1⟩
   have hi9 := hb9.2
   refine .d0 rfl rfl rfl rfl (.quiet (.assign rfl) CIs.mk) ?_
   refine .done ?_
   refine hK8 _ _ ?_
   refine .region (.m rfl rfl rfl (.move rfl) ?_)
   refine .m rfl rfl rfl (.add rfl rfl rfl (by omega) (by omega)) ?_
   refine .m rfl rfl rfl (.assign rfl) (.nil ?_)
   refine hKL1 ((a + 1, upd rr (f.s.endL a).length (some ⟨g40, 0, none⟩), _, _)) _ _ ?_ ?_ ⟨rfl, rfl, rfl, rfl, rfl, rfl, rfl, trivial⟩
   ·
    refine ⟨lst1, by first | assumption | (rw [Cat.endL_succ, slsL_snoc]; assumption), by omega, by first | omega | (simp only [List.length_append, List.length_cons, List.length_nil] <;> omega) | (rw [Cat.endL_succ, slsL_snoc] <;> (first | omega | (simp only [List.length_append, List.length_cons, List.length_nil] <;> omega))), ?_⟩
    exact ⟨by omega, by rw [Cat.endL_succ]; exact hR.snoc (x := [f.s.src.getD a 0, f.s.tgt.getD a 0]) (rk.lasts1 hat10 rfl) (by assumption) (by omega) (by omega)⟩
   (dsimp only; omega)
  try simp only [sps] at h26
  refine .exit ?_
  refine hK4 _ _ ?_
  refine .seq (fun K9 hK9 => ?_)
  refine .region (.m rfl rfl rfl (.fieldAddr fo_32_0_B rfl) ?_)
  refine .m rfl rfl rfl (.load on_2_A rfl (by first | assumption | exact Mem.of_get at1003 0 _ rfl)) ?_
  refine .m rfl rfl rfl (.move rfl) ?_
  obtain rfl : a = f.s.src.length := by omega
  have hiss := hR.intss at_L10 (by omega)
  have hfl : (slsL rr (f.s.endL f.s.src.length)).length = (f.s.endL f.s.src.length).length := length_slsL _ _
  have hpl := Cat.length_endL f.s f.s.src.length
  refine .call rfl rfl rfl rfl @Try.call98 rfl (l01JoinN_c (n := f.ob.length) (by omega) (by omega) hiss (by omega) (by omega) (fun i hi => by rw [Cat.endL_get (by omega)]; have w1 := hs.src i (by omega); have w2 := hs.tgt i (by omega); exact ⟨Nat.le_refl _, w1.1, by show f.s.src.getD i 0 < _; omega, w2.1, by show f.s.tgt.getD i 0 < _; omega⟩)) ?_
  rintro _ H46 ⟨le46, g46, rfl, at46, ge46⟩
  have nx_H46 := le46.1
  replace hle := hle.trans le46
  replace at4 := le46.2 _ _ at4
  replace at5 := le46.2 _ _ at5
  replace at1003 := le46.2 _ _ at1003
  replace at_L10 := le46.2 _ _ at_L10
  have lt_at46 := GHeap.lt_of_get at46
  replace hin := base_hin.mono hle
  replace hin1 := base_hin1.mono hle
  clear hb4 fs4 ft4 c104 c114 j14 j24 hm4 hi4 hms4 his4 hmt4 hit4
  have hb4 : Fun.At _ g4 0 f p := ⟨Mem.of_get at4, hin⟩
  obtain ⟨fs4, ft4, c104, c114, j14, j24⟩ := hb4.get
  have hm4 : MemN _ _ _ _ _ := ⟨rfl, hb4.1⟩
  have hi4 := hb4.2
  have hms4 : MemN _ _ _ _ _ := ⟨rfl, fs4.1⟩
  have his4 := fs4.2
  have hmt4 : MemN _ _ _ _ _ := ⟨rfl, ft4.1⟩
  have hit4 := ft4.2
  clear hb5 fs5 ft5 c105 c115 j15 j25 hm5 hi5 hms5 his5 hmt5 hit5
  have hb5 : Fun.At _ g5 0 k q := ⟨Mem.of_get at5, hin1⟩
  obtain ⟨fs5, ft5, c105, c115, j15, j25⟩ := hb5.get
  have hm5 : MemN _ _ _ _ _ := ⟨rfl, hb5.1⟩
  have hi5 := hb5.2
  have hms5 : MemN _ _ _ _ _ := ⟨rfl, fs5.1⟩
  have his5 := fs5.2
  have hmt5 : MemN _ _ _ _ _ := ⟨rfl, ft5.1⟩
  have hit5 := ft5.2
  clear mm1003
  have mm1003 : MemN _ _ _ _ _ := ⟨rfl, Mem.of_get at1003⟩
  clear hb9 c09 c19 c29 c39 c49 i19 i29 i39 i49 hm9 hi9
  have hb9 : Cat.At _ g9 0 f.s p.s := ⟨Mem.of_get at1003, hin.1⟩
  obtain ⟨c09, c19, c29, c39, c49, i19, i29, i39, i49⟩ := hb9.get
  have hm9 : MemN _ _ _ _ _ := ⟨rfl, hb9.1⟩
  have hi9 := hb9.2
  have i46 := Ints.of_get at46
  refine .m rfl rfl rfl (.assign rfl) (.nil ?_)
  refine hK9 _ _ ?_
  refine .seq (fun K10 hK10 => ?_)
  refine .region ?_
  refine .r rfl rfl rfl (.litR rfl sl_22_A ze_2_E rfl rfl (by omega) (by omega) rfl rfl) ?_
  rintro _ H47 ⟨g47, rfl, le47, ge47, at47⟩
  have nx_H47 := le47.1
  replace hle := hle.trans le47
  replace at4 := le47.2 _ _ at4
  replace at5 := le47.2 _ _ at5
  replace at1003 := le47.2 _ _ at1003
  replace at_L10 := le47.2 _ _ at_L10
  replace at46 := le47.2 _ _ at46
  have lt_at47 := GHeap.lt_of_get at47
  replace hin := base_hin.mono hle
  replace hin1 := base_hin1.mono hle
  clear hb4 fs4 ft4 c104 c114 j14 j24 hm4 hi4 hms4 his4 hmt4 hit4
  have hb4 : Fun.At _ g4 0 f p := ⟨Mem.of_get at4, hin⟩
  obtain ⟨fs4, ft4, c104, c114, j14, j24⟩ := hb4.get
  have hm4 : MemN _ _ _ _ _ := ⟨rfl, hb4.1⟩
  have hi4 := hb4.2
  have hms4 : MemN _ _ _ _ _ := ⟨rfl, fs4.1⟩
  have his4 := fs4.2
  have hmt4 : MemN _ _ _ _ _ := ⟨rfl, ft4.1⟩
  have hit4 := ft4.2
  clear hb5 fs5 ft5 c105 c115 j15 j25 hm5 hi5 hms5 his5 hmt5 hit5
  have hb5 : Fun.At _ g5 0 k q := ⟨Mem.of_get at5, hin1⟩
  obtain ⟨fs5, ft5, c105, c115, j15, j25⟩ := hb5.get
  have hm5 : MemN _ _ _ _ _ := ⟨rfl, hb5.1⟩
  have hi5 := hb5.2
  have hms5 : MemN _ _ _ _ _ := ⟨rfl, fs5.1⟩
  have his5 := fs5.2
  have hmt5 : MemN _ _ _ _ _ := ⟨rfl, ft5.1⟩
  have hit5 := ft5.2
  clear mm1003
  have mm1003 : MemN _ _ _ _ _ := ⟨rfl, Mem.of_get at1003⟩
  clear hb9 c09 c19 c29 c39 c49 i19 i29 i39 i49 hm9 hi9
  have hb9 : Cat.At _ g9 0 f.s p.s := ⟨Mem.of_get at1003, hin.1⟩
  obtain ⟨c09, c19, c29, c39, c49, i19, i29, i39, i49⟩ := hb9.get
  have hm9 : MemN _ _ _ _ _ := ⟨rfl, hb9.1⟩
  have hi9 := hb9.2
  clear i46
  have i46 := Ints.of_get at46
  replace at47 : GHeap.get H47 g47 = some (.row (ints []) 2 true) := at47
  refine .m rfl rfl rfl (.assign rfl) (.nil ?_)
  refine hK10 _ _ ?_
  refine .seq (fun K11 hK11 => ?_)
  refine .seq (fun K12 hK12 => ?_)
  refine .region (.m rfl rfl rfl (.assign rfl) (.nil ?_))
  refine hK12 _ _ ?_
  refine .block ?_
  refine .loopR (σ := Nat × Nat × Nat) [(2, some _), (3, some _), (4, some _), (5, some _), (12, some _)] (fun (x, gL13, nL13) => [(14, some (.int .i64 (x : Int))), (13, some (.slice (some ⟨gL13, 0, none⟩) nL13 nL13))]) (fun (x, gL13, nL13) H' => St [g47] H47 H' ∧ H'.get gL13 = some (.row (ints (List.replicate x (-1))) 2 true) ∧ (gL13 = g47 ∨ H47.next ≤ gL13) ∧ nL13 = (List.replicate x (-1)).length ∧ x ≤ f.ob.length) (fun (x, gL13, nL13) => f.ob.length - x) ((0, _, _)) ⟨rfl, rfl, rfl, rfl, rfl, trivial⟩ ⟨rfl, rfl, trivial⟩ ?_ ?_
  ·
   refine ⟨.refl _ _, by first | assumption | exact at47 | simpa using at47, .inl rfl, by first | rfl | assumption | simp | omega, ?_⟩
   omega
  rintro ⟨x, gL13, nL13⟩ HL2 ⟨lst2, at_L13, pl_L13, ln_L13, hI⟩ KL2 hKL2
  refine .forget (fr' := [(14, some (.int .i64 (x : Int))), (13, some (.slice (some ⟨gL13, 0, none⟩) nL13 nL13)), (2, some _), (3, some _), (4, some _), (5, some _), (12, some _)]) ⟨rfl, rfl, rfl, rfl, rfl, rfl, rfl, trivial⟩ ?_
  have ge_L13 : H.next ≤ gL13 := by omega
  have nx_HL2 := lst2.nx
  replace hle := hle.st lst2 (fun k hk => ⟨by omega, trivial⟩)
  replace at4 := lst2.same _ _ ⟨by omega, trivial⟩ at4
  replace at5 := lst2.same _ _ ⟨by omega, trivial⟩ at5
  replace at1003 := lst2.same _ _ ⟨by omega, trivial⟩ at1003
  replace at_L10 := lst2.same _ _ ⟨by omega, trivial⟩ at_L10
  replace at46 := lst2.same _ _ ⟨by omega, trivial⟩ at46
  have lt_at_L13 := GHeap.lt_of_get at_L13
  replace hin := base_hin.mono hle
  replace hin1 := base_hin1.mono hle
  clear hb4 fs4 ft4 c104 c114 j14 j24 hm4 hi4 hms4 his4 hmt4 hit4
  have hb4 : Fun.At _ g4 0 f p := ⟨Mem.of_get at4, hin⟩
  obtain ⟨fs4, ft4, c104, c114, j14, j24⟩ := hb4.get
  have hm4 : MemN _ _ _ _ _ := ⟨rfl, hb4.1⟩
  have hi4 := hb4.2
  have hms4 : MemN _ _ _ _ _ := ⟨rfl, fs4.1⟩
  have his4 := fs4.2
  have hmt4 : MemN _ _ _ _ _ := ⟨rfl, ft4.1⟩
  have hit4 := ft4.2
  clear hb5 fs5 ft5 c105 c115 j15 j25 hm5 hi5 hms5 his5 hmt5 hit5
  have hb5 : Fun.At _ g5 0 k q := ⟨Mem.of_get at5, hin1⟩
  obtain ⟨fs5, ft5, c105, c115, j15, j25⟩ := hb5.get
  have hm5 : MemN _ _ _ _ _ := ⟨rfl, hb5.1⟩
  have hi5 := hb5.2
  have hms5 : MemN _ _ _ _ _ := ⟨rfl, fs5.1⟩
  have his5 := fs5.2
  have hmt5 : MemN _ _ _ _ _ := ⟨rfl, ft5.1⟩
  have hit5 := ft5.2
  clear mm1003
  have mm1003 : MemN _ _ _ _ _ := ⟨rfl, Mem.of_get at1003⟩
  clear hb9 c09 c19 c29 c39 c49 i19 i29 i39 i49 hm9 hi9
  have hb9 : Cat.At _ g9 0 f.s p.s := ⟨Mem.of_get at1003, hin.1⟩
  obtain ⟨c09, c19, c29, c39, c49, i19, i29, i39, i49⟩ := hb9.get
  have hm9 : MemN _ _ _ _ _ := ⟨rfl, hb9.1⟩
  have hi9 := hb9.2
  clear i46
  have i46 := Ints.of_get at46
  have hrl : (List.replicate x (-1 : Int)).length = x := List.length_replicate
  refine .seq (fun K13 hK13 => ?_)
  refine .seq (fun K14 hK14 => ?_)
  refine .region (.m rfl rfl rfl (.move rfl) (.m rfl rfl rfl (.move rfl) (.m rfl rfl rfl (.len sl_22_A rfl) ?_)))
  refine .m rfl rfl rfl (.cmp rfl rfl rfl) (.nil ?_)
  refine hK14 _ _ ?_
  refine .cond rfl (fun h51 => ?_) (fun h51 => ?_)
  ·
   simp only [sps, length_joinL] at h51
   refine .skip ?_
   refine hK13 _ _ ?_
   refine .seq (fun K15 hK15 => ?_)
   refine .block ?_
   refine .seq (fun K16 hK16 => ?_)
   refine .region (.m rfl rfl rfl (.move rfl) ?_)
   refine .r rfl rfl rfl (.litR rfl sl_22_A ze_2_E rfl rfl (by omega) (by omega) rfl rfl) ?_
   rintro _ H55 ⟨g55, rfl, le55, ge55, at55⟩
   have nx_H55 := le55.1
   replace hle := hle.trans le55
   replace lst2 := lst2.le le55
   replace at4 := le55.2 _ _ at4
   replace at5 := le55.2 _ _ at5
   replace at1003 := le55.2 _ _ at1003
   replace at_L10 := le55.2 _ _ at_L10
   replace at46 := le55.2 _ _ at46
   replace at_L13 := le55.2 _ _ at_L13
   have lt_at55 := GHeap.lt_of_get at55
   replace hin := base_hin.mono hle
   replace hin1 := base_hin1.mono hle
   clear hb4 fs4 ft4 c104 c114 j14 j24 hm4 hi4 hms4 his4 hmt4 hit4
   have hb4 : Fun.At _ g4 0 f p := ⟨Mem.of_get at4, hin⟩
   obtain ⟨fs4, ft4, c104, c114, j14, j24⟩ := hb4.get
   have hm4 : MemN _ _ _ _ _ := ⟨rfl, hb4.1⟩
   have hi4 := hb4.2
   have hms4 : MemN _ _ _ _ _ := ⟨rfl, fs4.1⟩
   have his4 := fs4.2
   have hmt4 : MemN _ _ _ _ _ := ⟨rfl, ft4.1⟩
   have hit4 := ft4.2
   clear hb5 fs5 ft5 c105 c115 j15 j25 hm5 hi5 hms5 his5 hmt5 hit5
   have hb5 : Fun.At _ g5 0 k q := ⟨Mem.of_get at5, hin1⟩
   obtain ⟨fs5, ft5, c105, c115, j15, j25⟩ := hb5.get
   have hm5 : MemN _ _ _ _ _ := ⟨rfl, hb5.1⟩
   have hi5 := hb5.2
   have hms5 : MemN _ _ _ _ _ := ⟨rfl, fs5.1⟩
   have his5 := fs5.2
   have hmt5 : MemN _ _ _ _ _ := ⟨rfl, ft5.1⟩
   have hit5 := ft5.2
   clear mm1003
   have mm1003 : MemN _ _ _ _ _ := ⟨rfl, Mem.of_get at1003⟩
   clear hb9 c09 c19 c29 c39 c49 i19 i29 i39 i49 hm9 hi9
   have hb9 : Cat.At _ g9 0 f.s p.s := ⟨Mem.of_get at1003, hin.1⟩
   obtain ⟨c09, c19, c29, c39, c49, i19, i29, i39, i49⟩ := hb9.get
   have hm9 : MemN _ _ _ _ _ := ⟨rfl, hb9.1⟩
   have hi9 := hb9.2
   clear i46
   have i46 := Ints.of_get at46
   refine .r rfl rfl rfl (.appendI rfl sl_22_A ze_2_E rfl by_2_E sl_22_A rfl rfl (by assumption) (by assumption) (by first | omega | (simp <;> omega)) (by omega) (by omega)) ?_
   rintro _ H56 ⟨g56, rfl, st56, ge56, at56⟩
   have nx_H56 := st56.nx
   replace hle := hle.st st56 (fun k hk => ⟨by omega, trivial⟩)
   replace lst2 := lst2.st st56 (fun k hk ho => by simp only [out, and_true] at ho ⊢ <;> omega)
   replace at4 := st56.same _ _ ⟨by omega, trivial⟩ at4
   replace at5 := st56.same _ _ ⟨by omega, trivial⟩ at5
   replace at1003 := st56.same _ _ ⟨by omega, trivial⟩ at1003
   replace at_L10 := st56.same _ _ ⟨by omega, trivial⟩ at_L10
   replace at46 := st56.same _ _ ⟨by omega, trivial⟩ at46
   replace at55 := st56.same _ _ ⟨by omega, trivial⟩ at55
   have lt_at56 := GHeap.lt_of_get at56
   replace hin := base_hin.mono hle
   replace hin1 := base_hin1.mono hle
   clear hb4 fs4 ft4 c104 c114 j14 j24 hm4 hi4 hms4 his4 hmt4 hit4
   have hb4 : Fun.At _ g4 0 f p := ⟨Mem.of_get at4, hin⟩
   obtain ⟨fs4, ft4, c104, c114, j14, j24⟩ := hb4.get
   have hm4 : MemN _ _ _ _ _ := ⟨rfl, hb4.1⟩
   have hi4 := hb4.2
   have hms4 : MemN _ _ _ _ _ := ⟨rfl, fs4.1⟩
   have his4 := fs4.2
   have hmt4 : MemN _ _ _ _ _ := ⟨rfl, ft4.1⟩
   have hit4 := ft4.2
   clear hb5 fs5 ft5 c105 c115 j15 j25 hm5 hi5 hms5 his5 hmt5 hit5
   have hb5 : Fun.At _ g5 0 k q := ⟨Mem.of_get at5, hin1⟩
   obtain ⟨fs5, ft5, c105, c115, j15, j25⟩ := hb5.get
   have hm5 : MemN _ _ _ _ _ := ⟨rfl, hb5.1⟩
   have hi5 := hb5.2
   have hms5 : MemN _ _ _ _ _ := ⟨rfl, fs5.1⟩
   have his5 := fs5.2
   have hmt5 : MemN _ _ _ _ _ := ⟨rfl, ft5.1⟩
   have hit5 := ft5.2
   clear mm1003
   have mm1003 : MemN _ _ _ _ _ := ⟨rfl, Mem.of_get at1003⟩
   clear hb9 c09 c19 c29 c39 c49 i19 i29 i39 i49 hm9 hi9
   have hb9 : Cat.At _ g9 0 f.s p.s := ⟨Mem.of_get at1003, hin.1⟩
   obtain ⟨c09, c19, c29, c39, c49, i19, i29, i39, i49⟩ := hb9.get
   have hm9 : MemN _ _ _ _ _ := ⟨rfl, hb9.1⟩
   have hi9 := hb9.2
   clear i46
   have i46 := Ints.of_get at46
   refine .m rfl rfl rfl (.assign rfl) (.nil ?_)
   refine hK16 _ _ ?_
   refine .seq (fun K17 hK17 => ?_)
   refine .region ?_
   refine .r rfl rfl rfl (.litR rfl sl_22_A ze_2_E rfl rfl (by omega) (by omega) rfl rfl) ?_
   rintro _ H57 ⟨g57, rfl, le57, ge57, at57⟩
   have nx_H57 := le57.1
   replace hle := hle.trans le57
   replace lst2 := lst2.le le57
   replace at4 := le57.2 _ _ at4
   replace at5 := le57.2 _ _ at5
   replace at1003 := le57.2 _ _ at1003
   replace at_L10 := le57.2 _ _ at_L10
   replace at46 := le57.2 _ _ at46
   replace at55 := le57.2 _ _ at55
   replace at56 := le57.2 _ _ at56
   have lt_at57 := GHeap.lt_of_get at57
   replace hin := base_hin.mono hle
   replace hin1 := base_hin1.mono hle
   clear hb4 fs4 ft4 c104 c114 j14 j24 hm4 hi4 hms4 his4 hmt4 hit4
   have hb4 : Fun.At _ g4 0 f p := ⟨Mem.of_get at4, hin⟩
   obtain ⟨fs4, ft4, c104, c114, j14, j24⟩ := hb4.get
   have hm4 : MemN _ _ _ _ _ := ⟨rfl, hb4.1⟩
   have hi4 := hb4.2
   have hms4 : MemN _ _ _ _ _ := ⟨rfl, fs4.1⟩
   have his4 := fs4.2
   have hmt4 : MemN _ _ _ _ _ := ⟨rfl, ft4.1⟩
   have hit4 := ft4.2
   clear hb5 fs5 ft5 c105 c115 j15 j25 hm5 hi5 hms5 his5 hmt5 hit5
   have hb5 : Fun.At _ g5 0 k q := ⟨Mem.of_get at5, hin1⟩
   obtain ⟨fs5, ft5, c105, c115, j15, j25⟩ := hb5.get
   have hm5 : MemN _ _ _ _ _ := ⟨rfl, hb5.1⟩
   have hi5 := hb5.2
   have hms5 : MemN _ _ _ _ _ := ⟨rfl, fs5.1⟩
   have his5 := fs5.2
   have hmt5 : MemN _ _ _ _ _ := ⟨rfl, ft5.1⟩
   have hit5 := ft5.2
   clear mm1003
   have mm1003 : MemN _ _ _ _ _ := ⟨rfl, Mem.of_get at1003⟩
   clear hb9 c09 c19 c29 c39 c49 i19 i29 i39 i49 hm9 hi9
   have hb9 : Cat.At _ g9 0 f.s p.s := ⟨Mem.of_get at1003, hin.1⟩
   obtain ⟨c09, c19, c29, c39, c49, i19, i29, i39, i49⟩ := hb9.get
   have hm9 : MemN _ _ _ _ _ := ⟨rfl, hb9.1⟩
   have hi9 := hb9.2
   clear i46
   have i46 := Ints.of_get at46
   replace at57 : GHeap.get H57 g57 = some (.row (ints []) 2 true) := at57
   refine .m rfl rfl rfl (.assign rfl) (.nil ?_)
   refine hK17 _ _ ?_
   refine .seq (fun K18 hK18 => ?_)
   refine .seq (fun K19 hK19 => ?_)
   refine .region (.m rfl rfl rfl (.assign rfl) (.nil ?_))
   refine hK19 _ _ ?_
   refine .block ?_
   refine .loopR (σ := Nat × Nat × Nat) [(2, some _), (3, some _), (4, some _), (5, some _), (12, some _), (13, some _), (14, some _)] (fun (y, gL15, nL15) => [(16, some (.int .i64 (y : Int))), (15, some (.slice (some ⟨gL15, 0, none⟩) nL15 nL15))]) (fun (y, gL15, nL15) H' => St [g57] H57 H' ∧ H'.get gL15 = some (.row (ints (startL (joinL f.ob.length ((f.s.endL f.s.src.length).map fun p => (pA p, pB p))) x y)) 2 true) ∧ (gL15 = g57 ∨ H57.next ≤ gL15) ∧ nL15 = (startL (joinL f.ob.length ((f.s.endL f.s.src.length).map fun p => (pA p, pB p))) x y).length ∧ y ≤ f.ob.length) (fun (y, gL15, nL15) => f.ob.length - y) ((0, _, _)) ⟨rfl, rfl, rfl, rfl, rfl, rfl, rfl, trivial⟩ ⟨rfl, rfl, trivial⟩ ?_ ?_
   ·
    refine ⟨.refl _ _, by first | assumption | exact at57 | simpa using at57, .inl rfl, by first | rfl | assumption | simp | omega, ?_⟩
    omega
   rintro ⟨y, gL15, nL15⟩ HL3 ⟨lst3, at_L15, pl_L15, ln_L15, hI⟩ KL3 hKL3
   refine .forget (fr' := [(16, some (.int .i64 (y : Int))), (15, some (.slice (some ⟨gL15, 0, none⟩) nL15 nL15)), (2, some _), (3, some _), (4, some _), (5, some _), (12, some _), (13, some _), (14, some _)]) ⟨rfl, rfl, rfl, rfl, rfl, rfl, rfl, rfl, rfl, trivial⟩ ?_
   have ge_L15 : H.next ≤ gL15 := by omega
   have nx_HL3 := lst3.nx
   replace hle := hle.st lst3 (fun k hk => ⟨by omega, trivial⟩)
   replace lst2 := lst2.st lst3 (fun k hk ho => by simp only [out, and_true] at ho ⊢ <;> omega)
   replace at4 := lst3.same _ _ ⟨by omega, trivial⟩ at4
   replace at5 := lst3.same _ _ ⟨by omega, trivial⟩ at5
   replace at1003 := lst3.same _ _ ⟨by omega, trivial⟩ at1003
   replace at_L10 := lst3.same _ _ ⟨by omega, trivial⟩ at_L10
   replace at46 := lst3.same _ _ ⟨by omega, trivial⟩ at46
   replace at55 := lst3.same _ _ ⟨by omega, trivial⟩ at55
   replace at56 := lst3.same _ _ ⟨by omega, trivial⟩ at56
   have lt_at_L15 := GHeap.lt_of_get at_L15
   replace hin := base_hin.mono hle
   replace hin1 := base_hin1.mono hle
   clear hb4 fs4 ft4 c104 c114 j14 j24 hm4 hi4 hms4 his4 hmt4 hit4
   have hb4 : Fun.At _ g4 0 f p := ⟨Mem.of_get at4, hin⟩
   obtain ⟨fs4, ft4, c104, c114, j14, j24⟩ := hb4.get
   have hm4 : MemN _ _ _ _ _ := ⟨rfl, hb4.1⟩
   have hi4 := hb4.2
   have hms4 : MemN _ _ _ _ _ := ⟨rfl, fs4.1⟩
   have his4 := fs4.2
   have hmt4 : MemN _ _ _ _ _ := ⟨rfl, ft4.1⟩
   have hit4 := ft4.2
   clear hb5 fs5 ft5 c105 c115 j15 j25 hm5 hi5 hms5 his5 hmt5 hit5
   have hb5 : Fun.At _ g5 0 k q := ⟨Mem.of_get at5, hin1⟩
   obtain ⟨fs5, ft5, c105, c115, j15, j25⟩ := hb5.get
   have hm5 : MemN _ _ _ _ _ := ⟨rfl, hb5.1⟩
   have hi5 := hb5.2
   have hms5 : MemN _ _ _ _ _ := ⟨rfl, fs5.1⟩
   have his5 := fs5.2
   have hmt5 : MemN _ _ _ _ _ := ⟨rfl, ft5.1⟩
   have hit5 := ft5.2
   clear mm1003
   have mm1003 : MemN _ _ _ _ _ := ⟨rfl, Mem.of_get at1003⟩
   clear hb9 c09 c19 c29 c39 c49 i19 i29 i39 i49 hm9 hi9
   have hb9 : Cat.At _ g9 0 f.s p.s := ⟨Mem.of_get at1003, hin.1⟩
   obtain ⟨c09, c19, c29, c39, c49, i19, i29, i39, i49⟩ := hb9.get
   have hm9 : MemN _ _ _ _ _ := ⟨rfl, hb9.1⟩
   have hi9 := hb9.2
   clear i46
   have i46 := Ints.of_get at46
   have hyl := length_startL (joinL f.ob.length ((f.s.endL f.s.src.length).map fun p => (pA p, pB p))) x y
   refine .seq (fun K20 hK20 => ?_)
   refine .seq (fun K21 hK21 => ?_)
   refine .region (.m rfl rfl rfl (.move rfl) (.m rfl rfl rfl (.move rfl) (.m rfl rfl rfl (.len sl_22_A rfl) ?_)))
   refine .m rfl rfl rfl (.cmp rfl rfl rfl) (.nil ?_)
   refine hK21 _ _ ?_
   refine .cond rfl (fun h61 => ?_) (fun h61 => ?_)
   ·
    simp only [sps, length_joinL] at h61
    refine .skip ?_
    refine hK20 _ _ ?_
    refine .seq (fun K22 hK22 => ?_)
    refine .block ?_
    refine .seq (fun K23 hK23 => ?_)
    refine .region (.m rfl rfl rfl (.move rfl) (.m rfl rfl rfl (.move rfl) ?_))
    refine .m rfl rfl rfl (.idxN sl_22_A (by first | assumption | exact SlA.of_row at46 (by first | rfl | (simp; done) | (simp <;> omega))) rfl rfl (by omega)) ?_
    refine .m rfl rfl rfl (.loadI on_2_A (by first | assumption | exact Ints.of_get at46) rfl (by omega)) ?_
    refine .m rfl rfl rfl (.move rfl) (.m rfl rfl rfl (.cmp rfl rfl rfl) (.nil ?_))
    refine hK23 _ _ ?_
    refine .cond rfl (fun h69 => ?_) (fun h69 => ?_)
    ·
     simp only [sps] at h69
     refine .region (.m rfl rfl rfl (.move rfl) ?_)
     refine .r rfl rfl rfl (.litR rfl sl_22_A ze_2_E rfl rfl (by omega) (by omega) rfl rfl) ?_
     rintro _ H71 ⟨g71, rfl, le71, ge71, at71⟩
     have nx_H71 := le71.1
     replace hle := hle.trans le71
     replace lst2 := lst2.le le71
     replace lst3 := lst3.le le71
     replace at4 := le71.2 _ _ at4
     replace at5 := le71.2 _ _ at5
     replace at1003 := le71.2 _ _ at1003
     replace at_L10 := le71.2 _ _ at_L10
     replace at46 := le71.2 _ _ at46
     replace at55 := le71.2 _ _ at55
     replace at56 := le71.2 _ _ at56
     replace at_L15 := le71.2 _ _ at_L15
     have lt_at71 := GHeap.lt_of_get at71
     replace hin := base_hin.mono hle
     replace hin1 := base_hin1.mono hle
     clear hb4 fs4 ft4 c104 c114 j14 j24 hm4 hi4 hms4 his4 hmt4 hit4
     have hb4 : Fun.At _ g4 0 f p := ⟨Mem.of_get at4, hin⟩
     obtain ⟨fs4, ft4, c104, c114, j14, j24⟩ := hb4.get
     have hm4 : MemN _ _ _ _ _ := ⟨rfl, hb4.1⟩
     have hi4 := hb4.2
     have hms4 : MemN _ _ _ _ _ := ⟨rfl, fs4.1⟩
     have his4 := fs4.2
     have hmt4 : MemN _ _ _ _ _ := ⟨rfl, ft4.1⟩
     have hit4 := ft4.2
     clear hb5 fs5 ft5 c105 c115 j15 j25 hm5 hi5 hms5 his5 hmt5 hit5
     have hb5 : Fun.At _ g5 0 k q := ⟨Mem.of_get at5, hin1⟩
     obtain ⟨fs5, ft5, c105, c115, j15, j25⟩ := hb5.get
     have hm5 : MemN _ _ _ _ _ := ⟨rfl, hb5.1⟩
     have hi5 := hb5.2
     have hms5 : MemN _ _ _ _ _ := ⟨rfl, fs5.1⟩
     have his5 := fs5.2
     have hmt5 : MemN _ _ _ _ _ := ⟨rfl, ft5.1⟩
     have hit5 := ft5.2
     clear mm1003
     have mm1003 : MemN _ _ _ _ _ := ⟨rfl, Mem.of_get at1003⟩
     clear hb9 c09 c19 c29 c39 c49 i19 i29 i39 i49 hm9 hi9
     have hb9 : Cat.At _ g9 0 f.s p.s := ⟨Mem.of_get at1003, hin.1⟩
     obtain ⟨c09, c19, c29, c39, c49, i19, i29, i39, i49⟩ := hb9.get
     have hm9 : MemN _ _ _ _ _ := ⟨rfl, hb9.1⟩
     have hi9 := hb9.2
     clear i46
     have i46 := Ints.of_get at46
     refine .r rfl rfl rfl (.appendI rfl sl_22_A ze_2_E rfl by_2_E sl_22_A rfl rfl (by assumption) (by assumption) (by first | omega | (simp <;> omega)) (by omega) (by omega)) ?_
     rintro _ H72 ⟨g72, rfl, st72, ge72, at72⟩
     have nx_H72 := st72.nx
     replace hle := hle.st st72 (fun k hk => ⟨by omega, trivial⟩)
     replace lst2 := lst2.st st72 (fun k hk ho => by simp only [out, and_true] at ho ⊢ <;> omega)
     replace lst3 := lst3.st st72 (fun k hk ho => by simp only [out, and_true] at ho ⊢ <;> omega)
     replace at4 := st72.same _ _ ⟨by omega, trivial⟩ at4
     replace at5 := st72.same _ _ ⟨by omega, trivial⟩ at5
     replace at1003 := st72.same _ _ ⟨by omega, trivial⟩ at1003
     replace at_L10 := st72.same _ _ ⟨by omega, trivial⟩ at_L10
     replace at46 := st72.same _ _ ⟨by omega, trivial⟩ at46
     replace at55 := st72.same _ _ ⟨by omega, trivial⟩ at55
     replace at56 := st72.same _ _ ⟨by omega, trivial⟩ at56
     replace at71 := st72.same _ _ ⟨by omega, trivial⟩ at71
     have lt_at72 := GHeap.lt_of_get at72
     replace hin := base_hin.mono hle
     replace hin1 := base_hin1.mono hle
     clear hb4 fs4 ft4 c104 c114 j14 j24 hm4 hi4 hms4 his4 hmt4 hit4
     have hb4 : Fun.At _ g4 0 f p := ⟨Mem.of_get at4, hin⟩
     obtain ⟨fs4, ft4, c104, c114, j14, j24⟩ := hb4.get
     have hm4 : MemN _ _ _ _ _ := ⟨rfl, hb4.1⟩
     have hi4 := hb4.2
     have hms4 : MemN _ _ _ _ _ := ⟨rfl, fs4.1⟩
     have his4 := fs4.2
     have hmt4 : MemN _ _ _ _ _ := ⟨rfl, ft4.1⟩
     have hit4 := ft4.2
     clear hb5 fs5 ft5 c105 c115 j15 j25 hm5 hi5 hms5 his5 hmt5 hit5
     have hb5 : Fun.At _ g5 0 k q := ⟨Mem.of_get at5, hin1⟩
     obtain ⟨fs5, ft5, c105, c115, j15, j25⟩ := hb5.get
     have hm5 : MemN _ _ _ _ _ := ⟨rfl, hb5.1⟩
     have hi5 := hb5.2
     have hms5 : MemN _ _ _ _ _ := ⟨rfl, fs5.1⟩
     have his5 := fs5.2
     have hmt5 : MemN _ _ _ _ _ := ⟨rfl, ft5.1⟩
     have hit5 := ft5.2
     clear mm1003
     have mm1003 : MemN _ _ _ _ _ := ⟨rfl, Mem.of_get at1003⟩
     clear hb9 c09 c19 c29 c39 c49 i19 i29 i39 i49 hm9 hi9
     have hb9 : Cat.At _ g9 0 f.s p.s := ⟨Mem.of_get at1003, hin.1⟩
     obtain ⟨c09, c19, c29, c39, c49, i19, i29, i39, i49⟩ := hb9.get
     have hm9 : MemN _ _ _ _ _ := ⟨rfl, hb9.1⟩
     have hi9 := hb9.2
     clear i46
     have i46 := Ints.of_get at46
     refine .m rfl rfl rfl (.assign rfl) (.nil ?_)
     refine hK22 _ _ ?_
     refine .region (.m rfl rfl rfl (.move rfl) ?_)
     refine .m rfl rfl rfl (.add rfl rfl rfl (by omega) (by omega)) ?_
     refine .m rfl rfl rfl (.assign rfl) (.nil ?_)
     refine hKL3 ((y + 1, _, _)) _ _ ?_ ?_ ⟨rfl, rfl, rfl, rfl, rfl, rfl, rfl, rfl, rfl, trivial⟩
     ·
      refine ⟨lst3, by first | assumption | (rw [startL_T h69]; assumption) | (rw [startL_F h69]; assumption), by omega, by first | omega | (simp only [List.length_append, List.length_cons, List.length_nil] <;> omega) | (rw [startL_T h69] <;> (first | omega | (simp only [List.length_append, List.length_cons, List.length_nil] <;> omega))) | (rw [startL_F h69] <;> (first | omega | (simp only [List.length_append, List.length_cons, List.length_nil] <;> omega))), ?_⟩
      omega
     (dsimp only; omega)
    simp only [sps] at h69
    refine .region (.m rfl rfl rfl (.move rfl) ?_)
    refine .r rfl rfl rfl (.litR rfl sl_22_A ze_2_E rfl rfl (by omega) (by omega) rfl rfl) ?_
    rintro _ H74 ⟨g74, rfl, le74, ge74, at74⟩
    have nx_H74 := le74.1
    replace hle := hle.trans le74
    replace lst2 := lst2.le le74
    replace lst3 := lst3.le le74
    replace at4 := le74.2 _ _ at4
    replace at5 := le74.2 _ _ at5
    replace at1003 := le74.2 _ _ at1003
    replace at_L10 := le74.2 _ _ at_L10
    replace at46 := le74.2 _ _ at46
    replace at55 := le74.2 _ _ at55
    replace at56 := le74.2 _ _ at56
    replace at_L15 := le74.2 _ _ at_L15
    have lt_at74 := GHeap.lt_of_get at74
    replace hin := base_hin.mono hle
    replace hin1 := base_hin1.mono hle
    clear hb4 fs4 ft4 c104 c114 j14 j24 hm4 hi4 hms4 his4 hmt4 hit4
    have hb4 : Fun.At _ g4 0 f p := ⟨Mem.of_get at4, hin⟩
    obtain ⟨fs4, ft4, c104, c114, j14, j24⟩ := hb4.get
    have hm4 : MemN _ _ _ _ _ := ⟨rfl, hb4.1⟩
    have hi4 := hb4.2
    have hms4 : MemN _ _ _ _ _ := ⟨rfl, fs4.1⟩
    have his4 := fs4.2
    have hmt4 : MemN _ _ _ _ _ := ⟨rfl, ft4.1⟩
    have hit4 := ft4.2
    clear hb5 fs5 ft5 c105 c115 j15 j25 hm5 hi5 hms5 his5 hmt5 hit5
    have hb5 : Fun.At _ g5 0 k q := ⟨Mem.of_get at5, hin1⟩
    obtain ⟨fs5, ft5, c105, c115, j15, j25⟩ := hb5.get
    have hm5 : MemN _ _ _ _ _ := ⟨rfl, hb5.1⟩
    have hi5 := hb5.2
    have hms5 : MemN _ _ _ _ _ := ⟨rfl, fs5.1⟩
    have his5 := fs5.2
    have hmt5 : MemN _ _ _ _ _ := ⟨rfl, ft5.1⟩
    have hit5 := ft5.2
    clear mm1003
    have mm1003 : MemN _ _ _ _ _ := ⟨rfl, Mem.of_get at1003⟩
    clear hb9 c09 c19 c29 c39 c49 i19 i29 i39 i49 hm9 hi9
    have hb9 : Cat.At _ g9 0 f.s p.s := ⟨Mem.of_get at1003, hin.1⟩
    obtain ⟨c09, c19, c29, c39, c49, i19, i29, i39, i49⟩ := hb9.get
    have hm9 : MemN _ _ _ _ _ := ⟨rfl, hb9.1⟩
    have hi9 := hb9.2
    clear i46
    have i46 := Ints.of_get at46
    refine .r rfl rfl rfl (.appendI rfl sl_22_A ze_2_E rfl by_2_E sl_22_A rfl rfl (by assumption) (by assumption) (by first | omega | (simp <;> omega)) (by omega) (by omega)) ?_
    rintro _ H75 ⟨g75, rfl, st75, ge75, at75⟩
    have nx_H75 := st75.nx
    replace hle := hle.st st75 (fun k hk => ⟨by omega, trivial⟩)
    replace lst2 := lst2.st st75 (fun k hk ho => by simp only [out, and_true] at ho ⊢ <;> omega)
    replace lst3 := lst3.st st75 (fun k hk ho => by simp only [out, and_true] at ho ⊢ <;> omega)
    replace at4 := st75.same _ _ ⟨by omega, trivial⟩ at4
    replace at5 := st75.same _ _ ⟨by omega, trivial⟩ at5
    replace at1003 := st75.same _ _ ⟨by omega, trivial⟩ at1003
    replace at_L10 := st75.same _ _ ⟨by omega, trivial⟩ at_L10
    replace at46 := st75.same _ _ ⟨by omega, trivial⟩ at46
    replace at55 := st75.same _ _ ⟨by omega, trivial⟩ at55
    replace at56 := st75.same _ _ ⟨by omega, trivial⟩ at56
    replace at74 := st75.same _ _ ⟨by omega, trivial⟩ at74
    have lt_at75 := GHeap.lt_of_get at75
    replace hin := base_hin.mono hle
    replace hin1 := base_hin1.mono hle
    clear hb4 fs4 ft4 c104 c114 j14 j24 hm4 hi4 hms4 his4 hmt4 hit4
    have hb4 : Fun.At _ g4 0 f p := ⟨Mem.of_get at4, hin⟩
    obtain ⟨fs4, ft4, c104, c114, j14, j24⟩ := hb4.get
    have hm4 : MemN _ _ _ _ _ := ⟨rfl, hb4.1⟩
    have hi4 := hb4.2
    have hms4 : MemN _ _ _ _ _ := ⟨rfl, fs4.1⟩
    have his4 := fs4.2
    have hmt4 : MemN _ _ _ _ _ := ⟨rfl, ft4.1⟩
    have hit4 := ft4.2
    clear hb5 fs5 ft5 c105 c115 j15 j25 hm5 hi5 hms5 his5 hmt5 hit5
    have hb5 : Fun.At _ g5 0 k q := ⟨Mem.of_get at5, hin1⟩
    obtain ⟨fs5, ft5, c105, c115, j15, j25⟩ := hb5.get
    have hm5 : MemN _ _ _ _ _ := ⟨rfl, hb5.1⟩
    have hi5 := hb5.2
    have hms5 : MemN _ _ _ _ _ := ⟨rfl, fs5.1⟩
    have his5 := fs5.2
    have hmt5 : MemN _ _ _ _ _ := ⟨rfl, ft5.1⟩
    have hit5 := ft5.2
    clear mm1003
    have mm1003 : MemN _ _ _ _ _ := ⟨rfl, Mem.of_get at1003⟩
    clear hb9 c09 c19 c29 c39 c49 i19 i29 i39 i49 hm9 hi9
    have hb9 : Cat.At _ g9 0 f.s p.s := ⟨Mem.of_get at1003, hin.1⟩
    obtain ⟨c09, c19, c29, c39, c49, i19, i29, i39, i49⟩ := hb9.get
    have hm9 : MemN _ _ _ _ _ := ⟨rfl, hb9.1⟩
    have hi9 := hb9.2
    clear i46
    have i46 := Ints.of_get at46
    refine .m rfl rfl rfl (.assign rfl) (.nil ?_)
    refine hK22 _ _ ?_
    refine .region (.m rfl rfl rfl (.move rfl) ?_)
    refine .m rfl rfl rfl (.add rfl rfl rfl (by omega) (by omega)) ?_
    refine .m rfl rfl rfl (.assign rfl) (.nil ?_)
    refine hKL3 ((y + 1, _, _)) _ _ ?_ ?_ ⟨rfl, rfl, rfl, rfl, rfl, rfl, rfl, rfl, rfl, trivial⟩
    ·
     refine ⟨lst3, by first | assumption | (rw [startL_T h69]; assumption) | (rw [startL_F h69]; assumption), by omega, by first | omega | (simp only [List.length_append, List.length_cons, List.length_nil] <;> omega) | (rw [startL_T h69] <;> (first | omega | (simp only [List.length_append, List.length_cons, List.length_nil] <;> omega))) | (rw [startL_F h69] <;> (first | omega | (simp only [List.length_append, List.length_cons, List.length_nil] <;> omega))), ?_⟩
     omega
    (dsimp only; omega)
   simp only [sps, length_joinL] at h61
   obtain rfl : y = f.ob.length := by omega
   refine .exit ?_
   refine hK18 _ _ ?_
   refine .seq (fun K24 hK24 => ?_)
   refine .region ?_
   refine .m rfl rfl rfl (.loadM ag_34_E rfl ⟨rfl, Mem.of_get at4⟩) ?_
   refine .m rfl rfl rfl (.loadM ag_34_E rfl ⟨rfl, Mem.of_get at5⟩) ?_
   refine .m rfl rfl rfl (.move rfl) (.m rfl rfl rfl (.build bt_122_Hc rfl rfl st_build1) ?_)
   refine .r rfl rfl rfl (.boxR rfl sz_122_Hc rfl) ?_
   rintro _ H80 ⟨g80, rfl, le80, ge80, at80⟩
   have nx_H80 := le80.1
   replace hle := hle.trans le80
   replace lst2 := lst2.le le80
   replace at4 := le80.2 _ _ at4
   replace at5 := le80.2 _ _ at5
   replace at1003 := le80.2 _ _ at1003
   replace at_L10 := le80.2 _ _ at_L10
   replace at46 := le80.2 _ _ at46
   replace at55 := le80.2 _ _ at55
   replace at56 := le80.2 _ _ at56
   replace at_L15 := le80.2 _ _ at_L15
   have lt_at80 := GHeap.lt_of_get at80
   replace hin := base_hin.mono hle
   replace hin1 := base_hin1.mono hle
   clear hb4 fs4 ft4 c104 c114 j14 j24 hm4 hi4 hms4 his4 hmt4 hit4
   have hb4 : Fun.At _ g4 0 f p := ⟨Mem.of_get at4, hin⟩
   obtain ⟨fs4, ft4, c104, c114, j14, j24⟩ := hb4.get
   have hm4 : MemN _ _ _ _ _ := ⟨rfl, hb4.1⟩
   have hi4 := hb4.2
   have hms4 : MemN _ _ _ _ _ := ⟨rfl, fs4.1⟩
   have his4 := fs4.2
   have hmt4 : MemN _ _ _ _ _ := ⟨rfl, ft4.1⟩
   have hit4 := ft4.2
   clear hb5 fs5 ft5 c105 c115 j15 j25 hm5 hi5 hms5 his5 hmt5 hit5
   have hb5 : Fun.At _ g5 0 k q := ⟨Mem.of_get at5, hin1⟩
   obtain ⟨fs5, ft5, c105, c115, j15, j25⟩ := hb5.get
   have hm5 : MemN _ _ _ _ _ := ⟨rfl, hb5.1⟩
   have hi5 := hb5.2
   have hms5 : MemN _ _ _ _ _ := ⟨rfl, fs5.1⟩
   have his5 := fs5.2
   have hmt5 : MemN _ _ _ _ _ := ⟨rfl, ft5.1⟩
   have hit5 := ft5.2
   clear mm1003
   have mm1003 : MemN _ _ _ _ _ := ⟨rfl, Mem.of_get at1003⟩
   clear hb9 c09 c19 c29 c39 c49 i19 i29 i39 i49 hm9 hi9
   have hb9 : Cat.At _ g9 0 f.s p.s := ⟨Mem.of_get at1003, hin.1⟩
   obtain ⟨c09, c19, c29, c39, c49, i19, i29, i39, i49⟩ := hb9.get
   have hm9 : MemN _ _ _ _ _ := ⟨rfl, hb9.1⟩
   have hi9 := hb9.2
   clear i46
   have i46 := Ints.of_get at46
   have mm80 : MemN _ _ _ _ _ := ⟨rfl, Mem.of_get at80⟩
   refine .m rfl rfl rfl (.assign rfl) (.nil ?_)
   refine hK24 _ _ ?_
   refine .seq (fun K25 hK25 => ?_)
   refine .region (.m rfl rfl rfl (.move rfl) (.m rfl rfl rfl (.move rfl) ?_))
   refine .call rfl rfl rfl rfl @Try.call99 rfl ((l07Go_c base_hin base_hin1 hP (M := 1) (iso := iso) (by omega) _ g80 g55 gL15 H.next nL15 (startL (joinL f.ob.length ((f.s.endL f.s.src.length).map fun p => (pA p, pB p))) x f.ob.length) [] _ rfl hle (by omega) (by omega) (by omega) (by omega) (by omega) (by omega) (by omega) at_L15 ln_L15.symm (ln_L15.trans (length_startL _ _ _)) (fun i hi => startL_lt (by rw [ln_L15, length_startL] at hi; exact hi)) ⟨none, fun _ => none, at80, .inl ⟨rfl, rfl, rfl⟩, .nil _ _ _ _⟩ (by simp))) ?_
   rintro _ H83 ⟨gF83, hg83, st83, hl83, hF83⟩
   have nx_H83 := st83.nx
   replace hle := hle.st st83 (fun k hk => ⟨by omega, by omega, trivial⟩)
   replace lst2 := lst2.st st83 (fun k hk ho => by simp only [out, and_true] at ho ⊢ <;> omega)
   replace at4 := st83.same _ _ ⟨by omega, by omega, trivial⟩ at4
   replace at5 := st83.same _ _ ⟨by omega, by omega, trivial⟩ at5
   replace at1003 := st83.same _ _ ⟨by omega, by omega, trivial⟩ at1003
   replace at_L10 := st83.same _ _ ⟨by omega, by omega, trivial⟩ at_L10
   replace at46 := st83.same _ _ ⟨by omega, by omega, trivial⟩ at46
   replace at56 := st83.same _ _ ⟨by omega, by omega, trivial⟩ at56
   replace at_L15 := st83.same _ _ ⟨by omega, by omega, trivial⟩ at_L15
   replace hin := base_hin.mono hle
   replace hin1 := base_hin1.mono hle
   clear hb4 fs4 ft4 c104 c114 j14 j24 hm4 hi4 hms4 his4 hmt4 hit4
   have hb4 : Fun.At _ g4 0 f p := ⟨Mem.of_get at4, hin⟩
   obtain ⟨fs4, ft4, c104, c114, j14, j24⟩ := hb4.get
   have hm4 : MemN _ _ _ _ _ := ⟨rfl, hb4.1⟩
   have hi4 := hb4.2
   have hms4 : MemN _ _ _ _ _ := ⟨rfl, fs4.1⟩
   have his4 := fs4.2
   have hmt4 : MemN _ _ _ _ _ := ⟨rfl, ft4.1⟩
   have hit4 := ft4.2
   clear hb5 fs5 ft5 c105 c115 j15 j25 hm5 hi5 hms5 his5 hmt5 hit5
   have hb5 : Fun.At _ g5 0 k q := ⟨Mem.of_get at5, hin1⟩
   obtain ⟨fs5, ft5, c105, c115, j15, j25⟩ := hb5.get
   have hm5 : MemN _ _ _ _ _ := ⟨rfl, hb5.1⟩
   have hi5 := hb5.2
   have hms5 : MemN _ _ _ _ _ := ⟨rfl, fs5.1⟩
   have his5 := fs5.2
   have hmt5 : MemN _ _ _ _ _ := ⟨rfl, ft5.1⟩
   have hit5 := ft5.2
   clear mm1003
   have mm1003 : MemN _ _ _ _ _ := ⟨rfl, Mem.of_get at1003⟩
   clear hb9 c09 c19 c29 c39 c49 i19 i29 i39 i49 hm9 hi9
   have hb9 : Cat.At _ g9 0 f.s p.s := ⟨Mem.of_get at1003, hin.1⟩
   obtain ⟨c09, c19, c29, c39, c49, i19, i29, i39, i49⟩ := hb9.get
   have hm9 : MemN _ _ _ _ _ := ⟨rfl, hb9.1⟩
   have hi9 := hb9.2
   clear i46
   have i46 := Ints.of_get at46
   clear mm80
   have mm80 : MemN _ _ _ _ _ := ⟨rfl, Mem.of_get at80⟩
   refine .nil ?_
   refine hK25 _ _ ?_
   refine .seq (fun K26 hK26 => ?_)
   refine .region ?_
   obtain ⟨af2, r2, e1, _, _⟩ := hF83.ex
   have c26 : GHeap.cell H83 g80 (0 + 26) = some (.slice af2 _ _) := Mem.of_get e1 26 _ rfl
   refine .m rfl rfl rfl (.move rfl) (.m rfl rfl rfl (.nilCheck rfl) (.m rfl rfl rfl (.fieldAddr fo_122_4_Hb rfl) ?_))
   refine .m rfl rfl rfl (.load on_23_B rfl (by assumption)) ?_
   refine .m rfl rfl rfl (.len sl_23_B rfl) (.m rfl rfl rfl (.cmp rfl rfl rfl) (.nil ?_))
   refine hK26 _ _ ?_
   refine .cond rfl (fun h89 => ?_) (fun h89 => ?_)
   ·
    simp only [sps] at h89
    have h0 : (([] ++ (f.net k iso).go (startL (joinL f.ob.length ((f.s.endL f.s.src.length).map fun p => (pA p, pB p))) x f.ob.length)).take 1).length = 0 := by omega
    rw [List.nil_append] at h0
    have hnil := Net.sols_nil hgood (take_one_nil h0)
    refine .seq (fun K27 hK27 => ?_)
    refine .region ?_
    refine .r rfl rfl rfl (.litR rfl sl_23_B ze_22_E rfl rfl (by omega) (by omega) rfl rfl) ?_
    rintro _ H90 ⟨g90, rfl, le90, ge90, at90⟩
    have nx_H90 := le90.1
    replace hle := hle.trans le90
    replace lst2 := lst2.le le90
    replace at4 := le90.2 _ _ at4
    replace at5 := le90.2 _ _ at5
    replace at1003 := le90.2 _ _ at1003
    replace at_L10 := le90.2 _ _ at_L10
    replace at46 := le90.2 _ _ at46
    replace at56 := le90.2 _ _ at56
    replace at_L15 := le90.2 _ _ at_L15
    have lt_at90 := GHeap.lt_of_get at90
    replace hin := base_hin.mono hle
    replace hin1 := base_hin1.mono hle
    clear hb4 fs4 ft4 c104 c114 j14 j24 hm4 hi4 hms4 his4 hmt4 hit4
    have hb4 : Fun.At _ g4 0 f p := ⟨Mem.of_get at4, hin⟩
    obtain ⟨fs4, ft4, c104, c114, j14, j24⟩ := hb4.get
    have hm4 : MemN _ _ _ _ _ := ⟨rfl, hb4.1⟩
    have hi4 := hb4.2
    have hms4 : MemN _ _ _ _ _ := ⟨rfl, fs4.1⟩
    have his4 := fs4.2
    have hmt4 : MemN _ _ _ _ _ := ⟨rfl, ft4.1⟩
    have hit4 := ft4.2
    clear hb5 fs5 ft5 c105 c115 j15 j25 hm5 hi5 hms5 his5 hmt5 hit5
    have hb5 : Fun.At _ g5 0 k q := ⟨Mem.of_get at5, hin1⟩
    obtain ⟨fs5, ft5, c105, c115, j15, j25⟩ := hb5.get
    have hm5 : MemN _ _ _ _ _ := ⟨rfl, hb5.1⟩
    have hi5 := hb5.2
    have hms5 : MemN _ _ _ _ _ := ⟨rfl, fs5.1⟩
    have his5 := fs5.2
    have hmt5 : MemN _ _ _ _ _ := ⟨rfl, ft5.1⟩
    have hit5 := ft5.2
    clear mm1003
    have mm1003 : MemN _ _ _ _ _ := ⟨rfl, Mem.of_get at1003⟩
    clear hb9 c09 c19 c29 c39 c49 i19 i29 i39 i49 hm9 hi9
    have hb9 : Cat.At _ g9 0 f.s p.s := ⟨Mem.of_get at1003, hin.1⟩
    obtain ⟨c09, c19, c29, c39, c49, i19, i29, i39, i49⟩ := hb9.get
    have hm9 : MemN _ _ _ _ _ := ⟨rfl, hb9.1⟩
    have hi9 := hb9.2
    clear i46
    have i46 := Ints.of_get at46
    clear mm80
    have mm80 : MemN _ _ _ _ _ := ⟨rfl, Mem.of_get at80⟩
    refine .m rfl rfl rfl (.assign rfl) (.nil ?_)
    refine hK27 _ _ ?_
    refine .ret ?_
    refine hret _ _ ?_
    refine ⟨_, rfl, ?_⟩
    rw [hnil, List.take_nil]
    exact ⟨hle, some ⟨g90, 0, none⟩, fun _ => none, rfl, (OwnL.nil H.next _ 2 (fun _ => none)).done at90 (by omega)⟩
   try simp only [sps] at h89
   refine .skip ?_
   refine hK15 _ _ ?_
   refine .region (.m rfl rfl rfl (.move rfl) ?_)
   refine .m rfl rfl rfl (.add rfl rfl rfl (by omega) (by omega)) ?_
   refine .m rfl rfl rfl (.assign rfl) (.nil ?_)
   refine hKL2 ((x + 1, _, _)) _ _ ?_ ?_ ⟨rfl, rfl, rfl, rfl, rfl, rfl, rfl, trivial⟩
   ·
    refine ⟨lst2, by first | assumption | (rw [List.replicate_succ']; assumption), by omega, by first | omega | (simp only [List.length_append, List.length_cons, List.length_nil] <;> omega) | (rw [List.replicate_succ'] <;> (first | omega | (simp only [List.length_append, List.length_cons, List.length_nil] <;> omega))), ?_⟩
    omega
   (dsimp only; omega)
  simp only [sps, length_joinL] at h51
  obtain rfl : x = f.ob.length := by omega
  refine .exit ?_
  refine hK11 _ _ ?_
  refine .seq (fun K28 hK28 => ?_)
  refine .region ?_
  refine .m rfl rfl rfl (.loadM ag_34_E rfl ⟨rfl, Mem.of_get at4⟩) ?_
  refine .m rfl rfl rfl (.loadM ag_34_E rfl ⟨rfl, Mem.of_get at5⟩) ?_
  refine .m rfl rfl rfl (.move rfl) (.m rfl rfl rfl (.move rfl) ?_)
  refine .r rfl rfl rfl (.litR rfl sl_23_B ze_22_E rfl rfl (by omega) (by omega) rfl rfl) ?_
  rintro _ H95 ⟨g95, rfl, le95, ge95, at95⟩
  have nx_H95 := le95.1
  replace hle := hle.trans le95
  replace lst2 := lst2.le le95
  replace at4 := le95.2 _ _ at4
  replace at5 := le95.2 _ _ at5
  replace at1003 := le95.2 _ _ at1003
  replace at_L10 := le95.2 _ _ at_L10
  replace at46 := le95.2 _ _ at46
  replace at_L13 := le95.2 _ _ at_L13
  have lt_at95 := GHeap.lt_of_get at95
  replace hin := base_hin.mono hle
  replace hin1 := base_hin1.mono hle
  clear hb4 fs4 ft4 c104 c114 j14 j24 hm4 hi4 hms4 his4 hmt4 hit4
  have hb4 : Fun.At _ g4 0 f p := ⟨Mem.of_get at4, hin⟩
  obtain ⟨fs4, ft4, c104, c114, j14, j24⟩ := hb4.get
  have hm4 : MemN _ _ _ _ _ := ⟨rfl, hb4.1⟩
  have hi4 := hb4.2
  have hms4 : MemN _ _ _ _ _ := ⟨rfl, fs4.1⟩
  have his4 := fs4.2
  have hmt4 : MemN _ _ _ _ _ := ⟨rfl, ft4.1⟩
  have hit4 := ft4.2
  clear hb5 fs5 ft5 c105 c115 j15 j25 hm5 hi5 hms5 his5 hmt5 hit5
  have hb5 : Fun.At _ g5 0 k q := ⟨Mem.of_get at5, hin1⟩
  obtain ⟨fs5, ft5, c105, c115, j15, j25⟩ := hb5.get
  have hm5 : MemN _ _ _ _ _ := ⟨rfl, hb5.1⟩
  have hi5 := hb5.2
  have hms5 : MemN _ _ _ _ _ := ⟨rfl, fs5.1⟩
  have his5 := fs5.2
  have hmt5 : MemN _ _ _ _ _ := ⟨rfl, ft5.1⟩
  have hit5 := ft5.2
  clear mm1003
  have mm1003 : MemN _ _ _ _ _ := ⟨rfl, Mem.of_get at1003⟩
  clear hb9 c09 c19 c29 c39 c49 i19 i29 i39 i49 hm9 hi9
  have hb9 : Cat.At _ g9 0 f.s p.s := ⟨Mem.of_get at1003, hin.1⟩
  obtain ⟨c09, c19, c29, c39, c49, i19, i29, i39, i49⟩ := hb9.get
  have hm9 : MemN _ _ _ _ _ := ⟨rfl, hb9.1⟩
  have hi9 := hb9.2
  clear i46
  have i46 := Ints.of_get at46
  refine .m rfl rfl rfl (.build bt_122_Hc rfl rfl st_build2) ?_
  refine .r rfl rfl rfl (.boxR rfl sz_122_Hc rfl) ?_
  rintro _ H97 ⟨g97, rfl, le97, ge97, at97⟩
  have nx_H97 := le97.1
  replace hle := hle.trans le97
  replace lst2 := lst2.le le97
  replace at4 := le97.2 _ _ at4
  replace at5 := le97.2 _ _ at5
  replace at1003 := le97.2 _ _ at1003
  replace at_L10 := le97.2 _ _ at_L10
  replace at46 := le97.2 _ _ at46
  replace at_L13 := le97.2 _ _ at_L13
  replace at95 := le97.2 _ _ at95
  have lt_at97 := GHeap.lt_of_get at97
  replace hin := base_hin.mono hle
  replace hin1 := base_hin1.mono hle
  clear hb4 fs4 ft4 c104 c114 j14 j24 hm4 hi4 hms4 his4 hmt4 hit4
  have hb4 : Fun.At _ g4 0 f p := ⟨Mem.of_get at4, hin⟩
  obtain ⟨fs4, ft4, c104, c114, j14, j24⟩ := hb4.get
  have hm4 : MemN _ _ _ _ _ := ⟨rfl, hb4.1⟩
  have hi4 := hb4.2
  have hms4 : MemN _ _ _ _ _ := ⟨rfl, fs4.1⟩
  have his4 := fs4.2
  have hmt4 : MemN _ _ _ _ _ := ⟨rfl, ft4.1⟩
  have hit4 := ft4.2
  clear hb5 fs5 ft5 c105 c115 j15 j25 hm5 hi5 hms5 his5 hmt5 hit5
  have hb5 : Fun.At _ g5 0 k q := ⟨Mem.of_get at5, hin1⟩
  obtain ⟨fs5, ft5, c105, c115, j15, j25⟩ := hb5.get
  have hm5 : MemN _ _ _ _ _ := ⟨rfl, hb5.1⟩
  have hi5 := hb5.2
  have hms5 : MemN _ _ _ _ _ := ⟨rfl, fs5.1⟩
  have his5 := fs5.2
  have hmt5 : MemN _ _ _ _ _ := ⟨rfl, ft5.1⟩
  have hit5 := ft5.2
  clear mm1003
  have mm1003 : MemN _ _ _ _ _ := ⟨rfl, Mem.of_get at1003⟩
  clear hb9 c09 c19 c29 c39 c49 i19 i29 i39 i49 hm9 hi9
  have hb9 : Cat.At _ g9 0 f.s p.s := ⟨Mem.of_get at1003, hin.1⟩
  obtain ⟨c09, c19, c29, c39, c49, i19, i29, i39, i49⟩ := hb9.get
  have hm9 : MemN _ _ _ _ _ := ⟨rfl, hb9.1⟩
  have hi9 := hb9.2
  clear i46
  have i46 := Ints.of_get at46
  have mm97 : MemN _ _ _ _ _ := ⟨rfl, Mem.of_get at97⟩
  refine .m rfl rfl rfl (.assign rfl) (.nil ?_)
  refine hK28 _ _ ?_
  refine .seq (fun K29 hK29 => ?_)
  refine .region (.m rfl rfl rfl (.move rfl) (.m rfl rfl rfl (.move rfl) ?_))
  refine .call rfl rfl rfl rfl @Try.call99 rfl ((l07Go_c base_hin base_hin1 hP (M := M) (iso := iso) hM _ g97 g95 gL13 H.next nL13 (List.replicate f.ob.length (-1)) [] _ rfl hle (by omega) (by omega) (by omega) (by omega) (by omega) (by omega) (by omega) at_L13 ln_L13.symm (ln_L13.trans List.length_replicate) (fun i hi => repl_lt (by rw [ln_L13, List.length_replicate] at hi; exact hi)) ⟨some ⟨g95, 0, none⟩, fun _ => none, at97, .inr ⟨rfl, by omega, at95⟩, .nil _ _ _ _⟩ (by simp; omega))) ?_
  rintro _ H100 ⟨gF100, hg100, st100, hl100, hF100⟩
  have nx_H100 := st100.nx
  replace hle := hle.st st100 (fun k hk => ⟨by omega, by omega, trivial⟩)
  replace lst2 := lst2.st st100 (fun k hk ho => by simp only [out, and_true] at ho ⊢ <;> omega)
  replace at4 := st100.same _ _ ⟨by omega, by omega, trivial⟩ at4
  replace at5 := st100.same _ _ ⟨by omega, by omega, trivial⟩ at5
  replace at1003 := st100.same _ _ ⟨by omega, by omega, trivial⟩ at1003
  replace at_L10 := st100.same _ _ ⟨by omega, by omega, trivial⟩ at_L10
  replace at46 := st100.same _ _ ⟨by omega, by omega, trivial⟩ at46
  replace at_L13 := st100.same _ _ ⟨by omega, by omega, trivial⟩ at_L13
  replace hin := base_hin.mono hle
  replace hin1 := base_hin1.mono hle
  clear hb4 fs4 ft4 c104 c114 j14 j24 hm4 hi4 hms4 his4 hmt4 hit4
  have hb4 : Fun.At _ g4 0 f p := ⟨Mem.of_get at4, hin⟩
  obtain ⟨fs4, ft4, c104, c114, j14, j24⟩ := hb4.get
  have hm4 : MemN _ _ _ _ _ := ⟨rfl, hb4.1⟩
  have hi4 := hb4.2
  have hms4 : MemN _ _ _ _ _ := ⟨rfl, fs4.1⟩
  have his4 := fs4.2
  have hmt4 : MemN _ _ _ _ _ := ⟨rfl, ft4.1⟩
  have hit4 := ft4.2
  clear hb5 fs5 ft5 c105 c115 j15 j25 hm5 hi5 hms5 his5 hmt5 hit5
  have hb5 : Fun.At _ g5 0 k q := ⟨Mem.of_get at5, hin1⟩
  obtain ⟨fs5, ft5, c105, c115, j15, j25⟩ := hb5.get
  have hm5 : MemN _ _ _ _ _ := ⟨rfl, hb5.1⟩
  have hi5 := hb5.2
  have hms5 : MemN _ _ _ _ _ := ⟨rfl, fs5.1⟩
  have his5 := fs5.2
  have hmt5 : MemN _ _ _ _ _ := ⟨rfl, ft5.1⟩
  have hit5 := ft5.2
  clear mm1003
  have mm1003 : MemN _ _ _ _ _ := ⟨rfl, Mem.of_get at1003⟩
  clear hb9 c09 c19 c29 c39 c49 i19 i29 i39 i49 hm9 hi9
  have hb9 : Cat.At _ g9 0 f.s p.s := ⟨Mem.of_get at1003, hin.1⟩
  obtain ⟨c09, c19, c29, c39, c49, i19, i29, i39, i49⟩ := hb9.get
  have hm9 : MemN _ _ _ _ _ := ⟨rfl, hb9.1⟩
  have hi9 := hb9.2
  clear i46
  have i46 := Ints.of_get at46
  clear mm97
  have mm97 : MemN _ _ _ _ _ := ⟨rfl, Mem.of_get at97⟩
  refine .nil ?_
  refine hK29 _ _ ?_
  refine .seq (fun K30 hK30 => ?_)
  refine .region ?_
  obtain ⟨af2, r2, e1, e2, e3⟩ := hF100.ex
  have c26 : GHeap.cell H100 g97 (0 + 26) = some (.slice af2 _ _) := Mem.of_get e1 26 _ rfl
  refine .m rfl rfl rfl (.move rfl) (.m rfl rfl rfl (.nilCheck rfl) (.m rfl rfl rfl (.fieldAddr fo_122_4_Hb rfl) ?_))
  refine .m rfl rfl rfl (.load on_23_B rfl (by assumption)) ?_
  refine .m rfl rfl rfl (.assign rfl) (.nil ?_)
  refine hK30 _ _ ?_
  refine .ret ?_
  refine hret _ _ ?_
  refine ⟨_, rfl, ?_⟩
  rw [List.nil_append, Net.go_all hgood] at e2 e3
  refine ⟨hle, af2, r2, ?_, SlO.intssr e2 e3⟩
  rw [List.nil_append, Net.go_all hgood]
end Go.Proofs.Ytpmjlhbglcaokaa
/- Searches that tell a function of each list they find. No condition. -/
namespace Go.GL
/-- A function that is told of lists. A: what it has gathered; its first block is g1, its second one changes. -/
structure Hears (P : Program) (fn : Nat) (cap : Array Value) (e0 g1 most : Nat) (T : TypeId) (A : Nat → List (List Int) → Nat → GHeap → Prop) : Prop where
  code : ∀ (xs : Array Value) (w : World), (callFunc fn xs).run P w = .ok (.enter fn xs) w
  le : ∀ {b : Nat} {fs : List (List Int)} {gF : Nat} {H H' : GHeap}, A b fs gF H → H.Le H' → A b fs gF H'
  st : ∀ {b : Nat} {fs : List (List Int)} {gF gc : Nat} {H H' : GHeap}, A b fs gF H → e0 ≤ gc → gc < b → gc ≠ gF → St [gc] H H' → A b fs gF H'
  run : ∀ {b : Nat} {fs : List (List Int)} {gF gc : Nat} {q : List Int} {H : GHeap}, A b fs gF H → e0 ≤ gc → gc < b → gc ≠ gF → b ≤ H.next → H.get gc = some (.row (ints q) T true) → fs.length ≤ most → q.length ≤ 8 → gF < H.next →
    GCalls P fn ([.slice (some ⟨gc, 0, none⟩) q.length q.length] ++ cap.toList) H (fun v H' => v = .bool (decide (fs.length + 1 ≤ most)) ∧ ∃ gF', (gF' = gF ∨ H.next ≤ gF') ∧ gF' < H'.next ∧ St [g1, gF] H H' ∧ A b (fs ++ [q]) gF' H')
def Net.okAt (n : Net) (q : List Int) (x a : Nat) : Bool := !(max (n.sr a) (n.tg a) == x) || n.sq a (q.getD (n.sr a) 0) (q.getD (n.tg a) 0)
theorem Net.ok_eq (n : Net) (x : Nat) (q : List Int) : n.ok x q = allN n.A (n.okAt q x) := rfl
theorem Net.okAt_1 {n : Net} {q : List Int} {x a : Nat} (h : ¬ max (n.sr a) (n.tg a) = x) : n.okAt q x a = true := by simp [okAt, h]
theorem Net.okAt_2 {n : Net} {q : List Int} {x a : Nat} (h : max (n.sr a) (n.tg a) = x) : n.okAt q x a = n.sq a (q.getD (n.sr a) 0) (q.getD (n.tg a) 0) := by simp [okAt, h]
/-- What one candidate brings. -/
def chG (n : Net) (al : Int → Bool) (r : Nat) (p : List Int) (h : Int) : List (List Int) := bif al h then (bif n.ok p.length (p ++ [h]) then searchL n.cand n.ok r (p ++ [h]) else []) else []
theorem filter_flatMap {α β : Type} {l : List α} {P : α → Bool} {G : α → List β} : (l.filter P).flatMap G = l.flatMap fun h => bif P h then G h else [] := by
  induction l with
  | nil => rfl
  | cons a l ih =>
    rw [List.filter_cons, List.flatMap_cons, ← ih]
    cases P a <;> simp
theorem searchL_succ {n : Net} {hs : List Int} {al : Int → Bool} {r : Nat} {p : List Int} (h : n.cand p.length = hs.filter al) : searchL n.cand n.ok (r + 1) p = hs.flatMap (chG n al r p) := by
  conv => lhs; unfold searchL
  rw [h, filter_flatMap]
  rfl
theorem flatMap_snoc {α β : Type} {C : List α} {G : α → List β} {k : Nat} {d : α} (hk : k < C.length) : (C.take (k + 1)).flatMap G = (C.take k).flatMap G ++ G (C.getD k d) := by
  rw [List.take_add_one, List.getElem?_eq_getElem hk, List.flatMap_append, List.getD_eq_getElem?_getD, List.getElem?_eq_getElem hk]
  simp
theorem take_set_getD {co : List Int} {x i : Nat} {h : Int} (hx : x < co.length) (hi : i ≤ x) : (co.set x h).getD i 0 = (co.take x ++ [h]).getD i 0 := by
  rw [getD_set hx]
  by_cases e : i = x
  · subst e
    rw [if_pos rfl, List.getD_eq_getElem?_getD, List.getElem?_append_right (by rw [List.length_take]; omega), List.length_take]
    rw [show i - min i co.length = 0 by omega]; rfl
  · rw [if_neg e, getD_app_left (by rw [List.length_take]; omega), getD_take (by omega)]
theorem take_set_lt {co : List Int} {x : Nat} {h : Int} : (co.set x h).take x = co.take x := by
  apply List.ext_getElem?
  intro i
  by_cases hi : i < x
  · rw [List.getElem?_take_of_lt hi, List.getElem?_take_of_lt hi, List.getElem?_set_ne (by omega)]
  · rw [List.getElem?_eq_none (by rw [List.length_take]; omega), List.getElem?_eq_none (by rw [List.length_take]; omega)]
theorem take_set_succ {co : List Int} {x : Nat} {h : Int} (hx : x < co.length) : (co.set x h).take (x + 1) = co.take x ++ [h] := by
  rw [List.take_succ_eq_append_getElem (by simpa using hx), take_set_lt]
  simp
theorem take_le_eq {co co' : List Int} {x y : Nat} (h : co'.take y = co.take y) (hx : x ≤ y) : co'.take x = co.take x := by
  have := congrArg (List.take x) h
  rwa [List.take_take, List.take_take, show min x y = x by omega] at this
theorem takeD {co co' : List Int} {x i : Nat} (h : co'.take x = co.take x) (hi : i < x) : co'.getD i 0 = co.getD i 0 := by
  rw [← getD_take hi, h, getD_take hi]
/-- What the first candidates bring. -/
def chP (n : Net) (al : Int → Bool) (r : Nat) (p : List Int) (hs : List Int) (j : Nat) : List (List Int) := (hs.take j).flatMap (chG n al r p)
theorem chP_zero (n : Net) (al : Int → Bool) (r : Nat) (p hs : List Int) : chP n al r p hs 0 = [] := by simp [chP]
theorem chP_succ {n : Net} {al : Int → Bool} {r : Nat} {p hs : List Int} {j : Nat} (h : j < hs.length) : chP n al r p hs (j + 1) = chP n al r p hs j ++ chG n al r p (hs.getD j 0) := flatMap_snoc h
theorem chP_no {n : Net} {al : Int → Bool} {r : Nat} {p hs : List Int} {j : Nat} (h : j < hs.length) (h0 : chG n al r p (hs.getD j 0) = []) : chP n al r p hs (j + 1) = chP n al r p hs j := by rw [chP_succ h, h0, List.append_nil]
theorem chG_bad {n : Net} {al : Int → Bool} {r : Nat} {p : List Int} {h : Int} (h0 : n.ok p.length (p ++ [h]) = false) : chG n al r p h = [] := by unfold chG; rw [h0]; cases al h <;> rfl
theorem chG_yes {n : Net} {al : Int → Bool} {r : Nat} {p : List Int} {h : Int} (h0 : al h = true) (h1 : n.ok p.length (p ++ [h]) = true) : chG n al r p h = searchL n.cand n.ok r (p ++ [h]) := by unfold chG; rw [h0, h1]; rfl
theorem chP_all {n : Net} {al : Int → Bool} {r : Nat} {p hs : List Int} (h : n.cand p.length = hs.filter al) : searchL n.cand n.ok (r + 1) p = chP n al r p hs hs.length := by unfold chP; rw [List.take_length, searchL_succ h]
theorem chP_full {n : Net} {al : Int → Bool} {r M : Nat} {p hs : List Int} {fs : List (List Int)} {j : Nat} (h : n.cand p.length = hs.filter al) (hj : j < hs.length) (hM : M ≤ (fs ++ chP n al r p hs (j + 1)).length) :
    (fs ++ searchL n.cand n.ok (r + 1) p).take M = (fs ++ chP n al r p hs (j + 1)).take M ∧ M ≤ fs.length + (searchL n.cand n.ok (r + 1) p).length := by
  have e : searchL n.cand n.ok (r + 1) p = chP n al r p hs (j + 1) ++ (hs.drop (j + 1)).flatMap (chG n al r p) := by
    rw [searchL_succ h]
    unfold chP
    rw [← List.flatMap_append, List.take_append_drop]
  rw [List.length_append] at hM
  rw [e, ← List.append_assoc, List.take_append_of_le_length (by rw [List.length_append]; exact hM), List.length_append]
  exact ⟨rfl, by omega⟩
theorem bnot_T {b : Bool} (h : (!b) = true) : b = false := by cases b <;> simp_all
theorem bnot_f {b : Bool} (h : (!b) = false) : b = true := by cases b <;> simp_all
end Go.GL
/- What gathers lists: two ways. No condition. -/
namespace Go.GL
/-- All lists, one behind the other. -/
structure GathL (T1 T2 e : TypeId) (go gm most : Nat) (Tm : TypeId) (b : Nat) (fs : List (List Int)) (gF : Nat) (H : GHeap) : Prop where
  hd : H.get go = some (.row [.slice (some ⟨gF, 0, none⟩) fs.length fs.length] T1 true)
  most : H.get gm = some (.row [.int .i64 (most : Int)] Tm true)
  rows : ∃ r, H.get gF = some (.row (slsL r fs) T2 true) ∧ OwnL b H e r fs
theorem GathL.le {T1 T2 e : TypeId} {go gm most : Nat} {Tm : TypeId} {b : Nat} {fs : List (List Int)} {gF : Nat} {H H' : GHeap} (h : GathL T1 T2 e go gm most Tm b fs gF H) (s : H.Le H') : GathL T1 T2 e go gm most Tm b fs gF H' := by
  obtain ⟨r, h1, h2⟩ := h.rows
  exact ⟨s.2 _ _ h.hd, s.2 _ _ h.most, r, s.2 _ _ h1, h2.mono s⟩
theorem GathL.st {T1 T2 e : TypeId} {go gm most : Nat} {Tm : TypeId} {b : Nat} {fs : List (List Int)} {gF gc : Nat} {H H' : GHeap} (h : GathL T1 T2 e go gm most Tm b fs gF H) (s : St [gc] H H') (h1 : go ≠ gc) (h2 : gm ≠ gc) (h3 : gc ≠ gF) (h4 : gc < b) : GathL T1 T2 e go gm most Tm b fs gF H' := by
  obtain ⟨r, k1, k2⟩ := h.rows
  exact ⟨s.same _ _ ⟨h1, trivial⟩ h.hd, s.same _ _ ⟨h2, trivial⟩ h.most, r, s.same _ _ ⟨Ne.symm h3, trivial⟩ k1, k2.st s (.cons (k2.lowNe h4) (.nil _ _))⟩
theorem row_ne {H : GHeap} {g g' : Nat} {cs cs' : List Value} {e e' : TypeId} (h : H.get g = some (.row cs e true)) (h' : H.get g' = some (.row cs' e' true)) (hne : (e != e') = true) : g ≠ g' := fun ei => by
  subst ei
  rw [h] at h'
  cases h'
  simp at hne
/-- The last list. -/
structure GathI (T e : TypeId) (go : Nat) (b : Nat) (fs : List (List Int)) (gF : Nat) (H : GHeap) : Prop where
  ex : ∃ x, (fs = [] ∧ x = [] ∨ fs = [x]) ∧ H.get go = some (.row [.slice (some ⟨gF, 0, none⟩) x.length x.length] T true) ∧ H.get gF = some (.row (ints x) e true)
theorem GathI.le {T e : TypeId} {go b : Nat} {fs : List (List Int)} {gF : Nat} {H H' : GHeap} (h : GathI T e go b fs gF H) (s : H.Le H') : GathI T e go b fs gF H' := by
  obtain ⟨x, h1, h2, h3⟩ := h.ex
  exact ⟨x, h1, s.2 _ _ h2, s.2 _ _ h3⟩
theorem GathI.st {T e : TypeId} {go b : Nat} {fs : List (List Int)} {gF gc : Nat} {H H' : GHeap} (h : GathI T e go b fs gF H) (s : St [gc] H H') (h1 : go ≠ gc) (h3 : gc ≠ gF) : GathI T e go b fs gF H' := by
  obtain ⟨x, k1, k2, k3⟩ := h.ex
  exact ⟨x, k1, s.same _ _ ⟨h1, trivial⟩ k2, s.same _ _ ⟨Ne.symm h3, trivial⟩ k3⟩
end Go.GL
/- The search for the legs of cones. No condition. -/
namespace Go.GL
/-- The legs of a cone with apex w. -/
def Fun.cnet (d : Fun) (w : Int) : Net where
  cand j := d.t.hom w (d.ob.getD j 0)
  A := d.ar.length
  sr a := (d.s.src.getD a 0).toNat
  tg a := (d.s.tgt.getD a 0).toNat
  sq a u v := decide (d.t.th u (d.ar.getD a 0) = v)
theorem cnet_ne {d : Fun} {w : Int} {a : Nat} {q q' : List Int} (h1 : q.getD (d.s.src.getD a 0).toNat 0 = q'.getD (d.s.src.getD a 0).toNat 0) (h2 : q.getD (d.s.tgt.getD a 0).toNat 0 = q'.getD (d.s.tgt.getD a 0).toNat 0) :
    (!decide (d.t.th (q.getD (d.s.src.getD a 0).toNat 0) (d.ar.getD a 0) = q.getD (d.s.tgt.getD a 0).toNat 0)) = !((d.cnet w).sq a (q'.getD ((d.cnet w).sr a) 0) (q'.getD ((d.cnet w).tg a) 0)) := by
  rw [h1, h2]; rfl
end Go.GL
/- Lists of cones. No condition. -/
namespace Go.GL
def Con.z : Con := ⟨0, []⟩
/-- The cells of a list of cones. -/
def conV (r : Nat → Option Addr) (cs : List Con) : List Value := (List.range cs.length).flatMap fun i => (cs.getD i .z).cells ⟨r i⟩
theorem conV_snoc {r : Nat → Option Addr} {cs : List Con} {c : Con} {a : Option Addr} : conV (upd r cs.length a) (cs ++ [c]) = conV r cs ++ c.cells ⟨a⟩ := by
  unfold conV
  rw [List.length_append, List.length_singleton, List.range_succ, List.flatMap_append]
  congr 1
  · refine flatMap_congr' fun i hi => ?_
    have := List.mem_range.1 hi
    rw [getD_snoc, if_pos this, upd_ne (by omega)]
  · simp only [List.flatMap_cons, List.flatMap_nil, List.append_nil]
    rw [getD_snoc, if_neg (by omega), if_pos rfl, upd_eq]
@[simp] theorem length_conV (r : Nat → Option Addr) (cs : List Con) : (conV r cs).length = cs.length * 2 := by
  unfold conV
  generalize cs.length = n
  induction n with
  | zero => rfl
  | succ n ih => rw [List.range_succ, List.flatMap_append, List.length_append, ih]; simp [Con.cells]; omega
/-- A list of cones; b0, e0, b: where the legs lie. -/
structure ConsAt (T e : TypeId) (b0 : Nat) (H : GHeap) (g : Nat) (r : Nat → Option Addr) (cs : List Con) : Prop where
  hd : H.get g = some (.row (conV r cs) T true)
  rows : OwnL b0 H e r (cs.map Con.lg)
structure GathC (T1 T2 Tx e : TypeId) (go gx b0 e0 : Nat) (x : Int) (pre : List Con) (b : Nat) (fs : List (List Int)) (gF : Nat) (H : GHeap) : Prop where
  hd : H.get go = some (.row [.slice (some ⟨gF, 0, none⟩) (pre ++ fs.map fun l => (⟨x, l⟩ : Con)).length (pre ++ fs.map fun l => (⟨x, l⟩ : Con)).length] T1 true)
  ix : H.get gx = some (.row [.int .i64 x] Tx true)
  rows : ∃ r, H.get gF = some (.row (conV r (pre ++ fs.map fun l => (⟨x, l⟩ : Con))) T2 true) ∧ OwnL b0 H e r ((pre ++ fs.map fun l => (⟨x, l⟩ : Con)).map Con.lg) ∧ ∀ i, i < (pre ++ fs.map fun l => (⟨x, l⟩ : Con)).length → ∀ g, r i = some ⟨g, 0, none⟩ → g < e0 ∨ b ≤ g
theorem GathC.le {T1 T2 Tx e : TypeId} {go gx b0 e0 : Nat} {x : Int} {pre : List Con} {b : Nat} {fs : List (List Int)} {gF : Nat} {H H' : GHeap} (h : GathC T1 T2 Tx e go gx b0 e0 x pre b fs gF H) (s : H.Le H') : GathC T1 T2 Tx e go gx b0 e0 x pre b fs gF H' := by
  obtain ⟨r, h1, h2, h3⟩ := h.rows
  exact ⟨s.2 _ _ h.hd, s.2 _ _ h.ix, r, s.2 _ _ h1, h2.mono s, h3⟩
theorem GathC.st {T1 T2 Tx e : TypeId} {go gx b0 e0 : Nat} {x : Int} {pre : List Con} {b : Nat} {fs : List (List Int)} {gF gc : Nat} {H H' : GHeap} (h : GathC T1 T2 Tx e go gx b0 e0 x pre b fs gF H) (s : St [gc] H H') (h1 : go ≠ gc) (h2 : gx ≠ gc) (h3 : gc ≠ gF) (h4 : e0 ≤ gc) (h5 : gc < b) : GathC T1 T2 Tx e go gx b0 e0 x pre b fs gF H' := by
  obtain ⟨r, k1, k2, k3⟩ := h.rows
  refine ⟨s.same _ _ ⟨h1, trivial⟩ h.hd, s.same _ _ ⟨h2, trivial⟩ h.ix, r, s.same _ _ ⟨Ne.symm h3, trivial⟩ k1, k2.st s (.cons (fun i hi ei => ?_) (.nil _ _)), k3⟩
  rw [List.length_map] at hi
  have := k3 i hi gc ei
  omega
/-- All cones, apex by apex. -/
def Fun.coneL (d : Fun) (n : Nat) : List Con := (List.range n).flatMap fun (w : Nat) => ((d.cnet (w : Int)).sols d.ob.length).map fun l => (⟨(w : Int), l⟩ : Con)
theorem Fun.coneL_succ {d : Fun} {n : Nat} : d.coneL (n + 1) = d.coneL n ++ ((d.cnet (n : Int)).sols d.ob.length).map fun l => (⟨(n : Int), l⟩ : Con) := by
  unfold coneL; rw [List.range_succ, List.flatMap_append]; simp
theorem Fun.coneL_mono {d : Fun} {n m : Nat} (h : n ≤ m) : (d.coneL n).length ≤ (d.coneL m).length := by
  obtain ⟨k, rfl⟩ := Nat.le.dest h
  clear h
  induction k with
  | zero => exact Nat.le_refl _
  | succ k ih => rw [← Nat.add_assoc, Fun.coneL_succ, List.length_append]; omega
theorem Fun.coneL_big {d : Fun} {x n : Nat} (h : x < n) (hb : ¬ ((d.cnet (x : Int)).sols d.ob.length).length ≤ 400 - (d.coneL x).length) (hs : (d.coneL x).length ≤ 400) : 400 < (d.coneL n).length := by
  have h1 := Fun.coneL_mono (d := d) (n := x + 1) (m := n) h
  rw [Fun.coneL_succ, List.length_append, List.length_map] at h1
  omega
theorem Fun.coneL_next {d : Fun} {x : Nat} (hb : ((d.cnet (x : Int)).sols d.ob.length).length ≤ 400 - (d.coneL x).length) : d.coneL x ++ (([] ++ (d.cnet (x : Int)).sols d.ob.length).take (400 - (d.coneL x).length + 1)).map (fun l => (⟨(x : Int), l⟩ : Con)) = d.coneL (x + 1) := by
  rw [List.nil_append, List.take_of_length_le (by omega), Fun.coneL_succ]
theorem OwnL.side {b : Nat} {H : GHeap} {e : TypeId} {r : Nat → Option Addr} {cs : List Con} (h : OwnL b H e r (cs.map Con.lg)) : ∀ i, i < cs.length → ∀ g, r i = some ⟨g, 0, none⟩ → g < H.next := fun i hi g hg => by
  obtain ⟨x, h1, _, h3⟩ := h.row i (by rw [List.length_map]; exact hi)
  rw [h1] at hg
  cases hg
  exact GHeap.lt_of_get h3
theorem take_snocZ {l : List (List Int)} {i : Nat} (h : i < l.length) : l.take (i + 1) = l.take i ++ [l.getD i []] := by
  rw [List.take_add_one, List.getElem?_eq_getElem h, List.getD_eq_getElem?_getD, List.getElem?_eq_getElem h]; rfl
/-- The functor that takes everything to y. -/
def Fun.con (d : Fun) (y : Int) : Fun := ⟨d.s, d.t, List.replicate d.s.obj.toNat y, List.replicate d.s.src.length (d.t.idn.getD y.toNat 0)⟩
theorem repl_getD {n i : Nat} {v : Int} (h : i < n) : (List.replicate n v).getD i 0 = v := by
  rw [List.getD_eq_getElem?_getD, List.getElem?_replicate, if_pos h]; rfl
end Go.GL
/- The functor that takes everything to one object. No condition but those of each statement. -/
namespace Go.Proofs.Ytpmjlhbglcaokaa
open Go Go.GL Go.RowKit Go.Proofs
theorem bt_32_Hj : buildT Try.prog 32 = some ([.int .i64 0, .slice none 0 0, .slice none 0 0, .slice none 0 0, .slice none 0 0], [(0, 1), (1, 1), (2, 1), (3, 1), (4, 1)]) := by kernel_rfl
theorem bt_34_Hj : buildT Try.prog 34 = some ([.int .i64 0, .slice none 0 0, .slice none 0 0, .slice none 0 0, .slice none 0 0, .int .i64 0, .slice none 0 0, .slice none 0 0, .slice none 0 0, .slice none 0 0, .slice none 0 0, .slice none 0 0], [(0, 5), (5, 5), (10, 1), (11, 1)]) := by kernel_rfl
set_option maxHeartbeats 4000000 in
theorem l01Own2Z_c {a : Option Addr} {pss : List (List Int)} {r : Nat → Option Addr} {H : GHeap} (h : Intss H a pss r := by assumption) (hl : pss.length ≤ 1048576 := by omega) (hl2 : ∀ i, (pss.getD i []).length ≤ 1048576) :
    GCalls Try.prog 113 [.slice a pss.length pss.length] H (NewIntss H pss) := by
  refine GCalls.body (N := 21) (rs := [.tmp 2]) Try.func113 rfl rfl rfl rfl (fun Qx hret hend => ?_)
  refine .forget (fr' := [(0, some _)]) ⟨rfl, trivial⟩ ?_
  have hle := GHeap.Le.refl H
  have base_h := h
  refine .seq (fun K1 hK1 => ?_)
  refine .region (.m rfl rfl rfl (.assign rfl) (.nil ?_))
  refine hK1 _ _ ?_
  refine .seq (fun K2 hK2 => ?_)
  refine .region ?_
  refine .r rfl rfl rfl (.litR rfl sl_23_B ze_22_E rfl rfl (by omega) (by omega) rfl rfl) ?_
  rintro _ H5 ⟨g5, rfl, le5, ge5, at5⟩
  have nx_H5 := le5.1
  replace hle := hle.trans le5
  have lt_at5 := GHeap.lt_of_get at5
  replace h := base_h.mono hle
  refine .m rfl rfl rfl (.assign rfl) (.nil ?_)
  refine hK2 _ _ ?_
  refine .seq (fun K3 hK3 => ?_)
  refine .seq (fun K4 hK4 => ?_)
  refine .region (.m rfl rfl rfl (.assign rfl) (.nil ?_))
  refine hK4 _ _ ?_
  refine .block ?_
  refine .loopR (σ := Nat × (Nat → Option Addr) × Nat × Nat) [(0, some _)] (fun (i, rr, gL3, nL3) => [(4, some (.int .i64 (i : Int))), (3, some (.slice (some ⟨gL3, 0, none⟩) nL3 nL3))]) (fun (i, rr, gL3, nL3) H' => St [g5] H5 H' ∧ H'.get gL3 = some (.row ((slsL rr (pss.take i))) 22 true) ∧ (gL3 = g5 ∨ H5.next ≤ gL3) ∧ nL3 = (slsL rr (pss.take i)).length ∧ i ≤ pss.length ∧ OwnL H.next H' 2 rr (pss.take i)) (fun (i, rr, gL3, nL3) => pss.length - i) ((0, fun _ => none, _, _)) ⟨rfl, trivial⟩ ⟨rfl, rfl, trivial⟩ ?_ ?_
  ·
   refine ⟨.refl _ _, by first | assumption | exact at5 | simpa using at5, .inl rfl, by first | rfl | assumption | simp | omega, ?_⟩
   exact ⟨by omega, .nil _ _ _ _⟩
  rintro ⟨i, rr, gL3, nL3⟩ HL1 ⟨lst1, at_L3, pl_L3, ln_L3, hI⟩ KL1 hKL1
  refine .forget (fr' := [(4, some (.int .i64 (i : Int))), (3, some (.slice (some ⟨gL3, 0, none⟩) nL3 nL3)), (0, some _)]) ⟨rfl, rfl, rfl, trivial⟩ ?_
  have ge_L3 : H.next ≤ gL3 := by omega
  have nx_HL1 := lst1.nx
  replace hle := hle.st lst1 (fun k hk => ⟨by omega, trivial⟩)
  have lt_at_L3 := GHeap.lt_of_get at_L3
  replace h := base_h.mono hle
  have rk := St.refl [gL3] HL1
  obtain ⟨hi, hR⟩ := hI
  have hat3 := at_L3
  have htk : (pss.take i).length = i := by rw [List.length_take]; omega
  have hfl : (slsL rr (pss.take i)).length = (pss.take i).length := length_slsL _ _
  have hli := hl2 i
  refine .seq (fun K5 hK5 => ?_)
  refine .seq (fun K6 hK6 => ?_)
  refine .region (.m rfl rfl rfl (.move rfl) (.m rfl rfl rfl (.move rfl) (.m rfl rfl rfl (.len sl_23_B rfl) ?_)))
  refine .m rfl rfl rfl (.cmp rfl rfl rfl) (.nil ?_)
  refine hK6 _ _ ?_
  refine .cond rfl (fun h9 => ?_) (fun h9 => ?_)
  ·
   simp only [sps] at h9
   have u1 := h.2 i (by omega)
   refine .skip ?_
   refine hK5 _ _ ?_
   refine .seq (fun K7 hK7 => ?_)
   refine .block ?_
   refine .region (.m rfl rfl rfl (.move rfl) (.m rfl rfl rfl (.move rfl) (.m rfl rfl rfl (.move rfl) ?_)))
   refine .m rfl rfl rfl (.idxN sl_23_B (Intss.sl (by assumption)) rfl rfl (by omega)) ?_
   refine .m rfl rfl rfl (.loadR on_22_B (by assumption) rfl (by omega)) ?_
   refine .call rfl rfl rfl rfl @Try.call108 rfl (l01Own_c) ?_
   rintro _ H17 ⟨le17, g17, rfl, at17, ge17⟩
   have nx_H17 := le17.1
   replace hle := hle.trans le17
   replace lst1 := lst1.le le17
   replace rk := rk.le le17
   replace at_L3 := le17.2 _ _ at_L3
   have lt_at17 := GHeap.lt_of_get at17
   replace h := base_h.mono hle
   clear u1
   have u1 := h.2 i (by omega)
   have i17 := Ints.of_get at17
   refine .r rfl rfl rfl (.litR rfl sl_23_B ze_22_E rfl rfl (by omega) (by omega) rfl rfl) ?_
   rintro _ H18 ⟨g18, rfl, le18, ge18, at18⟩
   have nx_H18 := le18.1
   replace hle := hle.trans le18
   replace lst1 := lst1.le le18
   replace rk := rk.le le18
   replace at_L3 := le18.2 _ _ at_L3
   replace at17 := le18.2 _ _ at17
   have lt_at18 := GHeap.lt_of_get at18
   replace h := base_h.mono hle
   clear u1
   have u1 := h.2 i (by omega)
   clear i17
   have i17 := Ints.of_get at17
   refine .r rfl rfl rfl (.appendV rfl sl_23_B ze_22_E rfl by_22_E sl_23_B rfl rfl (by assumption) (by assumption) (by first | omega | (simp <;> omega)) rfl rfl (by omega) (by omega)) ?_
   rintro _ H19 ⟨g19, rfl, st19, ge19, at19⟩
   have nx_H19 := st19.nx
   replace hle := hle.st st19 (fun k hk => ⟨by omega, trivial⟩)
   replace lst1 := lst1.st st19 (fun k hk ho => by simp only [out, and_true] at ho ⊢ <;> omega)
   replace rk := rk.st st19 (fun k hk ho => by simp only [out, and_true] at ho ⊢ <;> omega)
   replace at17 := st19.same _ _ ⟨by omega, trivial⟩ at17
   replace at18 := st19.same _ _ ⟨by omega, trivial⟩ at18
   have lt_at19 := GHeap.lt_of_get at19
   replace h := base_h.mono hle
   clear u1
   have u1 := h.2 i (by omega)
   clear i17
   have i17 := Ints.of_get at17
   refine .m rfl rfl rfl (.assign rfl) (.nil ?_)
   refine hK7 _ _ ?_
   refine .region (.m rfl rfl rfl (.move rfl) ?_)
   refine .m rfl rfl rfl (.add rfl rfl rfl (by omega) (by omega)) ?_
   refine .m rfl rfl rfl (.assign rfl) (.nil ?_)
   refine hKL1 ((i + 1, upd rr (pss.take i).length (some ⟨g17, 0, none⟩), _, _)) _ _ ?_ ?_ ⟨rfl, rfl, rfl, trivial⟩
   ·
    refine ⟨lst1, by first | assumption | (rw [take_snocZ (by omega), slsL_snoc]; assumption), by omega, by first | omega | (simp only [List.length_append, List.length_cons, List.length_nil] <;> omega) | (rw [take_snocZ (by omega), slsL_snoc] <;> (first | omega | (simp only [List.length_append, List.length_cons, List.length_nil] <;> omega))), ?_⟩
    exact ⟨by omega, by rw [take_snocZ (by omega)]; exact hR.snoc (x := pss.getD i []) (rk.lasts1 hat3 rfl) (by assumption) (by omega) (by omega)⟩
   (dsimp only; omega)
  try simp only [sps] at h9
  refine .exit ?_
  refine hK3 _ _ ?_
  refine .seq (fun K8 hK8 => ?_)
  refine .region (.m rfl rfl rfl (.move rfl) (.m rfl rfl rfl (.assign rfl) (.nil ?_)))
  refine hK8 _ _ ?_
  refine .ret ?_
  refine hret _ _ ?_
  refine ⟨_, rfl, ?_⟩
  obtain rfl : i = pss.length := by omega
  rw [List.take_length] at hR at_L3 ln_L3
  exact ⟨hle, _, rr, by rw [ln_L3, length_slsL], (hR.done at_L3 (by omega)).1.resolve_left (fun h => by cases h.2)⟩
set_option maxHeartbeats 4000000 in
theorem l02Own_c {c : Cat} {p : CatP} {H : GHeap} (hin : c.In H p := by assumption) (hs : c.Small := by assumption) :
    GCalls Try.prog 109 [.agg (c.cells p).toArray] H (NewCat H c) := by
  obtain ⟨n1, n2, n3, n4, n5, n6⟩ := hs
  refine GCalls.body (N := 18) (rs := [.cell 2 32]) Try.func109 rfl rfl rfl rfl (fun Qx hret hend => ?_)
  refine .forget (fr' := [(0, some _)]) ⟨rfl, trivial⟩ ?_
  have hle := GHeap.Le.refl H
  have base_hin := hin
  refine .seq (fun K1 hK1 => ?_)
  refine .region ?_
  refine .r rfl rfl rfl (.boxR rfl sz_32_D rfl) ?_
  rintro _ H1 ⟨g1, rfl, le1, ge1, at1⟩
  have nx_H1 := le1.1
  replace hle := hle.trans le1
  have lt_at1 := GHeap.lt_of_get at1
  replace hin := base_hin.mono hle
  have hb1 : Cat.At _ g1 0 c p := ⟨Mem.of_get at1, hin⟩
  obtain ⟨c01, c11, c21, c31, c41, i11, i21, i31, i41⟩ := hb1.get
  have hm1 : MemN _ _ _ _ _ := ⟨rfl, hb1.1⟩
  have hi1 := hb1.2
  refine .r rfl rfl rfl (.allocR rfl ze_32_E rfl) ?_
  rintro _ H2 ⟨g2, rfl, le2, ge2, at2⟩
  have nx_H2 := le2.1
  replace hle := hle.trans le2
  replace at1 := le2.2 _ _ at1
  have lt_at2 := GHeap.lt_of_get at2
  replace hin := base_hin.mono hle
  clear hb1 c01 c11 c21 c31 c41 i11 i21 i31 i41 hm1 hi1
  have hb1 : Cat.At _ g1 0 c p := ⟨Mem.of_get at1, hin⟩
  obtain ⟨c01, c11, c21, c31, c41, i11, i21, i31, i41⟩ := hb1.get
  have hm1 : MemN _ _ _ _ _ := ⟨rfl, hb1.1⟩
  have hi1 := hb1.2
  refine .nil ?_
  refine hK1 _ _ ?_
  refine .seq (fun K2 hK2 => ?_)
  refine .regionD mixed_orders_B (.q 0 (.q 1 (.q 2 (.q 3 (.q 5 (.q 6 (.q 8 (.q 9 (.q 11 (.q 12 (.c 4 1 (.c 7 1 (.c 10 1 (.c 13 1 (.q 14 (.c 15 0 (.done))))))))))))))))) (by kernel_rfl) ?_
  refine .m rfl rfl rfl rfl (.refl _) (.fieldAddr fo_32_0_B rfl) ?_
  refine .m rfl rfl rfl rfl (.refl _) (.load on_2_A rfl (by first | assumption | exact Mem.of_get at1 0 _ rfl)) ?_
  refine .m rfl rfl rfl rfl (.refl _) (.fieldAddr fo_32_1_B rfl) ?_
  refine .m rfl rfl rfl rfl (.refl _) (.load on_22_B rfl (by first | assumption | exact Mem.of_get at1 1 _ rfl)) ?_
  refine .m rfl rfl rfl rfl (.refl _) (.fieldAddr fo_32_2_B rfl) ?_
  refine .m rfl rfl rfl rfl (.refl _) (.load on_22_B rfl (by first | assumption | exact Mem.of_get at1 2 _ rfl)) ?_
  refine .m rfl rfl rfl rfl (.refl _) (.fieldAddr fo_32_3_B rfl) ?_
  refine .m rfl rfl rfl rfl (.refl _) (.load on_22_B rfl (by first | assumption | exact Mem.of_get at1 3 _ rfl)) ?_
  refine .m rfl rfl rfl rfl (.refl _) (.fieldAddr fo_32_4_B rfl) ?_
  refine .m rfl rfl rfl rfl (.refl _) (.load on_23_B rfl (by first | assumption | exact Mem.of_get at1 4 _ rfl)) ?_
  refine .call1 rfl rfl rfl rfl rfl @Try.call108 rfl (l01Own_c) ?_
  rintro _ H7 ⟨le7, g7, rfl, at7, ge7⟩
  have hbl := le7
  refine ⟨hbl, ?_⟩
  have nx_H7 := le7.1
  replace hle := hle.trans le7
  replace at1 := le7.2 _ _ at1
  replace at2 := le7.2 _ _ at2
  have lt_at7 := GHeap.lt_of_get at7
  replace hin := base_hin.mono hle
  clear hb1 c01 c11 c21 c31 c41 i11 i21 i31 i41 hm1 hi1
  have hb1 : Cat.At _ g1 0 c p := ⟨Mem.of_get at1, hin⟩
  obtain ⟨c01, c11, c21, c31, c41, i11, i21, i31, i41⟩ := hb1.get
  have hm1 : MemN _ _ _ _ _ := ⟨rfl, hb1.1⟩
  have hi1 := hb1.2
  have i7 := Ints.of_get at7
  refine .call1 rfl rfl rfl rfl rfl @Try.call108 rfl (l01Own_c) ?_
  rintro _ H10 ⟨le10, g10, rfl, at10, ge10⟩
  replace hbl := hbl.trans le10
  refine ⟨hbl, ?_⟩
  have nx_H10 := le10.1
  replace hle := hle.trans le10
  replace at1 := le10.2 _ _ at1
  replace at2 := le10.2 _ _ at2
  replace at7 := le10.2 _ _ at7
  have lt_at10 := GHeap.lt_of_get at10
  replace hin := base_hin.mono hle
  clear hb1 c01 c11 c21 c31 c41 i11 i21 i31 i41 hm1 hi1
  have hb1 : Cat.At _ g1 0 c p := ⟨Mem.of_get at1, hin⟩
  obtain ⟨c01, c11, c21, c31, c41, i11, i21, i31, i41⟩ := hb1.get
  have hm1 : MemN _ _ _ _ _ := ⟨rfl, hb1.1⟩
  have hi1 := hb1.2
  clear i7
  have i7 := Ints.of_get at7
  have i10 := Ints.of_get at10
  refine .call1 rfl rfl rfl rfl rfl @Try.call108 rfl (l01Own_c) ?_
  rintro _ H13 ⟨le13, g13, rfl, at13, ge13⟩
  replace hbl := hbl.trans le13
  refine ⟨hbl, ?_⟩
  have nx_H13 := le13.1
  replace hle := hle.trans le13
  replace at1 := le13.2 _ _ at1
  replace at2 := le13.2 _ _ at2
  replace at7 := le13.2 _ _ at7
  replace at10 := le13.2 _ _ at10
  have lt_at13 := GHeap.lt_of_get at13
  replace hin := base_hin.mono hle
  clear hb1 c01 c11 c21 c31 c41 i11 i21 i31 i41 hm1 hi1
  have hb1 : Cat.At _ g1 0 c p := ⟨Mem.of_get at1, hin⟩
  obtain ⟨c01, c11, c21, c31, c41, i11, i21, i31, i41⟩ := hb1.get
  have hm1 : MemN _ _ _ _ _ := ⟨rfl, hb1.1⟩
  have hi1 := hb1.2
  clear i7
  have i7 := Ints.of_get at7
  clear i10
  have i10 := Ints.of_get at10
  have i13 := Ints.of_get at13
  refine .call1 rfl rfl rfl rfl rfl @Try.call113 rfl (l01Own2Z_c (hl2 := n5)) ?_
  rintro _ H16 ⟨le16, a16, r16, rfl, v16⟩
  replace hbl := hbl.trans le16
  refine ⟨hbl, ?_⟩
  have nx_H16 := le16.1
  replace hle := hle.trans le16
  replace at1 := le16.2 _ _ at1
  replace at2 := le16.2 _ _ at2
  replace at7 := le16.2 _ _ at7
  replace at10 := le16.2 _ _ at10
  replace at13 := le16.2 _ _ at13
  have bs_v16 := v16
  have lv_v16 : Keep H13.next H16 H16 := fun _ _ _ h => h
  replace hin := base_hin.mono hle
  clear hb1 c01 c11 c21 c31 c41 i11 i21 i31 i41 hm1 hi1
  have hb1 : Cat.At _ g1 0 c p := ⟨Mem.of_get at1, hin⟩
  obtain ⟨c01, c11, c21, c31, c41, i11, i21, i31, i41⟩ := hb1.get
  have hm1 : MemN _ _ _ _ _ := ⟨rfl, hb1.1⟩
  have hi1 := hb1.2
  clear i7
  have i7 := Ints.of_get at7
  clear i10
  have i10 := Ints.of_get at10
  clear i13
  have i13 := Ints.of_get at13
  have i16 := v16.intss
  refine .m rfl rfl rfl rfl hbl (.build bt_32_Hj rfl rfl rfl) ?_
  refine .r0 rfl rfl rfl (.fillR rfl sz_32_D rfl rfl rfl rfl (by assumption) (by first | rfl | exact Nat.le_of_ble_eq_true rfl | simp)) ?_
  rintro _ H1015 ⟨rfl, st1015, at1015⟩
  have nx_H1015 := st1015.nx
  replace hle := hle.st st1015 (fun k hk => ⟨by omega, trivial⟩)
  replace at1 := st1015.same _ _ ⟨by omega, trivial⟩ at1
  replace at7 := st1015.same _ _ ⟨by omega, trivial⟩ at7
  replace at10 := st1015.same _ _ ⟨by omega, trivial⟩ at10
  replace at13 := st1015.same _ _ ⟨by omega, trivial⟩ at13
  replace lv_v16 := Keep.st lv_v16 st1015 (fun k hb hk => ⟨by omega, trivial⟩)
  replace v16 := bs_v16.keep lv_v16 (Nat.le_refl _)
  have lt_at1015 := GHeap.lt_of_get at1015
  replace hin := base_hin.mono hle
  clear hb1 c01 c11 c21 c31 c41 i11 i21 i31 i41 hm1 hi1
  have hb1 : Cat.At _ g1 0 c p := ⟨Mem.of_get at1, hin⟩
  obtain ⟨c01, c11, c21, c31, c41, i11, i21, i31, i41⟩ := hb1.get
  have hm1 : MemN _ _ _ _ _ := ⟨rfl, hb1.1⟩
  have hi1 := hb1.2
  clear i7
  have i7 := Ints.of_get at7
  clear i10
  have i10 := Ints.of_get at10
  clear i13
  have i13 := Ints.of_get at13
  clear i16
  have i16 := v16.intss
  have mm1015 : MemN _ _ _ _ _ := ⟨rfl, Mem.of_get at1015⟩
  refine .done ?_
  refine hK2 _ _ ?_
  refine .ret ?_
  refine hret _ _ ?_
  refine ⟨_, _, _, _, rfl, ag_32_D, (by rfl), (Mem.of_get at1015), ?_⟩
  exact ⟨hle, ⟨some ⟨g7, 0, none⟩, some ⟨g10, 0, none⟩, some ⟨g13, 0, none⟩, a16, r16⟩, rfl, ⟨g7, _, rfl, by omega, at7⟩, ⟨g10, _, rfl, by omega, at10⟩, ⟨g13, _, rfl, by omega, at13⟩, v16.keep (.of_le (.refl _)) (by omega)⟩
theorem fu_build {c d : Cat} {p q : CatP} {a b : Option Addr} {n m : Nat} : fillL ([(0, 5), (5, 5), (10, 1), (11, 1)][·]?) [.int .i64 0, .slice none 0 0, .slice none 0 0, .slice none 0 0, .slice none 0 0, .int .i64 0, .slice none 0 0, .slice none 0 0, .slice none 0 0, .slice none 0 0, .slice none 0 0, .slice none 0 0] [(0, .agg (c.cells p).toArray), (1, .agg (d.cells q).toArray), (2, .slice a n n), (3, .slice b m m)] = some (c.cells p ++ (d.cells q ++ [.slice a n n, .slice b m m])) := by kernel_rfl
set_option maxHeartbeats 4000000 in
theorem l06Make_c {c d : Cat} {p q : CatP} {a b : Option Addr} {xs ys : List Int} {H : GHeap} (hin : c.In H p) (hin1 : d.In H q) (hx : Ints H a xs) (hy : Ints H b ys) (hs : c.Small) (hs1 : d.Small) (hl : xs.length ≤ 1048576) (hl2 : ys.length ≤ 1048576) :
    GCalls Try.prog 100 [.agg (c.cells p).toArray, .agg (d.cells q).toArray, .slice a xs.length xs.length, .slice b ys.length ys.length] H (NewFun H ⟨c, d, xs, ys⟩) := by
  refine GCalls.body (N := 18) (rs := [.cell 8 34]) Try.func100 rfl rfl rfl rfl (fun Qx hret hend => ?_)
  refine .forget (fr' := [(0, some _), (1, some _), (2, some _), (3, some _)]) ⟨rfl, rfl, rfl, rfl, trivial⟩ ?_
  have hle := GHeap.Le.refl H
  have base_hin := hin
  have base_hin1 := hin1
  have base_hx := hx
  have base_hy := hy
  refine .seq (fun K1 hK1 => ?_)
  refine .region ?_
  refine .r rfl rfl rfl (.boxR rfl sz_32_D rfl) ?_
  rintro _ H4 ⟨g4, rfl, le4, ge4, at4⟩
  have nx_H4 := le4.1
  replace hle := hle.trans le4
  have lt_at4 := GHeap.lt_of_get at4
  replace hin := base_hin.mono hle
  replace hin1 := base_hin1.mono hle
  replace hx := base_hx.mono hle
  replace hy := base_hy.mono hle
  have hb4 : Cat.At _ g4 0 c p := ⟨Mem.of_get at4, hin⟩
  obtain ⟨c04, c14, c24, c34, c44, i14, i24, i34, i44⟩ := hb4.get
  have hm4 : MemN _ _ _ _ _ := ⟨rfl, hb4.1⟩
  have hi4 := hb4.2
  refine .r rfl rfl rfl (.boxR rfl sz_32_D rfl) ?_
  rintro _ H5 ⟨g5, rfl, le5, ge5, at5⟩
  have nx_H5 := le5.1
  replace hle := hle.trans le5
  replace at4 := le5.2 _ _ at4
  have lt_at5 := GHeap.lt_of_get at5
  replace hin := base_hin.mono hle
  replace hin1 := base_hin1.mono hle
  replace hx := base_hx.mono hle
  replace hy := base_hy.mono hle
  clear hb4 c04 c14 c24 c34 c44 i14 i24 i34 i44 hm4 hi4
  have hb4 : Cat.At _ g4 0 c p := ⟨Mem.of_get at4, hin⟩
  obtain ⟨c04, c14, c24, c34, c44, i14, i24, i34, i44⟩ := hb4.get
  have hm4 : MemN _ _ _ _ _ := ⟨rfl, hb4.1⟩
  have hi4 := hb4.2
  have hb5 : Cat.At _ g5 0 d q := ⟨Mem.of_get at5, hin1⟩
  obtain ⟨c05, c15, c25, c35, c45, i15, i25, i35, i45⟩ := hb5.get
  have hm5 : MemN _ _ _ _ _ := ⟨rfl, hb5.1⟩
  have hi5 := hb5.2
  refine .r rfl rfl rfl (.allocR rfl ze_34_E rfl) ?_
  rintro _ H8 ⟨g8, rfl, le8, ge8, at8⟩
  have nx_H8 := le8.1
  replace hle := hle.trans le8
  replace at4 := le8.2 _ _ at4
  replace at5 := le8.2 _ _ at5
  have lt_at8 := GHeap.lt_of_get at8
  replace hin := base_hin.mono hle
  replace hin1 := base_hin1.mono hle
  replace hx := base_hx.mono hle
  replace hy := base_hy.mono hle
  clear hb4 c04 c14 c24 c34 c44 i14 i24 i34 i44 hm4 hi4
  have hb4 : Cat.At _ g4 0 c p := ⟨Mem.of_get at4, hin⟩
  obtain ⟨c04, c14, c24, c34, c44, i14, i24, i34, i44⟩ := hb4.get
  have hm4 : MemN _ _ _ _ _ := ⟨rfl, hb4.1⟩
  have hi4 := hb4.2
  clear hb5 c05 c15 c25 c35 c45 i15 i25 i35 i45 hm5 hi5
  have hb5 : Cat.At _ g5 0 d q := ⟨Mem.of_get at5, hin1⟩
  obtain ⟨c05, c15, c25, c35, c45, i15, i25, i35, i45⟩ := hb5.get
  have hm5 : MemN _ _ _ _ _ := ⟨rfl, hb5.1⟩
  have hi5 := hb5.2
  refine .nil ?_
  refine hK1 _ _ ?_
  refine .seq (fun K2 hK2 => ?_)
  refine .regionD mixed_orders_B (.q 0 (.q 2 (.q 4 (.q 6 (.c 1 1 (.c 3 1 (.c 5 1 (.c 7 0 (.q 8 (.c 9 0 (.done))))))))))) (by kernel_rfl) ?_
  refine .m rfl rfl rfl rfl (.refl _) (.loadM ag_32_D rfl ⟨rfl, Mem.of_get at4⟩) ?_
  refine .m rfl rfl rfl rfl (.refl _) (.loadM ag_32_D rfl ⟨rfl, Mem.of_get at5⟩) ?_
  refine .m rfl rfl rfl rfl (.refl _) (.move rfl) (.m rfl rfl rfl rfl (.refl _) (.move rfl) ?_)
  refine .call1 rfl rfl rfl rfl rfl @Try.call109 rfl (l02Own_c (c := c)) ?_
  rintro _ H10 ⟨le10, p10, rfl, v10⟩
  have hbl := le10
  refine ⟨hbl, ?_⟩
  have nx_H10 := le10.1
  replace hle := hle.trans le10
  replace at4 := le10.2 _ _ at4
  replace at5 := le10.2 _ _ at5
  replace at8 := le10.2 _ _ at8
  have bs_v10 := v10
  have lv_v10 : Keep H8.next H10 H10 := fun _ _ _ h => h
  replace hin := base_hin.mono hle
  replace hin1 := base_hin1.mono hle
  replace hx := base_hx.mono hle
  replace hy := base_hy.mono hle
  clear hb4 c04 c14 c24 c34 c44 i14 i24 i34 i44 hm4 hi4
  have hb4 : Cat.At _ g4 0 c p := ⟨Mem.of_get at4, hin⟩
  obtain ⟨c04, c14, c24, c34, c44, i14, i24, i34, i44⟩ := hb4.get
  have hm4 : MemN _ _ _ _ _ := ⟨rfl, hb4.1⟩
  have hi4 := hb4.2
  clear hb5 c05 c15 c25 c35 c45 i15 i25 i35 i45 hm5 hi5
  have hb5 : Cat.At _ g5 0 d q := ⟨Mem.of_get at5, hin1⟩
  obtain ⟨c05, c15, c25, c35, c45, i15, i25, i35, i45⟩ := hb5.get
  have hm5 : MemN _ _ _ _ _ := ⟨rfl, hb5.1⟩
  have hi5 := hb5.2
  have i10 := v10.inn
  refine .call1 rfl rfl rfl rfl rfl @Try.call109 rfl (l02Own_c (c := d)) ?_
  rintro _ H12 ⟨le12, p12, rfl, v12⟩
  replace hbl := hbl.trans le12
  refine ⟨hbl, ?_⟩
  have nx_H12 := le12.1
  replace hle := hle.trans le12
  replace at4 := le12.2 _ _ at4
  replace at5 := le12.2 _ _ at5
  replace at8 := le12.2 _ _ at8
  replace lv_v10 := Keep.le lv_v10 le12
  replace v10 := bs_v10.keep lv_v10 (Nat.le_refl _)
  have bs_v12 := v12
  have lv_v12 : Keep H10.next H12 H12 := fun _ _ _ h => h
  replace hin := base_hin.mono hle
  replace hin1 := base_hin1.mono hle
  replace hx := base_hx.mono hle
  replace hy := base_hy.mono hle
  clear hb4 c04 c14 c24 c34 c44 i14 i24 i34 i44 hm4 hi4
  have hb4 : Cat.At _ g4 0 c p := ⟨Mem.of_get at4, hin⟩
  obtain ⟨c04, c14, c24, c34, c44, i14, i24, i34, i44⟩ := hb4.get
  have hm4 : MemN _ _ _ _ _ := ⟨rfl, hb4.1⟩
  have hi4 := hb4.2
  clear hb5 c05 c15 c25 c35 c45 i15 i25 i35 i45 hm5 hi5
  have hb5 : Cat.At _ g5 0 d q := ⟨Mem.of_get at5, hin1⟩
  obtain ⟨c05, c15, c25, c35, c45, i15, i25, i35, i45⟩ := hb5.get
  have hm5 : MemN _ _ _ _ _ := ⟨rfl, hb5.1⟩
  have hi5 := hb5.2
  clear i10
  have i10 := v10.inn
  have i12 := v12.inn
  refine .call1 rfl rfl rfl rfl rfl @Try.call108 rfl (l01Own_c hx) ?_
  rintro _ H14 ⟨le14, g14, rfl, at14, ge14⟩
  replace hbl := hbl.trans le14
  refine ⟨hbl, ?_⟩
  have nx_H14 := le14.1
  replace hle := hle.trans le14
  replace at4 := le14.2 _ _ at4
  replace at5 := le14.2 _ _ at5
  replace at8 := le14.2 _ _ at8
  replace lv_v10 := Keep.le lv_v10 le14
  replace v10 := bs_v10.keep lv_v10 (Nat.le_refl _)
  replace lv_v12 := Keep.le lv_v12 le14
  replace v12 := bs_v12.keep lv_v12 (Nat.le_refl _)
  have lt_at14 := GHeap.lt_of_get at14
  replace hin := base_hin.mono hle
  replace hin1 := base_hin1.mono hle
  replace hx := base_hx.mono hle
  replace hy := base_hy.mono hle
  clear hb4 c04 c14 c24 c34 c44 i14 i24 i34 i44 hm4 hi4
  have hb4 : Cat.At _ g4 0 c p := ⟨Mem.of_get at4, hin⟩
  obtain ⟨c04, c14, c24, c34, c44, i14, i24, i34, i44⟩ := hb4.get
  have hm4 : MemN _ _ _ _ _ := ⟨rfl, hb4.1⟩
  have hi4 := hb4.2
  clear hb5 c05 c15 c25 c35 c45 i15 i25 i35 i45 hm5 hi5
  have hb5 : Cat.At _ g5 0 d q := ⟨Mem.of_get at5, hin1⟩
  obtain ⟨c05, c15, c25, c35, c45, i15, i25, i35, i45⟩ := hb5.get
  have hm5 : MemN _ _ _ _ _ := ⟨rfl, hb5.1⟩
  have hi5 := hb5.2
  clear i10
  have i10 := v10.inn
  clear i12
  have i12 := v12.inn
  have i14 := Ints.of_get at14
  refine .call0 rfl rfl rfl rfl rfl @Try.call108 rfl (l01Own_c hy) ?_
  rintro _ H16 ⟨le16, g16, rfl, at16, ge16⟩
  have nx_H16 := le16.1
  replace hle := hle.trans le16
  replace at4 := le16.2 _ _ at4
  replace at5 := le16.2 _ _ at5
  replace at8 := le16.2 _ _ at8
  replace at14 := le16.2 _ _ at14
  replace lv_v10 := Keep.le lv_v10 le16
  replace v10 := bs_v10.keep lv_v10 (Nat.le_refl _)
  replace lv_v12 := Keep.le lv_v12 le16
  replace v12 := bs_v12.keep lv_v12 (Nat.le_refl _)
  have lt_at16 := GHeap.lt_of_get at16
  replace hin := base_hin.mono hle
  replace hin1 := base_hin1.mono hle
  replace hx := base_hx.mono hle
  replace hy := base_hy.mono hle
  clear hb4 c04 c14 c24 c34 c44 i14 i24 i34 i44 hm4 hi4
  have hb4 : Cat.At _ g4 0 c p := ⟨Mem.of_get at4, hin⟩
  obtain ⟨c04, c14, c24, c34, c44, i14, i24, i34, i44⟩ := hb4.get
  have hm4 : MemN _ _ _ _ _ := ⟨rfl, hb4.1⟩
  have hi4 := hb4.2
  clear hb5 c05 c15 c25 c35 c45 i15 i25 i35 i45 hm5 hi5
  have hb5 : Cat.At _ g5 0 d q := ⟨Mem.of_get at5, hin1⟩
  obtain ⟨c05, c15, c25, c35, c45, i15, i25, i35, i45⟩ := hb5.get
  have hm5 : MemN _ _ _ _ _ := ⟨rfl, hb5.1⟩
  have hi5 := hb5.2
  clear i10
  have i10 := v10.inn
  clear i12
  have i12 := v12.inn
  clear i14
  have i14 := Ints.of_get at14
  have i16 := Ints.of_get at16
  refine .m rfl rfl rfl rfl (.refl _) (.build bt_34_Hj rfl rfl fu_build) ?_
  refine .r0 rfl rfl rfl (.fillR rfl sz_34_E rfl rfl rfl rfl (by assumption) (by first | rfl | exact Nat.le_of_ble_eq_true rfl | simp)) ?_
  rintro _ H1009 ⟨rfl, st1009, at1009⟩
  have nx_H1009 := st1009.nx
  replace hle := hle.st st1009 (fun k hk => ⟨by omega, trivial⟩)
  replace at4 := st1009.same _ _ ⟨by omega, trivial⟩ at4
  replace at5 := st1009.same _ _ ⟨by omega, trivial⟩ at5
  replace at14 := st1009.same _ _ ⟨by omega, trivial⟩ at14
  replace at16 := st1009.same _ _ ⟨by omega, trivial⟩ at16
  replace lv_v10 := Keep.st lv_v10 st1009 (fun k hb hk => ⟨by omega, trivial⟩)
  replace v10 := bs_v10.keep lv_v10 (Nat.le_refl _)
  replace lv_v12 := Keep.st lv_v12 st1009 (fun k hb hk => ⟨by omega, trivial⟩)
  replace v12 := bs_v12.keep lv_v12 (Nat.le_refl _)
  have lt_at1009 := GHeap.lt_of_get at1009
  replace hin := base_hin.mono hle
  replace hin1 := base_hin1.mono hle
  replace hx := base_hx.mono hle
  replace hy := base_hy.mono hle
  clear hb4 c04 c14 c24 c34 c44 i14 i24 i34 i44 hm4 hi4
  have hb4 : Cat.At _ g4 0 c p := ⟨Mem.of_get at4, hin⟩
  obtain ⟨c04, c14, c24, c34, c44, i14, i24, i34, i44⟩ := hb4.get
  have hm4 : MemN _ _ _ _ _ := ⟨rfl, hb4.1⟩
  have hi4 := hb4.2
  clear hb5 c05 c15 c25 c35 c45 i15 i25 i35 i45 hm5 hi5
  have hb5 : Cat.At _ g5 0 d q := ⟨Mem.of_get at5, hin1⟩
  obtain ⟨c05, c15, c25, c35, c45, i15, i25, i35, i45⟩ := hb5.get
  have hm5 : MemN _ _ _ _ _ := ⟨rfl, hb5.1⟩
  have hi5 := hb5.2
  clear i10
  have i10 := v10.inn
  clear i12
  have i12 := v12.inn
  clear i14
  have i14 := Ints.of_get at14
  clear i16
  have i16 := Ints.of_get at16
  have mm1009 : MemN _ _ _ _ _ := ⟨rfl, Mem.of_get at1009⟩
  refine .done ?_
  refine hK2 _ _ ?_
  refine .ret ?_
  refine hret _ _ ?_
  refine ⟨_, _, _, _, rfl, ag_34_E, (by rfl), (Mem.of_get at1009), ?_⟩
  exact ⟨hle, ⟨p10, p12, some ⟨g14, 0, none⟩, some ⟨g16, 0, none⟩⟩, rfl, v10.keep (.of_le (.refl _)) (by omega), v12.keep (.of_le (.refl _)) (by omega), ⟨g14, _, rfl, by omega, at14⟩, ⟨g16, _, rfl, by omega, at16⟩⟩
set_option maxHeartbeats 4000000 in
theorem l06Constant_c {d : Fun} {p : FunP} {y : Nat} {H : GHeap} (hin : d.In H p) (hs : d.Small) (hI : d.Is) (hy : (y : Int) < d.t.obj) :
    GCalls Try.prog 90 [.agg (d.s.cells p.s).toArray, .agg (d.t.cells p.t).toArray, .int .i64 (y : Int)] H (NewFun H (d.con y)) := by
  have h1 := hI.1.1.obj
  have h2 := hI.1.1.n40
  have h3 := hI.2.1.1.il
  have i1 := hin.1
  have i2 := hin.2.1
  have s1 := hs.1
  have s2 := hs.2.1
  refine GCalls.body (N := 43) (rs := [.cell 6 34]) Try.func90 rfl rfl rfl rfl (fun Qx hret hend => ?_)
  refine .forget (fr' := [(0, some _), (1, some _), (2, some _)]) ⟨rfl, rfl, rfl, trivial⟩ ?_
  have hle := GHeap.Le.refl H
  have base_i1 := i1
  have base_i2 := i2
  refine .seq (fun K1 hK1 => ?_)
  refine .region ?_
  refine .r rfl rfl rfl (.boxR rfl sz_32_D rfl) ?_
  rintro _ H3 ⟨g3, rfl, le3, ge3, at3⟩
  have nx_H3 := le3.1
  replace hle := hle.trans le3
  have lt_at3 := GHeap.lt_of_get at3
  replace i1 := base_i1.mono hle
  replace i2 := base_i2.mono hle
  have hb3 : Cat.At _ g3 0 d.s p.s := ⟨Mem.of_get at3, i1⟩
  obtain ⟨c03, c13, c23, c33, c43, i13, i23, i33, i43⟩ := hb3.get
  have hm3 : MemN _ _ _ _ _ := ⟨rfl, hb3.1⟩
  have hi3 := hb3.2
  refine .r rfl rfl rfl (.boxR rfl sz_32_D rfl) ?_
  rintro _ H4 ⟨g4, rfl, le4, ge4, at4⟩
  have nx_H4 := le4.1
  replace hle := hle.trans le4
  replace at3 := le4.2 _ _ at3
  have lt_at4 := GHeap.lt_of_get at4
  replace i1 := base_i1.mono hle
  replace i2 := base_i2.mono hle
  clear hb3 c03 c13 c23 c33 c43 i13 i23 i33 i43 hm3 hi3
  have hb3 : Cat.At _ g3 0 d.s p.s := ⟨Mem.of_get at3, i1⟩
  obtain ⟨c03, c13, c23, c33, c43, i13, i23, i33, i43⟩ := hb3.get
  have hm3 : MemN _ _ _ _ _ := ⟨rfl, hb3.1⟩
  have hi3 := hb3.2
  have hb4 : Cat.At _ g4 0 d.t p.t := ⟨Mem.of_get at4, i2⟩
  obtain ⟨c04, c14, c24, c34, c44, i14, i24, i34, i44⟩ := hb4.get
  have hm4 : MemN _ _ _ _ _ := ⟨rfl, hb4.1⟩
  have hi4 := hb4.2
  refine .r rfl rfl rfl (.allocR rfl ze_34_E rfl) ?_
  rintro _ H6 ⟨g6, rfl, le6, ge6, at6⟩
  have nx_H6 := le6.1
  replace hle := hle.trans le6
  replace at3 := le6.2 _ _ at3
  replace at4 := le6.2 _ _ at4
  have lt_at6 := GHeap.lt_of_get at6
  replace i1 := base_i1.mono hle
  replace i2 := base_i2.mono hle
  clear hb3 c03 c13 c23 c33 c43 i13 i23 i33 i43 hm3 hi3
  have hb3 : Cat.At _ g3 0 d.s p.s := ⟨Mem.of_get at3, i1⟩
  obtain ⟨c03, c13, c23, c33, c43, i13, i23, i33, i43⟩ := hb3.get
  have hm3 : MemN _ _ _ _ _ := ⟨rfl, hb3.1⟩
  have hi3 := hb3.2
  clear hb4 c04 c14 c24 c34 c44 i14 i24 i34 i44 hm4 hi4
  have hb4 : Cat.At _ g4 0 d.t p.t := ⟨Mem.of_get at4, i2⟩
  obtain ⟨c04, c14, c24, c34, c44, i14, i24, i34, i44⟩ := hb4.get
  have hm4 : MemN _ _ _ _ _ := ⟨rfl, hb4.1⟩
  have hi4 := hb4.2
  refine .nil ?_
  refine hK1 _ _ ?_
  refine .seq (fun K2 hK2 => ?_)
  refine .region ?_
  refine .r rfl rfl rfl (.litR rfl sl_22_A ze_2_E rfl rfl (by omega) (by omega) rfl rfl) ?_
  rintro _ H11 ⟨g11, rfl, le11, ge11, at11⟩
  have nx_H11 := le11.1
  replace hle := hle.trans le11
  replace at3 := le11.2 _ _ at3
  replace at4 := le11.2 _ _ at4
  replace at6 := le11.2 _ _ at6
  have lt_at11 := GHeap.lt_of_get at11
  replace i1 := base_i1.mono hle
  replace i2 := base_i2.mono hle
  clear hb3 c03 c13 c23 c33 c43 i13 i23 i33 i43 hm3 hi3
  have hb3 : Cat.At _ g3 0 d.s p.s := ⟨Mem.of_get at3, i1⟩
  obtain ⟨c03, c13, c23, c33, c43, i13, i23, i33, i43⟩ := hb3.get
  have hm3 : MemN _ _ _ _ _ := ⟨rfl, hb3.1⟩
  have hi3 := hb3.2
  clear hb4 c04 c14 c24 c34 c44 i14 i24 i34 i44 hm4 hi4
  have hb4 : Cat.At _ g4 0 d.t p.t := ⟨Mem.of_get at4, i2⟩
  obtain ⟨c04, c14, c24, c34, c44, i14, i24, i34, i44⟩ := hb4.get
  have hm4 : MemN _ _ _ _ _ := ⟨rfl, hb4.1⟩
  have hi4 := hb4.2
  replace at11 : GHeap.get H11 g11 = some (.row (ints []) 2 true) := at11
  refine .r rfl rfl rfl (.litR rfl sl_22_A ze_2_E rfl rfl (by omega) (by omega) rfl rfl) ?_
  rintro _ H12 ⟨g12, rfl, le12, ge12, at12⟩
  have nx_H12 := le12.1
  replace hle := hle.trans le12
  replace at3 := le12.2 _ _ at3
  replace at4 := le12.2 _ _ at4
  replace at6 := le12.2 _ _ at6
  replace at11 := le12.2 _ _ at11
  have lt_at12 := GHeap.lt_of_get at12
  replace i1 := base_i1.mono hle
  replace i2 := base_i2.mono hle
  clear hb3 c03 c13 c23 c33 c43 i13 i23 i33 i43 hm3 hi3
  have hb3 : Cat.At _ g3 0 d.s p.s := ⟨Mem.of_get at3, i1⟩
  obtain ⟨c03, c13, c23, c33, c43, i13, i23, i33, i43⟩ := hb3.get
  have hm3 : MemN _ _ _ _ _ := ⟨rfl, hb3.1⟩
  have hi3 := hb3.2
  clear hb4 c04 c14 c24 c34 c44 i14 i24 i34 i44 hm4 hi4
  have hb4 : Cat.At _ g4 0 d.t p.t := ⟨Mem.of_get at4, i2⟩
  obtain ⟨c04, c14, c24, c34, c44, i14, i24, i34, i44⟩ := hb4.get
  have hm4 : MemN _ _ _ _ _ := ⟨rfl, hb4.1⟩
  have hi4 := hb4.2
  replace at12 : GHeap.get H12 g12 = some (.row (ints []) 2 true) := at12
  refine .m rfl rfl rfl (.assign rfl) (.m rfl rfl rfl (.assign rfl) (.nil ?_))
  refine hK2 _ _ ?_
  refine .seq (fun K3 hK3 => ?_)
  refine .seq (fun K4 hK4 => ?_)
  refine .region (.m rfl rfl rfl (.assign rfl) (.nil ?_))
  refine hK4 _ _ ?_
  refine .block ?_
  refine .loopR (σ := Nat × Nat × Nat) [(2, some _), (3, some _), (4, some _), (6, some _), (8, some _)] (fun (x, gL7, nL7) => [(9, some (.int .i64 (x : Int))), (7, some (.slice (some ⟨gL7, 0, none⟩) nL7 nL7))]) (fun (x, gL7, nL7) H' => St [g11] H12 H' ∧ H'.get gL7 = some (.row (ints (List.replicate x (y : Int))) 2 true) ∧ (gL7 = g11 ∨ H12.next ≤ gL7) ∧ nL7 = (List.replicate x (y : Int)).length ∧ x ≤ d.s.obj.toNat) (fun (x, gL7, nL7) => d.s.obj.toNat - x) ((0, _, _)) ⟨rfl, rfl, rfl, rfl, rfl, trivial⟩ ⟨rfl, rfl, trivial⟩ ?_ ?_
  ·
   refine ⟨.refl _ _, by first | assumption | exact at11 | simpa using at11, .inl rfl, by first | rfl | assumption | simp | omega, ?_⟩
   omega
  rintro ⟨x, gL7, nL7⟩ HL1 ⟨lst1, at_L7, pl_L7, ln_L7, hI⟩ KL1 hKL1
  refine .forget (fr' := [(9, some (.int .i64 (x : Int))), (7, some (.slice (some ⟨gL7, 0, none⟩) nL7 nL7)), (2, some _), (3, some _), (4, some _), (6, some _), (8, some _)]) ⟨rfl, rfl, rfl, rfl, rfl, rfl, rfl, trivial⟩ ?_
  have ge_L7 : H.next ≤ gL7 := by omega
  have nx_HL1 := lst1.nx
  replace hle := hle.st lst1 (fun k hk => ⟨by omega, trivial⟩)
  replace at3 := lst1.same _ _ ⟨by omega, trivial⟩ at3
  replace at4 := lst1.same _ _ ⟨by omega, trivial⟩ at4
  replace at6 := lst1.same _ _ ⟨by omega, trivial⟩ at6
  replace at12 := lst1.same _ _ ⟨by omega, trivial⟩ at12
  have lt_at_L7 := GHeap.lt_of_get at_L7
  replace i1 := base_i1.mono hle
  replace i2 := base_i2.mono hle
  clear hb3 c03 c13 c23 c33 c43 i13 i23 i33 i43 hm3 hi3
  have hb3 : Cat.At _ g3 0 d.s p.s := ⟨Mem.of_get at3, i1⟩
  obtain ⟨c03, c13, c23, c33, c43, i13, i23, i33, i43⟩ := hb3.get
  have hm3 : MemN _ _ _ _ _ := ⟨rfl, hb3.1⟩
  have hi3 := hb3.2
  clear hb4 c04 c14 c24 c34 c44 i14 i24 i34 i44 hm4 hi4
  have hb4 : Cat.At _ g4 0 d.t p.t := ⟨Mem.of_get at4, i2⟩
  obtain ⟨c04, c14, c24, c34, c44, i14, i24, i34, i44⟩ := hb4.get
  have hm4 : MemN _ _ _ _ _ := ⟨rfl, hb4.1⟩
  have hi4 := hb4.2
  have hrl : (List.replicate x (y : Int)).length = x := List.length_replicate
  refine .seq (fun K5 hK5 => ?_)
  refine .seq (fun K6 hK6 => ?_)
  refine .region (.m rfl rfl rfl (.move rfl) (.m rfl rfl rfl (.fieldAddr fo_32_0_B rfl) ?_))
  refine .m rfl rfl rfl (.load on_2_A rfl (by first | assumption | exact Mem.of_get at3 0 _ rfl)) ?_
  refine .m rfl rfl rfl (.cmp rfl rfl rfl) (.nil ?_)
  refine hK6 _ _ ?_
  refine .cond rfl (fun h16 => ?_) (fun h16 => ?_)
  ·
   simp only [sps] at h16
   refine .skip ?_
   refine hK5 _ _ ?_
   refine .seq (fun K7 hK7 => ?_)
   refine .block ?_
   refine .region (.m rfl rfl rfl (.move rfl) (.m rfl rfl rfl (.move rfl) ?_))
   refine .r rfl rfl rfl (.litR rfl sl_22_A ze_2_E rfl rfl (by omega) (by omega) rfl rfl) ?_
   rintro _ H21 ⟨g21, rfl, le21, ge21, at21⟩
   have nx_H21 := le21.1
   replace hle := hle.trans le21
   replace lst1 := lst1.le le21
   replace at3 := le21.2 _ _ at3
   replace at4 := le21.2 _ _ at4
   replace at6 := le21.2 _ _ at6
   replace at12 := le21.2 _ _ at12
   replace at_L7 := le21.2 _ _ at_L7
   have lt_at21 := GHeap.lt_of_get at21
   replace i1 := base_i1.mono hle
   replace i2 := base_i2.mono hle
   clear hb3 c03 c13 c23 c33 c43 i13 i23 i33 i43 hm3 hi3
   have hb3 : Cat.At _ g3 0 d.s p.s := ⟨Mem.of_get at3, i1⟩
   obtain ⟨c03, c13, c23, c33, c43, i13, i23, i33, i43⟩ := hb3.get
   have hm3 : MemN _ _ _ _ _ := ⟨rfl, hb3.1⟩
   have hi3 := hb3.2
   clear hb4 c04 c14 c24 c34 c44 i14 i24 i34 i44 hm4 hi4
   have hb4 : Cat.At _ g4 0 d.t p.t := ⟨Mem.of_get at4, i2⟩
   obtain ⟨c04, c14, c24, c34, c44, i14, i24, i34, i44⟩ := hb4.get
   have hm4 : MemN _ _ _ _ _ := ⟨rfl, hb4.1⟩
   have hi4 := hb4.2
   refine .r rfl rfl rfl (.appendI rfl sl_22_A ze_2_E rfl by_2_E sl_22_A rfl rfl (by assumption) (by assumption) (by first | omega | (simp <;> omega)) (by omega) (by omega)) ?_
   rintro _ H22 ⟨g22, rfl, st22, ge22, at22⟩
   have nx_H22 := st22.nx
   replace hle := hle.st st22 (fun k hk => ⟨by omega, trivial⟩)
   replace lst1 := lst1.st st22 (fun k hk ho => by simp only [out, and_true] at ho ⊢ <;> omega)
   replace at3 := st22.same _ _ ⟨by omega, trivial⟩ at3
   replace at4 := st22.same _ _ ⟨by omega, trivial⟩ at4
   replace at6 := st22.same _ _ ⟨by omega, trivial⟩ at6
   replace at12 := st22.same _ _ ⟨by omega, trivial⟩ at12
   replace at21 := st22.same _ _ ⟨by omega, trivial⟩ at21
   have lt_at22 := GHeap.lt_of_get at22
   replace i1 := base_i1.mono hle
   replace i2 := base_i2.mono hle
   clear hb3 c03 c13 c23 c33 c43 i13 i23 i33 i43 hm3 hi3
   have hb3 : Cat.At _ g3 0 d.s p.s := ⟨Mem.of_get at3, i1⟩
   obtain ⟨c03, c13, c23, c33, c43, i13, i23, i33, i43⟩ := hb3.get
   have hm3 : MemN _ _ _ _ _ := ⟨rfl, hb3.1⟩
   have hi3 := hb3.2
   clear hb4 c04 c14 c24 c34 c44 i14 i24 i34 i44 hm4 hi4
   have hb4 : Cat.At _ g4 0 d.t p.t := ⟨Mem.of_get at4, i2⟩
   obtain ⟨c04, c14, c24, c34, c44, i14, i24, i34, i44⟩ := hb4.get
   have hm4 : MemN _ _ _ _ _ := ⟨rfl, hb4.1⟩
   have hi4 := hb4.2
   refine .m rfl rfl rfl (.assign rfl) (.nil ?_)
   refine hK7 _ _ ?_
   refine .region (.m rfl rfl rfl (.move rfl) ?_)
   refine .m rfl rfl rfl (.add rfl rfl rfl (by omega) (by omega)) ?_
   refine .m rfl rfl rfl (.assign rfl) (.nil ?_)
   refine hKL1 ((x + 1, _, _)) _ _ ?_ ?_ ⟨rfl, rfl, rfl, rfl, rfl, rfl, rfl, trivial⟩
   ·
    refine ⟨lst1, by first | assumption | (rw [List.replicate_succ']; assumption), by omega, by first | omega | (simp only [List.length_append, List.length_cons, List.length_nil] <;> omega) | (rw [List.replicate_succ'] <;> (first | omega | (simp only [List.length_append, List.length_cons, List.length_nil] <;> omega))), ?_⟩
    omega
   (dsimp only; omega)
  simp only [sps] at h16
  refine .exit ?_
  refine hK3 _ _ ?_
  refine .seq (fun K8 hK8 => ?_)
  refine .seq (fun K9 hK9 => ?_)
  refine .region (.m rfl rfl rfl (.assign rfl) (.nil ?_))
  refine hK9 _ _ ?_
  refine .block ?_
  refine .loopR (σ := Nat × Nat × Nat) [(2, some _), (3, some _), (4, some _), (6, some _), (7, some _)] (fun (a, gL8, nL8) => [(10, some (.int .i64 (a : Int))), (8, some (.slice (some ⟨gL8, 0, none⟩) nL8 nL8))]) (fun (a, gL8, nL8) H' => St [g12] HL1 H' ∧ H'.get gL8 = some (.row (ints (List.replicate a (d.t.idn.getD y 0))) 2 true) ∧ (gL8 = g12 ∨ HL1.next ≤ gL8) ∧ nL8 = (List.replicate a (d.t.idn.getD y 0)).length ∧ a ≤ d.s.src.length) (fun (a, gL8, nL8) => d.s.src.length - a) ((0, _, _)) ⟨rfl, rfl, rfl, rfl, rfl, trivial⟩ ⟨rfl, rfl, trivial⟩ ?_ ?_
  ·
   refine ⟨.refl _ _, by first | assumption | exact at12 | simpa using at12, .inl rfl, by first | rfl | assumption | simp | omega, ?_⟩
   omega
  rintro ⟨a, gL8, nL8⟩ HL2 ⟨lst2, at_L8, pl_L8, ln_L8, hI⟩ KL2 hKL2
  refine .forget (fr' := [(10, some (.int .i64 (a : Int))), (8, some (.slice (some ⟨gL8, 0, none⟩) nL8 nL8)), (2, some _), (3, some _), (4, some _), (6, some _), (7, some _)]) ⟨rfl, rfl, rfl, rfl, rfl, rfl, rfl, trivial⟩ ?_
  have ge_L8 : H.next ≤ gL8 := by omega
  have nx_HL2 := lst2.nx
  replace hle := hle.st lst2 (fun k hk => ⟨by omega, trivial⟩)
  replace at3 := lst2.same _ _ ⟨by omega, trivial⟩ at3
  replace at4 := lst2.same _ _ ⟨by omega, trivial⟩ at4
  replace at6 := lst2.same _ _ ⟨by omega, trivial⟩ at6
  replace at_L7 := lst2.same _ _ ⟨by omega, trivial⟩ at_L7
  have lt_at_L8 := GHeap.lt_of_get at_L8
  replace i1 := base_i1.mono hle
  replace i2 := base_i2.mono hle
  clear hb3 c03 c13 c23 c33 c43 i13 i23 i33 i43 hm3 hi3
  have hb3 : Cat.At _ g3 0 d.s p.s := ⟨Mem.of_get at3, i1⟩
  obtain ⟨c03, c13, c23, c33, c43, i13, i23, i33, i43⟩ := hb3.get
  have hm3 : MemN _ _ _ _ _ := ⟨rfl, hb3.1⟩
  have hi3 := hb3.2
  clear hb4 c04 c14 c24 c34 c44 i14 i24 i34 i44 hm4 hi4
  have hb4 : Cat.At _ g4 0 d.t p.t := ⟨Mem.of_get at4, i2⟩
  obtain ⟨c04, c14, c24, c34, c44, i14, i24, i34, i44⟩ := hb4.get
  have hm4 : MemN _ _ _ _ _ := ⟨rfl, hb4.1⟩
  have hi4 := hb4.2
  have hrl2 : (List.replicate a (d.t.idn.getD y 0)).length = a := List.length_replicate
  refine .seq (fun K10 hK10 => ?_)
  refine .seq (fun K11 hK11 => ?_)
  refine .region (.m rfl rfl rfl (.move rfl) (.m rfl rfl rfl (.fieldAddr fo_32_1_B rfl) ?_))
  refine .m rfl rfl rfl (.load on_22_B rfl (by first | assumption | exact Mem.of_get at3 1 _ rfl)) ?_
  refine .m rfl rfl rfl (.len sl_22_A rfl) (.m rfl rfl rfl (.cmp rfl rfl rfl) (.nil ?_))
  refine hK11 _ _ ?_
  refine .cond rfl (fun h27 => ?_) (fun h27 => ?_)
  ·
   simp only [sps] at h27
   refine .skip ?_
   refine hK10 _ _ ?_
   refine .seq (fun K12 hK12 => ?_)
   refine .block ?_
   refine .region (.m rfl rfl rfl (.move rfl) (.m rfl rfl rfl (.fieldAddr fo_32_3_B rfl) ?_))
   refine .m rfl rfl rfl (.load on_22_B rfl (by first | assumption | exact Mem.of_get at4 3 _ rfl)) ?_
   refine .m rfl rfl rfl (.move rfl) ?_
   refine .m rfl rfl rfl (.idxN sl_22_A (by assumption) rfl rfl (by omega)) ?_
   refine .m rfl rfl rfl (.loadI on_2_A (by assumption) rfl (by omega)) ?_
   refine .r rfl rfl rfl (.litR rfl sl_22_A ze_2_E rfl rfl (by omega) (by omega) rfl rfl) ?_
   rintro _ H36 ⟨g36, rfl, le36, ge36, at36⟩
   have nx_H36 := le36.1
   replace hle := hle.trans le36
   replace lst2 := lst2.le le36
   replace at3 := le36.2 _ _ at3
   replace at4 := le36.2 _ _ at4
   replace at6 := le36.2 _ _ at6
   replace at_L7 := le36.2 _ _ at_L7
   replace at_L8 := le36.2 _ _ at_L8
   have lt_at36 := GHeap.lt_of_get at36
   replace i1 := base_i1.mono hle
   replace i2 := base_i2.mono hle
   clear hb3 c03 c13 c23 c33 c43 i13 i23 i33 i43 hm3 hi3
   have hb3 : Cat.At _ g3 0 d.s p.s := ⟨Mem.of_get at3, i1⟩
   obtain ⟨c03, c13, c23, c33, c43, i13, i23, i33, i43⟩ := hb3.get
   have hm3 : MemN _ _ _ _ _ := ⟨rfl, hb3.1⟩
   have hi3 := hb3.2
   clear hb4 c04 c14 c24 c34 c44 i14 i24 i34 i44 hm4 hi4
   have hb4 : Cat.At _ g4 0 d.t p.t := ⟨Mem.of_get at4, i2⟩
   obtain ⟨c04, c14, c24, c34, c44, i14, i24, i34, i44⟩ := hb4.get
   have hm4 : MemN _ _ _ _ _ := ⟨rfl, hb4.1⟩
   have hi4 := hb4.2
   refine .r rfl rfl rfl (.appendI rfl sl_22_A ze_2_E rfl by_2_E sl_22_A rfl rfl (by assumption) (by assumption) (by first | omega | (simp <;> omega)) (by omega) (by omega)) ?_
   rintro _ H37 ⟨g37, rfl, st37, ge37, at37⟩
   have nx_H37 := st37.nx
   replace hle := hle.st st37 (fun k hk => ⟨by omega, trivial⟩)
   replace lst2 := lst2.st st37 (fun k hk ho => by simp only [out, and_true] at ho ⊢ <;> omega)
   replace at3 := st37.same _ _ ⟨by omega, trivial⟩ at3
   replace at4 := st37.same _ _ ⟨by omega, trivial⟩ at4
   replace at6 := st37.same _ _ ⟨by omega, trivial⟩ at6
   replace at_L7 := st37.same _ _ ⟨by omega, trivial⟩ at_L7
   replace at36 := st37.same _ _ ⟨by omega, trivial⟩ at36
   have lt_at37 := GHeap.lt_of_get at37
   replace i1 := base_i1.mono hle
   replace i2 := base_i2.mono hle
   clear hb3 c03 c13 c23 c33 c43 i13 i23 i33 i43 hm3 hi3
   have hb3 : Cat.At _ g3 0 d.s p.s := ⟨Mem.of_get at3, i1⟩
   obtain ⟨c03, c13, c23, c33, c43, i13, i23, i33, i43⟩ := hb3.get
   have hm3 : MemN _ _ _ _ _ := ⟨rfl, hb3.1⟩
   have hi3 := hb3.2
   clear hb4 c04 c14 c24 c34 c44 i14 i24 i34 i44 hm4 hi4
   have hb4 : Cat.At _ g4 0 d.t p.t := ⟨Mem.of_get at4, i2⟩
   obtain ⟨c04, c14, c24, c34, c44, i14, i24, i34, i44⟩ := hb4.get
   have hm4 : MemN _ _ _ _ _ := ⟨rfl, hb4.1⟩
   have hi4 := hb4.2
   refine .m rfl rfl rfl (.assign rfl) (.nil ?_)
   refine hK12 _ _ ?_
   refine .region (.m rfl rfl rfl (.move rfl) ?_)
   refine .m rfl rfl rfl (.add rfl rfl rfl (by omega) (by omega)) ?_
   refine .m rfl rfl rfl (.assign rfl) (.nil ?_)
   refine hKL2 ((a + 1, _, _)) _ _ ?_ ?_ ⟨rfl, rfl, rfl, rfl, rfl, rfl, rfl, trivial⟩
   ·
    refine ⟨lst2, by first | assumption | (rw [List.replicate_succ']; assumption), by omega, by first | omega | (simp only [List.length_append, List.length_cons, List.length_nil] <;> omega) | (rw [List.replicate_succ'] <;> (first | omega | (simp only [List.length_append, List.length_cons, List.length_nil] <;> omega))), ?_⟩
    omega
   (dsimp only; omega)
  simp only [sps] at h27
  refine .exit ?_
  refine hK8 _ _ ?_
  refine .seq (fun K13 hK13 => ?_)
  refine .region ?_
  obtain rfl : x = d.s.obj.toNat := by omega
  obtain rfl : a = d.s.src.length := by omega
  obtain rfl := ln_L7
  obtain rfl := ln_L8
  refine .m rfl rfl rfl (.loadM ag_32_D rfl ⟨rfl, Mem.of_get at3⟩) ?_
  refine .m rfl rfl rfl (.loadM ag_32_D rfl ⟨rfl, Mem.of_get at4⟩) ?_
  refine .m rfl rfl rfl (.move rfl) (.m rfl rfl rfl (.move rfl) ?_)
  refine .call rfl rfl rfl rfl @Try.call100 rfl (l06Make_c i1 i2 (Ints.of_get at_L7) (Ints.of_get at_L8) s1 s2 (by simp; omega) (by simp; omega)) ?_
  rintro _ H42 ⟨le42, p42, rfl, v42⟩
  have nx_H42 := le42.1
  replace hle := hle.trans le42
  replace at3 := le42.2 _ _ at3
  replace at4 := le42.2 _ _ at4
  replace at6 := le42.2 _ _ at6
  replace at_L7 := le42.2 _ _ at_L7
  replace at_L8 := le42.2 _ _ at_L8
  have bs_v42 := v42
  have lv_v42 : Keep HL2.next H42 H42 := fun _ _ _ h => h
  replace i1 := base_i1.mono hle
  replace i2 := base_i2.mono hle
  clear hb3 c03 c13 c23 c33 c43 i13 i23 i33 i43 hm3 hi3
  have hb3 : Cat.At _ g3 0 d.s p.s := ⟨Mem.of_get at3, i1⟩
  obtain ⟨c03, c13, c23, c33, c43, i13, i23, i33, i43⟩ := hb3.get
  have hm3 : MemN _ _ _ _ _ := ⟨rfl, hb3.1⟩
  have hi3 := hb3.2
  clear hb4 c04 c14 c24 c34 c44 i14 i24 i34 i44 hm4 hi4
  have hb4 : Cat.At _ g4 0 d.t p.t := ⟨Mem.of_get at4, i2⟩
  obtain ⟨c04, c14, c24, c34, c44, i14, i24, i34, i44⟩ := hb4.get
  have hm4 : MemN _ _ _ _ _ := ⟨rfl, hb4.1⟩
  have hi4 := hb4.2
  have i42 := v42.inn
  refine .r0 rfl rfl (.fillR rfl sz_34_E rfl rfl rfl rfl (by assumption) (by first | rfl | exact Nat.le_of_ble_eq_true rfl | simp)) ?_
  rintro _ H10005 ⟨rfl, st10005, at10005⟩
  have nx_H10005 := st10005.nx
  replace hle := hle.st st10005 (fun k hk => ⟨by omega, trivial⟩)
  replace at3 := st10005.same _ _ ⟨by omega, trivial⟩ at3
  replace at4 := st10005.same _ _ ⟨by omega, trivial⟩ at4
  replace at_L7 := st10005.same _ _ ⟨by omega, trivial⟩ at_L7
  replace at_L8 := st10005.same _ _ ⟨by omega, trivial⟩ at_L8
  replace lv_v42 := Keep.st lv_v42 st10005 (fun k hb hk => ⟨by omega, trivial⟩)
  replace v42 := bs_v42.keep lv_v42 (Nat.le_refl _)
  have lt_at10005 := GHeap.lt_of_get at10005
  replace i1 := base_i1.mono hle
  replace i2 := base_i2.mono hle
  clear hb3 c03 c13 c23 c33 c43 i13 i23 i33 i43 hm3 hi3
  have hb3 : Cat.At _ g3 0 d.s p.s := ⟨Mem.of_get at3, i1⟩
  obtain ⟨c03, c13, c23, c33, c43, i13, i23, i33, i43⟩ := hb3.get
  have hm3 : MemN _ _ _ _ _ := ⟨rfl, hb3.1⟩
  have hi3 := hb3.2
  clear hb4 c04 c14 c24 c34 c44 i14 i24 i34 i44 hm4 hi4
  have hb4 : Cat.At _ g4 0 d.t p.t := ⟨Mem.of_get at4, i2⟩
  obtain ⟨c04, c14, c24, c34, c44, i14, i24, i34, i44⟩ := hb4.get
  have hm4 : MemN _ _ _ _ _ := ⟨rfl, hb4.1⟩
  have hi4 := hb4.2
  clear i42
  have i42 := v42.inn
  have mm10005 : MemN _ _ _ _ _ := ⟨rfl, Mem.of_get at10005⟩
  refine .nil ?_
  refine hK13 _ _ ?_
  refine .ret ?_
  refine hret _ _ ?_
  refine ⟨_, _, _, _, rfl, ag_34_E, (by rfl), (Mem.of_get at10005), ?_⟩
  exact ⟨hle, p42, rfl, v42.keep (.of_le (.refl _)) (by omega)⟩
end Go.Proofs.Ytpmjlhbglcaokaa
/- Cones are transformations from constant functors. No condition. -/
namespace Go.GL
theorem Fun.con_is {d : Fun} {y : Nat} (h : d.Is) (hy : (y : Int) < d.t.obj) : (d.con y).Is := by
  have hs := h.1.1
  have ht := h.2.1.1
  have b1 := hs.obj
  have b2 := ht.il
  have b3 := hs.il
  have hid := ht.idn y (by omega)
  have hids := ht.ids y (by omega)
  have hlaw := (h.2.1.2.ids (d.t.idn.getD y 0).toNat (by omega)).1
  have e0 : ((d.t.idn.getD y 0).toNat : Int) = d.t.idn.getD y 0 := by omega
  rw [hids.1, e0, Int.toNat_natCast] at hlaw
  have hob : ∀ i, i < d.s.obj.toNat → (d.con y).ob.getD i 0 = (y : Int) := fun i hi => repl_getD hi
  have har : ∀ i, i < d.s.src.length → (d.con y).ar.getD i 0 = d.t.idn.getD y 0 := fun i hi => by
    show (List.replicate d.s.src.length (d.t.idn.getD ((y : Int)).toNat 0)).getD i 0 = _
    rw [repl_getD hi, Int.toNat_natCast]
  refine ⟨h.1, h.2.1, ?_, ?_, ?_, ?_, ?_, ?_, ?_⟩
  · show ((List.replicate d.s.obj.toNat (y : Int)).length : Int) = d.s.obj
    rw [List.length_replicate]; omega
  · exact List.length_replicate
  · intro i hi
    have hi' : i < d.s.obj.toNat := by have : i < (List.replicate d.s.obj.toNat (y : Int)).length := hi; rwa [List.length_replicate] at this
    rw [hob i hi']
    exact ⟨by omega, hy⟩
  · intro i hi
    have hi' : i < d.s.src.length := by have : i < (List.replicate d.s.src.length (d.t.idn.getD ((y : Int)).toNat 0)).length := hi; rwa [List.length_replicate] at this
    rw [har i hi']
    exact ⟨hid.1, hid.2⟩
  · intro a ha
    have ha' : a < d.s.src.length := by have : a < (List.replicate d.s.src.length (d.t.idn.getD ((y : Int)).toNat 0)).length := ha; rwa [List.length_replicate] at this
    have q1 := hs.src a ha'
    have q2 := hs.tgt a (by have := hs.tl; omega)
    rw [har a ha']
    refine ⟨?_, ?_⟩
    · rw [show (d.con y).ob.getD ((d.con y).s.src.getD a 0).toNat 0 = (y : Int) from hob _ (by show (d.s.src.getD a 0).toNat < _; omega)]
      exact hids.1
    · rw [show (d.con y).ob.getD ((d.con y).s.tgt.getD a 0).toNat 0 = (y : Int) from hob _ (by show (d.s.tgt.getD a 0).toNat < _; omega)]
      exact hids.2
  · intro x hx
    have hx' : x < d.s.idn.length := hx
    have q1 := hs.idn x hx'
    rw [har _ (by show (d.s.idn.getD x 0).toNat < _; omega), hob x (by omega), Int.toNat_natCast]
    rfl
  · intro a ha b hb hab
    have ha' : a < d.s.src.length := ha
    have hb' : b < d.s.src.length := hb
    have q1 := (hs.th_ge ha' hb').2 hab
    have q2 := (hs.th_lt ha' hb').1
    show (d.con y).ar.getD (d.s.th a b).toNat 0 = d.t.th ((d.con y).ar.getD a 0) ((d.con y).ar.getD b 0)
    rw [har _ (by omega), har a ha', har b hb', hlaw]
theorem Fun.con_par {d : Fun} {y : Nat} (h : d.Is) (hy : (y : Int) < d.t.obj) : (d.con y).Par d := ⟨Fun.con_is h hy, h, rfl, rfl⟩
theorem searchL_congrN {c c' : Nat → List Int} {k k' : Nat → List Int → Bool} {N : Nat} (hc : ∀ j, j < N → c j = c' j) : ∀ {r : Nat} {p : List Int}, p.length + r = N → (∀ i, i < p.length → p.getD i 0 ∈ c i) → (∀ p h, p.length < N → (∀ i, i < p.length → p.getD i 0 ∈ c i) → h ∈ c p.length → k p.length (p ++ [h]) = k' p.length (p ++ [h])) → searchL c k r p = searchL c' k' r p
  | 0, _, _, _, _ => rfl
  | r + 1, p, hN, hp, hk => by
    unfold searchL
    rw [← hc p.length (by omega)]
    refine flatMap_congr' fun h hh => ?_
    rw [hk p h (by omega) hp hh]
    congr 1
    refine searchL_congrN hc (r := r) (by rw [List.length_append, List.length_singleton]; omega) (fun i hi => ?_) hk
    rw [List.length_append, List.length_singleton] at hi
    rw [getD_snoc]
    by_cases e : i < p.length
    · rw [if_pos e]; exact hp i e
    · obtain rfl : i = p.length := by omega
      rw [if_neg e, if_pos rfl]; exact hh
theorem Fun.con_cand {d : Fun} {y j : Nat} (h : d.Is) (hj : j < d.ob.length) : ((d.con y).net d false).cand j = (d.cnet y).cand j := by
  have b1 := h.2.2.ol
  show List.filter _ (d.t.hom ((List.replicate d.s.obj.toNat (y : Int)).getD j 0) (d.ob.getD j 0)) = d.t.hom y (d.ob.getD j 0)
  rw [repl_getD (by omega)]
  exact List.filter_eq_self.2 fun _ _ => rfl
theorem Fun.con_sols {d : Fun} {y : Nat} (h : d.Is) (hy : (y : Int) < d.t.obj) : ((d.con y).net d false).sols (d.con y).ob.length = (d.cnet y).sols d.ob.length := by
  have b1 := h.2.2.ol
  have b2 := h.2.2.al
  have hs := h.1.1
  have ht := h.2.1.1
  have b3 := hs.obj
  have b4 := ht.il
  have hid := ht.idn y (by omega)
  have hids := ht.ids y (by omega)
  have hl : (d.con y).ob.length = d.ob.length := by
    show (List.replicate d.s.obj.toNat (y : Int)).length = _
    rw [List.length_replicate]; omega
  rw [hl]
  unfold Net.sols
  refine searchL_congrN (N := d.ob.length) (fun j hj => Fun.con_cand h hj) (by simp) (fun i hi => by simp at hi) fun p v hpN hp hv => ?_
  have hq : ∀ i, i ≤ p.length → (p ++ [v]).getD i 0 ∈ ((d.con y).net d false).cand i := fun i hi => by
    rw [getD_snoc]
    by_cases e : i < p.length
    · rw [if_pos e]; exact hp i e
    · obtain rfl : i = p.length := by omega
      rw [if_neg e, if_pos rfl]; exact hv
  have hA : (d.con y).ar.length = d.ar.length := by
    show (List.replicate d.s.src.length (d.t.idn.getD ((y : Int)).toNat 0)).length = _
    rw [List.length_replicate]; omega
  rw [Bool.eq_iff_iff, Net.ok_iff, Net.ok_iff]
  have key : ∀ a, a < d.ar.length → max (d.s.src.getD a 0).toNat (d.s.tgt.getD a 0).toNat = p.length → (((d.con y).net d false).sq a ((p ++ [v]).getD (d.s.src.getD a 0).toNat 0) ((p ++ [v]).getD (d.s.tgt.getD a 0).toNat 0) = true ↔ (d.cnet y).sq a ((p ++ [v]).getD (d.s.src.getD a 0).toNat 0) ((p ++ [v]).getD (d.s.tgt.getD a 0).toNat 0) = true) := by
    intro a ha hm
    have hv1 := hq (d.s.tgt.getD a 0).toNat (by omega)
    have q2 := hs.tgt a (by have := hs.tl; omega)
    rw [Fun.con_cand h (by omega)] at hv1
    obtain ⟨z, z1, z2, z3, z4⟩ := Cat.mem_hom.1 hv1
    have hlaw := (h.2.1.2.ids z z1).1
    rw [z2, Int.toNat_natCast] at hlaw
    show decide (d.t.th ((List.replicate d.s.src.length (d.t.idn.getD ((y : Int)).toNat 0)).getD a 0) _ = d.t.th _ (d.ar.getD a 0)) = true ↔ decide (d.t.th _ (d.ar.getD a 0) = _) = true
    rw [repl_getD (by omega), Int.toNat_natCast, z4, hlaw, decide_eq_true_eq, decide_eq_true_eq]
    exact eq_comm
  refine ⟨fun hh a ha hm => ?_, fun hh a ha hm => ?_⟩
  · have ha' : a < d.ar.length := ha
    exact (key a ha' hm).1 (hh a (by show a < (d.con y).ar.length; omega) hm)
  · have ha' : a < d.ar.length := by have : a < (d.con y).ar.length := ha; omega
    exact (key a ha' hm).2 (hh a ha' hm)
def Fun.coneF (d : Fun) (x n : Nat) : List (List Int) := ((d.cnet (x : Int)).sols d.ob.length).take (401 - n)
def Fun.coneI (d : Fun) (x n i : Nat) : List Con := d.coneL x ++ ((d.coneF x n).take i).map fun l => (⟨(x : Int), l⟩ : Con)
theorem Fun.coneI_zero (d : Fun) (x n : Nat) : d.coneI x n 0 = d.coneL x := by simp [coneI]
theorem Fun.coneI_succ {d : Fun} {x n i : Nat} (h : i < (d.coneF x n).length) : d.coneI x n (i + 1) = d.coneI x n i ++ [⟨(x : Int), (d.coneF x n).getD i []⟩] := by
  unfold coneI
  rw [take_map_snoc (d := []) h, List.append_assoc]
theorem Fun.coneI_all {d : Fun} {x n : Nat} (hn : (d.coneL x).length = n) (h : n ≤ 400) : d.coneI x n (d.coneF x n).length = (d.coneL (x + 1)).take 401 := by
  unfold coneI coneF
  rw [List.take_length, Fun.coneL_succ, List.take_append, List.take_of_length_le (l := d.coneL x) (by omega), hn, List.map_take]
theorem Fun.coneI_len {d : Fun} {x n i : Nat} (hn : (d.coneL x).length = n) (h : n ≤ 400) : (d.coneI x n i).length ≤ 401 := by
  unfold coneI coneF
  rw [List.length_append, List.length_map, List.length_take, List.length_take]
  omega
/-- Rows of their own, none of them in block gL. -/
structure RowsN (b : Nat) (H : GHeap) (r : Nat → Option Addr) (cs : List Con) (gL : Nat) : Prop where
  row : ∀ i, i < cs.length → ∃ g e, r i = some ⟨g, 0, none⟩ ∧ b ≤ g ∧ g ≠ gL ∧ H.get g = some (.row (ints (cs.getD i .z).lg) e true)
theorem RowsN.nil (b : Nat) (H : GHeap) (r : Nat → Option Addr) (gL : Nat) : RowsN b H r [] gL := ⟨fun i hi => by simp at hi⟩
theorem RowsN.mono {b gL : Nat} {H H' : GHeap} {r : Nat → Option Addr} {cs : List Con} (h : RowsN b H r cs gL) (s : H.Le H') : RowsN b H' r cs gL := ⟨fun i hi => by
  obtain ⟨g, e, h1, h2, h3, h4⟩ := h.row i hi
  exact ⟨g, e, h1, h2, h3, s.2 _ _ h4⟩⟩
theorem RowsN.turn {b gL gN : Nat} {H H' : GHeap} {r : Nat → Option Addr} {cs : List Con} (h : RowsN b H r cs gL) (s : St [gL] H H') (hn : H.next ≤ gN) : RowsN b H' r cs gN := ⟨fun i hi => by
  obtain ⟨g, e, h1, h2, h3, h4⟩ := h.row i hi
  exact ⟨g, e, h1, h2, by have := GHeap.lt_of_get h4; omega, s.same _ _ ⟨h3, trivial⟩ h4⟩⟩
theorem RowsN.snoc {b gL : Nat} {H : GHeap} {r : Nat → Option Addr} {cs : List Con} {c : Con} {a : Option Addr} (h : RowsN b H r cs gL) (ha : ∃ g e, a = some ⟨g, 0, none⟩ ∧ b ≤ g ∧ g ≠ gL ∧ H.get g = some (.row (ints c.lg) e true)) : RowsN b H (upd r cs.length a) (cs ++ [c]) gL := ⟨fun i hi => by
  rw [List.length_append, List.length_singleton] at hi
  rw [getD_snoc]
  by_cases e : i < cs.length
  · rw [if_pos e, upd_ne (by omega)]; exact h.row i e
  · obtain rfl : i = cs.length := by omega
    rw [if_neg e, if_pos rfl, upd_eq]; exact ha⟩
theorem IntssR.rowAt {b : Nat} {H : GHeap} {a : Option Addr} {xss : List (List Int)} {r : Nat → Option Addr} (h : IntssR b H a xss r) {i : Nat} (hi : i < xss.length) : ∃ g e, r i = some ⟨g, 0, none⟩ ∧ b ≤ g ∧ H.get g = some (.row (ints (xss.getD i [])) e true) := by
  rcases h.1 with ⟨rfl, _⟩ | ⟨g, e, cs, _, _, _, _, _, h6⟩
  · simp at hi
  · exact h6 i hi
/-- A list of cones that lies in rows from b on. -/
def ConsIn (T : TypeId) (b : Nat) (H : GHeap) (g : Nat) (r : Nat → Option Addr) (cs : List Con) : Prop := b ≤ g ∧ H.get g = some (.row (conV r cs) T true) ∧ ∀ i, i < cs.length → IntsAt b H (r i) (cs.getD i .z).lg
theorem ConsIn.keep {T : TypeId} {b b' g : Nat} {H H' : GHeap} {r : Nat → Option Addr} {cs : List Con} (h : ConsIn T b H g r cs) (k : Keep b' H H') (hb : b' ≤ b) : ConsIn T b' H' g r cs := ⟨by have := h.1; omega, k g _ (by have := h.1; omega) h.2.1, fun i hi => (h.2.2 i hi).keep k hb⟩
theorem Fun.coneL_more {d : Fun} {x : Nat} : ∀ {n}, x ≤ n → ∃ t, d.coneL n = d.coneL x ++ t := by
  intro n h
  obtain ⟨k, rfl⟩ := Nat.le.dest h
  clear h
  induction k with
  | zero => exact ⟨[], by simp⟩
  | succ k ih =>
    obtain ⟨t, ht⟩ := ih
    exact ⟨t ++ _, by rw [← Nat.add_assoc, Fun.coneL_succ, ht, List.append_assoc]⟩
theorem Fun.coneL_cut {d : Fun} {x n : Nat} (h : x ≤ n) (hb : 400 < ((d.coneL x).take 401).length) : (d.coneL n).take 401 = (d.coneL x).take 401 := by
  obtain ⟨t, ht⟩ := Fun.coneL_more (d := d) h
  rw [List.length_take] at hb
  rw [ht, List.take_append_of_le_length (by omega)]
theorem RowsN.cons {T : TypeId} {b gL : Nat} {H : GHeap} {r : Nat → Option Addr} {cs : List Con} (h : RowsN b H r cs gL) (hg : H.get gL = some (.row (conV r cs) T true)) (hb : b ≤ gL) : ConsIn T b H gL r cs := ⟨hb, hg, fun i hi => by
  obtain ⟨g, e, h1, h2, _, h4⟩ := h.row i hi
  exact ⟨g, e, h1, h2, h4⟩⟩
theorem flat2_get {f : Nat → List Value} (h2 : ∀ i, (f i).length = 2) : ∀ {n i j : Nat}, i < n → j < 2 → ((List.range n).flatMap f)[i * 2 + j]? = (f i)[j]?
  | 0, _, _, h, _ => by omega
  | n + 1, i, j, h, hj => by
    have hl : ∀ m, ((List.range m).flatMap f).length = m * 2 := fun m => by
      induction m with
      | zero => rfl
      | succ m ih => rw [List.range_succ, List.flatMap_append, List.length_append, ih]; simp [h2]; omega
    rw [List.range_succ, List.flatMap_append]
    by_cases e : i < n
    · rw [List.getElem?_append_left (by rw [hl]; omega)]
      exact flat2_get h2 e hj
    · obtain rfl : i = n := by omega
      rw [List.getElem?_append_right (by rw [hl]; omega), hl]
      simp
theorem conV_mem {H : GHeap} {g : Nat} {e : TypeId} {own : Bool} {r : Nat → Option Addr} {cs : List Con} (hg : H.get g = some (.row (conV r cs) e own)) {i : Nat} (hi : i < cs.length) : MemN H g (0 + (i : Int).toNat * 2) 2 ((cs.getD i .z).cells ⟨r i⟩) := by
  refine ⟨rfl, fun j v hv => ?_⟩
  have hj : j < 2 := (List.getElem?_eq_some_iff.1 hv).1
  rw [GHeap.cell_of hg, Int.toNat_natCast, Nat.zero_add]
  unfold conV
  rw [flat2_get (f := fun i => (cs.getD i .z).cells ⟨r i⟩) (fun _ => rfl) hi hj]
  exact hv
theorem Fun.cone_of_sol {d : Fun} {x : Nat} {l : List Int} (h : d.Is) (hx : (x : Int) < d.t.obj) (hl : l ∈ (d.cnet (x : Int)).sols d.ob.length) : d.Cone ⟨(x : Int), l⟩ := by
  have hg : (d.cnet (x : Int)).Good d.ob.length := by
    refine ⟨fun y v hv => ?_, fun a ha => ?_, fun a ha => ?_⟩
    · obtain ⟨_, _, _, _, rfl⟩ := Cat.mem_hom.1 hv; omega
    · have := h.arr (a := a) ha
      show (d.s.src.getD a 0).toNat < _; omega
    · have := h.arr (a := a) ha
      show (d.s.tgt.getD a 0).toNat < _; omega
  obtain ⟨h1, h2, h3⟩ := (Net.mem_sols hg).1 hl
  have hh : ∀ j, j < l.length → ∃ z : Nat, z < d.t.src.length ∧ d.t.src.getD z 0 = (x : Int) ∧ d.t.tgt.getD z 0 = d.ob.getD j 0 ∧ l.getD j 0 = z := fun j hj => Cat.mem_hom.1 (h2 j (by omega))
  refine ⟨⟨by show (0 : Int) ≤ x; omega, hx⟩, h1, fun j hj => ?_, fun j hj => ?_, fun a ha => ?_⟩
  · obtain ⟨z, z1, _, _, z4⟩ := hh j hj
    show 0 ≤ l.getD j 0 ∧ l.getD j 0 < _
    rw [z4]; omega
  · obtain ⟨z, z1, z2, z3, z4⟩ := hh j hj
    show d.t.src.getD (l.getD j 0).toNat 0 = (x : Int) ∧ d.t.tgt.getD (l.getD j 0).toNat 0 = _
    rw [z4, Int.toNat_natCast]; exact ⟨z2, z3⟩
  · exact of_decide_eq_true (h3 a ha)
theorem Fun.coneL_cone {d : Fun} (h : d.Is) : ∀ {n : Nat}, (n : Int) ≤ d.t.obj → ∀ c ∈ d.coneL n, d.Cone c
  | 0, _, c, hc => by simp [coneL] at hc
  | n + 1, hn, c, hc => by
    rw [Fun.coneL_succ, List.mem_append, List.mem_map] at hc
    rcases hc with hc | ⟨l, hl, rfl⟩
    · exact Fun.coneL_cone h (by omega) c hc
    · exact Fun.cone_of_sol h (by omega) hl
noncomputable def Fun.univ (d : Fun) (m : Con) : Bool := B (∀ i, i < (d.coneL d.t.obj.toNat).length → (d.coneMaps ((d.coneL d.t.obj.toNat).getD i .z) m).length = 1)
theorem ConsIn.sl {T : TypeId} {b g : Nat} {H : GHeap} {r : Nat → Option Addr} {cs : List Con} (h : ConsIn T b H g r cs) : SlA H (some ⟨g, 0, none⟩) (cs.length * 2) (fun i => (conV r cs).getD i (.bool false)) := SlA.of_row h.2.1 (length_conV _ _)
theorem ConsIn.mem {T : TypeId} {b g : Nat} {H : GHeap} {r : Nat → Option Addr} {cs : List Con} (h : ConsIn T b H g r cs) : ∀ i, i < cs.length → MemN H g (0 + (i : Int).toNat * 2) 2 ((cs.getD i .z).cells ⟨r i⟩) := fun _ hi => conV_mem h.2.1 hi
theorem ConsIn.inn {T : TypeId} {b g : Nat} {H : GHeap} {r : Nat → Option Addr} {cs : List Con} (h : ConsIn T b H g r cs) : ∀ i, i < cs.length → (cs.getD i .z).In H ⟨r i⟩ := fun i hi => (h.2.2 i hi).ints
theorem ConsAt.cin {T e : TypeId} {b g : Nat} {H : GHeap} {r : Nat → Option Addr} {cs : List Con} (h : ConsAt T e b H g r cs) (hb : b ≤ g) : ConsIn T b H g r cs := ⟨hb, h.hd, fun i hi => by
  obtain ⟨x, h1, h2, h3⟩ := h.rows.row i (by rw [List.length_map]; exact hi)
  have ee : (cs.map Con.lg).getD i [] = (cs.getD i .z).lg := by
    rw [List.getD_eq_getElem?_getD, List.getD_eq_getElem?_getD, List.getElem?_map, List.getElem?_eq_getElem hi]; rfl
  exact ⟨x, e, h1, h2, by rw [← ee]; exact h3⟩⟩
end Go.GL
/- All cones: the reference's. No condition but those of each statement. -/
namespace Go.Proofs.Ytpmjlhbglcaokaa
open Go Go.GL Go.RowKit Go.Proofs
theorem sl_29_Hk : sliceT Try.prog 29 = some (42, 2) := by kernel_rfl
theorem ze_42_Hk : zeroT Try.prog 42 = some ([.int .i64 0, .slice none 0 0], 2) := by kernel_rfl
theorem bt_42_Hk : buildT Try.prog 42 = some ([.int .i64 0, .slice none 0 0], [(0, 1), (1, 1)]) := by kernel_rfl
theorem by_42_Hk : (Try.prog.info? 42).map (·.bytes) = some 32 := by kernel_rfl
set_option maxHeartbeats 4000000 in
theorem l12Cones_c {d : Fun} {p : FunP} {H : GHeap} (hin : d.In H p := by assumption) (hs : d.Small := by assumption) (hI : d.Is := by assumption) :
    GCalls Try.prog 69 [.agg (d.cells p).toArray] H (fun v H' => H.Le H' ∧ ∃ g r, v = .slice (some ⟨g, 0, none⟩) ((d.coneL d.t.obj.toNat).take 401).length ((d.coneL d.t.obj.toNat).take 401).length ∧ ConsIn 42 H.next H' g r ((d.coneL d.t.obj.toNat).take 401)) := by
  have hob := hI.2.1.1.obj
  refine GCalls.body (N := 47) (rs := [.tmp 2]) Try.func69 rfl rfl rfl rfl (fun Qx hret hend => ?_)
  refine .forget (fr' := [(0, some _)]) ⟨rfl, trivial⟩ ?_
  have hle := GHeap.Le.refl H
  have base_hin := hin
  refine .seq (fun K1 hK1 => ?_)
  refine .region ?_
  refine .r rfl rfl rfl (.boxR rfl sz_34_E rfl) ?_
  rintro _ H1 ⟨g1, rfl, le1, ge1, at1⟩
  have nx_H1 := le1.1
  replace hle := hle.trans le1
  have lt_at1 := GHeap.lt_of_get at1
  replace hin := base_hin.mono hle
  have hb1 : Fun.At _ g1 0 d p := ⟨Mem.of_get at1, hin⟩
  obtain ⟨fs1, ft1, c101, c111, j11, j21⟩ := hb1.get
  have hm1 : MemN _ _ _ _ _ := ⟨rfl, hb1.1⟩
  have hi1 := hb1.2
  have hms1 : MemN _ _ _ _ _ := ⟨rfl, fs1.1⟩
  have his1 := fs1.2
  have hmt1 : MemN _ _ _ _ _ := ⟨rfl, ft1.1⟩
  have hit1 := ft1.2
  refine .m rfl rfl rfl (.assign rfl) (.nil ?_)
  refine hK1 _ _ ?_
  refine .seq (fun K2 hK2 => ?_)
  refine .region ?_
  refine .r rfl rfl rfl (.litR rfl sl_29_Hk ze_42_Hk rfl rfl (by omega) (by omega) rfl rfl) ?_
  rintro _ H7 ⟨g7, rfl, le7, ge7, at7⟩
  have nx_H7 := le7.1
  replace hle := hle.trans le7
  replace at1 := le7.2 _ _ at1
  have lt_at7 := GHeap.lt_of_get at7
  replace hin := base_hin.mono hle
  clear hb1 fs1 ft1 c101 c111 j11 j21 hm1 hi1 hms1 his1 hmt1 hit1
  have hb1 : Fun.At _ g1 0 d p := ⟨Mem.of_get at1, hin⟩
  obtain ⟨fs1, ft1, c101, c111, j11, j21⟩ := hb1.get
  have hm1 : MemN _ _ _ _ _ := ⟨rfl, hb1.1⟩
  have hi1 := hb1.2
  have hms1 : MemN _ _ _ _ _ := ⟨rfl, fs1.1⟩
  have his1 := fs1.2
  have hmt1 : MemN _ _ _ _ _ := ⟨rfl, ft1.1⟩
  have hit1 := ft1.2
  refine .m rfl rfl rfl (.assign rfl) (.nil ?_)
  refine hK2 _ _ ?_
  refine .seq (fun K3 hK3 => ?_)
  refine .seq (fun K4 hK4 => ?_)
  refine .region (.m rfl rfl rfl (.assign rfl) (.nil ?_))
  refine hK4 _ _ ?_
  refine .block ?_
  refine .loopR (σ := Nat × (Nat → Option Addr) × Nat × Nat) [(1, some _)] (fun (x, rr, gL3, nL3) => [(4, some (.int .i64 (x : Int))), (3, some (.slice (some ⟨gL3, 0, none⟩) nL3 nL3))]) (fun (x, rr, gL3, nL3) H' => St [g7] H7 H' ∧ H'.get gL3 = some (.row (conV rr ((d.coneL x).take 401)) 42 true) ∧ (gL3 = g7 ∨ H7.next ≤ gL3) ∧ nL3 = ((d.coneL x).take 401).length ∧ x ≤ d.t.obj.toNat ∧ RowsN H.next H' rr ((d.coneL x).take 401) gL3) (fun (x, rr, gL3, nL3) => d.t.obj.toNat - x) ((0, fun _ => none, _, _)) ⟨rfl, trivial⟩ ⟨rfl, rfl, trivial⟩ ?_ ?_
  ·
   refine ⟨.refl _ _, by first | assumption | exact at7 | simpa using at7, .inl rfl, by first | rfl | assumption | simp | omega, ?_⟩
   exact ⟨by omega, .nil _ _ _ _⟩
  rintro ⟨x, rr, gL3, nL3⟩ HL1 ⟨lst1, at_L3, pl_L3, ln_L3, hI⟩ KL1 hKL1
  refine .forget (fr' := [(4, some (.int .i64 (x : Int))), (3, some (.slice (some ⟨gL3, 0, none⟩) nL3 nL3)), (1, some _)]) ⟨rfl, rfl, rfl, trivial⟩ ?_
  have ge_L3 : H.next ≤ gL3 := by omega
  have nx_HL1 := lst1.nx
  replace hle := hle.st lst1 (fun k hk => ⟨by omega, trivial⟩)
  replace at1 := lst1.same _ _ ⟨by omega, trivial⟩ at1
  have lt_at_L3 := GHeap.lt_of_get at_L3
  replace hin := base_hin.mono hle
  clear hb1 fs1 ft1 c101 c111 j11 j21 hm1 hi1 hms1 his1 hmt1 hit1
  have hb1 : Fun.At _ g1 0 d p := ⟨Mem.of_get at1, hin⟩
  obtain ⟨fs1, ft1, c101, c111, j11, j21⟩ := hb1.get
  have hm1 : MemN _ _ _ _ _ := ⟨rfl, hb1.1⟩
  have hi1 := hb1.2
  have hms1 : MemN _ _ _ _ _ := ⟨rfl, fs1.1⟩
  have his1 := fs1.2
  have hmt1 : MemN _ _ _ _ _ := ⟨rfl, ft1.1⟩
  have hit1 := ft1.2
  obtain ⟨hx, hR⟩ := hI
  refine .seq (fun K5 hK5 => ?_)
  refine .seq (fun K6 hK6 => ?_)
  refine .region (.m rfl rfl rfl (.move rfl) (.m rfl rfl rfl (.fieldAddr fo_34_1_E rfl) (.m rfl rfl rfl (.fieldAddr fo_32_0_B rfl) ?_)))
  refine .m rfl rfl rfl (.load on_2_A rfl (by first | assumption | exact Mem.of_get at1 5 _ rfl)) ?_
  refine .m rfl rfl rfl (.cmp rfl rfl rfl) (.m rfl rfl rfl (.move rfl) ?_)
  refine .split (fun h13 => ?_) (fun h13 => ?_)
  ·
   simp only [sps] at h13
   refine .mg rfl rfl rfl rfl rfl (.move rfl) (.mg rfl rfl rfl rfl rfl (.len sl_29_Hk rfl) (.mg rfl rfl rfl rfl rfl (.cmp rfl rfl rfl) (.m rfl rfl rfl (.pickT rfl rfl) ?_)))
   refine .nil ?_
   refine hK6 _ _ ?_
   refine .cond rfl (fun h17 => ?_) (fun h17 => ?_)
   ·
    simp only [sps] at h17
    have htk : (d.coneL x).take 401 = d.coneL x := List.take_of_length_le (by have q := ln_L3; rw [List.length_take] at q; omega)
    have hcn : (d.coneL x).length ≤ 400 := by have q := ln_L3; rw [htk] at q; omega
    have hxo : (x : Int) < d.t.obj := by omega
    have hfit := Fun.con_par hI hxo
    refine .skip ?_
    refine hK5 _ _ ?_
    refine .seq (fun K7 hK7 => ?_)
    refine .block ?_
    refine .seq (fun K8 hK8 => ?_)
    refine .regionD mixed_orders_B (.q 0 (.q 1 (.q 2 (.q 3 (.q 4 (.q 6 (.q 7 (.q 8 (.q 9 (.c 5 1 (.c 10 0 (.q 11 (.done))))))))))))) (by kernel_rfl) ?_
    refine .m rfl rfl rfl rfl (.refl _) (.fieldAddr fo_34_0_E rfl) ?_
    refine .m rfl rfl rfl rfl (.refl _) (.loadM ag_32_D rfl (by assumption)) ?_
    refine .m rfl rfl rfl rfl (.refl _) (.fieldAddr fo_34_1_E rfl) ?_
    refine .m rfl rfl rfl rfl (.refl _) (.loadM ag_32_D rfl (by assumption)) ?_
    refine .m rfl rfl rfl rfl (.refl _) (.move rfl) ?_
    refine .m rfl rfl rfl rfl (.refl _) (.loadM ag_34_E rfl ⟨rfl, Mem.of_get at1⟩) ?_
    refine .m rfl rfl rfl rfl (.refl _) (.move rfl) (.m rfl rfl rfl rfl (.refl _) (.len sl_29_Hk rfl) ?_)
    refine .m rfl rfl rfl rfl (.refl _) (.sub (r := ((401 - (d.coneL x).length : Nat) : Int)) rfl rfl (by rw [ln_L3, htk]; omega) (by omega) (by omega)) ?_
    refine .call1 rfl rfl rfl rfl rfl @Try.call90 rfl (l06Constant_c (d := d) (y := x) hin hs hI hxo) ?_
    rintro _ H25 ⟨le25, p25, rfl, v25⟩
    have hbl := le25
    refine ⟨hbl, ?_⟩
    have nx_H25 := le25.1
    replace hle := hle.trans le25
    replace lst1 := lst1.le le25
    replace at1 := le25.2 _ _ at1
    replace at_L3 := le25.2 _ _ at_L3
    have bs_v25 := v25
    have lv_v25 : Keep HL1.next H25 H25 := fun _ _ _ h => h
    replace hin := base_hin.mono hle
    clear hb1 fs1 ft1 c101 c111 j11 j21 hm1 hi1 hms1 his1 hmt1 hit1
    have hb1 : Fun.At _ g1 0 d p := ⟨Mem.of_get at1, hin⟩
    obtain ⟨fs1, ft1, c101, c111, j11, j21⟩ := hb1.get
    have hm1 : MemN _ _ _ _ _ := ⟨rfl, hb1.1⟩
    have hi1 := hb1.2
    have hms1 : MemN _ _ _ _ _ := ⟨rfl, fs1.1⟩
    have his1 := fs1.2
    have hmt1 : MemN _ _ _ _ _ := ⟨rfl, ft1.1⟩
    have hit1 := ft1.2
    have i25 := v25.inn
    refine .call0 rfl rfl rfl rfl rfl @Try.call89 rfl (l07Find_c (iso := false) (M := 401 - (d.coneL x).length) (f := d.con x) (k := d) i25 hin hfit (by omega) (by omega)) ?_
    rintro _ H30 ⟨le30, a30, r30, rfl, v30⟩
    have nx_H30 := le30.1
    replace hle := hle.trans le30
    replace lst1 := lst1.le le30
    replace at1 := le30.2 _ _ at1
    replace at_L3 := le30.2 _ _ at_L3
    replace lv_v25 := Keep.le lv_v25 le30
    replace v25 := bs_v25.keep lv_v25 (Nat.le_refl _)
    have bs_v30 := v30
    have lv_v30 : Keep H25.next H30 H30 := fun _ _ _ h => h
    replace hin := base_hin.mono hle
    clear hb1 fs1 ft1 c101 c111 j11 j21 hm1 hi1 hms1 his1 hmt1 hit1
    have hb1 : Fun.At _ g1 0 d p := ⟨Mem.of_get at1, hin⟩
    obtain ⟨fs1, ft1, c101, c111, j11, j21⟩ := hb1.get
    have hm1 : MemN _ _ _ _ _ := ⟨rfl, hb1.1⟩
    have hi1 := hb1.2
    have hms1 : MemN _ _ _ _ _ := ⟨rfl, fs1.1⟩
    have his1 := fs1.2
    have hmt1 : MemN _ _ _ _ _ := ⟨rfl, ft1.1⟩
    have hit1 := ft1.2
    clear i25
    have i25 := v25.inn
    have i30 := v30.intss
    refine .m rfl rfl rfl rfl (.refl _) (.assign rfl) ?_
    refine .done ?_
    refine hK8 _ _ ?_
    refine .seq (fun K9 hK9 => ?_)
    refine .region ?_
    have hso := Fun.con_sols hI hxo
    have hFl : ((((d.con x).net d false).sols (d.con x).ob.length).take (401 - (d.coneL x).length)) = d.coneF x (d.coneL x).length := by rw [hso]; rfl
    have hFlen : ((((d.con x).net d false).sols (d.con x).ob.length).take (401 - (d.coneL x).length)).length = (d.coneF x (d.coneL x).length).length := by rw [hFl]
    have hFn : (d.coneF x (d.coneL x).length).length ≤ 401 := by unfold Fun.coneF; rw [List.length_take]; omega
    rw [htk, ← Fun.coneI_zero d x (d.coneL x).length] at at_L3 hR ln_L3
    refine .m rfl rfl rfl (.assign rfl) (.nil ?_)
    refine hK9 _ _ ?_
    refine .block ?_
    refine .loopR (σ := Nat × (Nat → Option Addr) × Nat × Nat) [(1, some _), (4, some _), (5, some _), (14, some _), (15, some _), (16, some _)] (fun (i, r2, gL3v2, nL3v2) => [(6, some (.int .i64 (i : Int))), (3, some (.slice (some ⟨gL3v2, 0, none⟩) nL3v2 nL3v2))]) (fun (i, r2, gL3v2, nL3v2) H' => St [gL3] H30 H' ∧ H'.get gL3v2 = some (.row (conV r2 (d.coneI x (d.coneL x).length i)) 42 true) ∧ (gL3v2 = gL3 ∨ H30.next ≤ gL3v2) ∧ nL3v2 = (d.coneI x (d.coneL x).length i).length ∧ i ≤ (d.coneF x (d.coneL x).length).length ∧ RowsN H.next H' r2 (d.coneI x (d.coneL x).length i) gL3v2) (fun (i, r2, gL3v2, nL3v2) => (d.coneF x (d.coneL x).length).length - i) ((0, rr, _, _)) ⟨rfl, rfl, rfl, rfl, rfl, rfl, trivial⟩ ⟨rfl, rfl, trivial⟩ ?_ ?_
    ·
     refine ⟨.refl _ _, by first | assumption | exact at_L3 | simpa using at_L3, .inl rfl, by first | rfl | assumption | simp | omega, ?_⟩
     exact ⟨by omega, hR.mono (le25.trans le30)⟩
    rintro ⟨i, r2, gL3v2, nL3v2⟩ HL2 ⟨lst2, at_L3v2, pl_L3v2, ln_L3v2, hI⟩ KL2 hKL2
    refine .forget (fr' := [(6, some (.int .i64 (i : Int))), (3, some (.slice (some ⟨gL3v2, 0, none⟩) nL3v2 nL3v2)), (1, some _), (4, some _), (5, some _), (14, some _), (15, some _), (16, some _)]) ⟨rfl, rfl, rfl, rfl, rfl, rfl, rfl, rfl, trivial⟩ ?_
    have ge_L3v2 : H.next ≤ gL3v2 := by omega
    have nx_HL2 := lst2.nx
    replace hle := hle.st lst2 (fun k hk => ⟨by omega, trivial⟩)
    replace lst1 := lst1.st lst2 (fun k hk ho => by simp only [out, and_true] at ho ⊢ <;> omega)
    replace at1 := lst2.same _ _ ⟨by omega, trivial⟩ at1
    replace lv_v25 := Keep.st lv_v25 lst2 (fun k hb hk => ⟨by omega, trivial⟩)
    replace v25 := bs_v25.keep lv_v25 (Nat.le_refl _)
    replace lv_v30 := Keep.st lv_v30 lst2 (fun k hb hk => ⟨by omega, trivial⟩)
    replace v30 := bs_v30.keep lv_v30 (Nat.le_refl _)
    have lt_at_L3v2 := GHeap.lt_of_get at_L3v2
    replace hin := base_hin.mono hle
    clear hb1 fs1 ft1 c101 c111 j11 j21 hm1 hi1 hms1 his1 hmt1 hit1
    have hb1 : Fun.At _ g1 0 d p := ⟨Mem.of_get at1, hin⟩
    obtain ⟨fs1, ft1, c101, c111, j11, j21⟩ := hb1.get
    have hm1 : MemN _ _ _ _ _ := ⟨rfl, hb1.1⟩
    have hi1 := hb1.2
    have hms1 : MemN _ _ _ _ _ := ⟨rfl, fs1.1⟩
    have his1 := fs1.2
    have hmt1 : MemN _ _ _ _ _ := ⟨rfl, ft1.1⟩
    have hit1 := ft1.2
    clear i25
    have i25 := v25.inn
    clear i30
    have i30 := v30.intss
    obtain ⟨hi, hR2⟩ := hI
    have hlen := Fun.coneI_len (d := d) (x := x) (i := i) rfl hcn
    have hcl2 := length_conV r2 (d.coneI x (d.coneL x).length i)
    refine .seq (fun K10 hK10 => ?_)
    refine .seq (fun K11 hK11 => ?_)
    refine .region (.m rfl rfl rfl (.move rfl) (.m rfl rfl rfl (.move rfl) (.m rfl rfl rfl (.len sl_23_B rfl) ?_)))
    refine .m rfl rfl rfl (.cmp rfl rfl rfl) (.nil ?_)
    refine hK11 _ _ ?_
    refine .cond rfl (fun h34 => ?_) (fun h34 => ?_)
    ·
     simp only [sps] at h34
     have hE2 : d.coneI x (d.coneL x).length (i + 1) = d.coneI x (d.coneL x).length i ++ [⟨(x : Int), ((((d.con x).net d false).sols (d.con x).ob.length).take (401 - (d.coneL x).length)).getD i []⟩] := by rw [hFl]; exact Fun.coneI_succ (by omega)
     refine .skip ?_
     refine hK10 _ _ ?_
     refine .seq (fun K12 hK12 => ?_)
     refine .block ?_
     refine .region (.m rfl rfl rfl (.move rfl) (.m rfl rfl rfl (.move rfl) (.m rfl rfl rfl (.move rfl) ?_)))
     refine .m rfl rfl rfl (.move rfl) ?_
     refine .m rfl rfl rfl (.idxN sl_23_B (Intss.sl (by assumption)) rfl rfl (by omega)) ?_
     refine .m rfl rfl rfl (.loadR on_22_B (by assumption) rfl (by omega)) ?_
     refine .m rfl rfl rfl (.build bt_42_Hk rfl rfl rfl) ?_
     refine .r rfl rfl rfl (.litR rfl sl_29_Hk ze_42_Hk rfl rfl (by omega) (by omega) rfl rfl) ?_
     rintro _ H44 ⟨g44, rfl, le44, ge44, at44⟩
     have nx_H44 := le44.1
     replace hle := hle.trans le44
     replace lst1 := lst1.le le44
     replace lst2 := lst2.le le44
     replace at1 := le44.2 _ _ at1
     replace at_L3v2 := le44.2 _ _ at_L3v2
     replace lv_v25 := Keep.le lv_v25 le44
     replace v25 := bs_v25.keep lv_v25 (Nat.le_refl _)
     replace lv_v30 := Keep.le lv_v30 le44
     replace v30 := bs_v30.keep lv_v30 (Nat.le_refl _)
     have lt_at44 := GHeap.lt_of_get at44
     replace hin := base_hin.mono hle
     clear hb1 fs1 ft1 c101 c111 j11 j21 hm1 hi1 hms1 his1 hmt1 hit1
     have hb1 : Fun.At _ g1 0 d p := ⟨Mem.of_get at1, hin⟩
     obtain ⟨fs1, ft1, c101, c111, j11, j21⟩ := hb1.get
     have hm1 : MemN _ _ _ _ _ := ⟨rfl, hb1.1⟩
     have hi1 := hb1.2
     have hms1 : MemN _ _ _ _ _ := ⟨rfl, fs1.1⟩
     have his1 := fs1.2
     have hmt1 : MemN _ _ _ _ _ := ⟨rfl, ft1.1⟩
     have hit1 := ft1.2
     clear i25
     have i25 := v25.inn
     clear i30
     have i30 := v30.intss
     refine .r rfl rfl rfl (.appendV rfl sl_29_Hk ze_42_Hk rfl by_42_Hk sl_29_Hk rfl rfl (by assumption) (by assumption) (by first | omega | (simp <;> omega)) rfl rfl (by omega) (by omega)) ?_
     rintro _ H45 ⟨g45, rfl, st45, ge45, at45⟩
     have nx_H45 := st45.nx
     replace hle := hle.st st45 (fun k hk => ⟨by omega, trivial⟩)
     replace lst1 := lst1.st st45 (fun k hk ho => by simp only [out, and_true] at ho ⊢ <;> omega)
     replace lst2 := lst2.st st45 (fun k hk ho => by simp only [out, and_true] at ho ⊢ <;> omega)
     replace at1 := st45.same _ _ ⟨by omega, trivial⟩ at1
     replace at44 := st45.same _ _ ⟨by omega, trivial⟩ at44
     replace lv_v25 := Keep.st lv_v25 st45 (fun k hb hk => ⟨by omega, trivial⟩)
     replace v25 := bs_v25.keep lv_v25 (Nat.le_refl _)
     replace lv_v30 := Keep.st lv_v30 st45 (fun k hb hk => ⟨by omega, trivial⟩)
     replace v30 := bs_v30.keep lv_v30 (Nat.le_refl _)
     have lt_at45 := GHeap.lt_of_get at45
     replace hin := base_hin.mono hle
     clear hb1 fs1 ft1 c101 c111 j11 j21 hm1 hi1 hms1 his1 hmt1 hit1
     have hb1 : Fun.At _ g1 0 d p := ⟨Mem.of_get at1, hin⟩
     obtain ⟨fs1, ft1, c101, c111, j11, j21⟩ := hb1.get
     have hm1 : MemN _ _ _ _ _ := ⟨rfl, hb1.1⟩
     have hi1 := hb1.2
     have hms1 : MemN _ _ _ _ _ := ⟨rfl, fs1.1⟩
     have his1 := fs1.2
     have hmt1 : MemN _ _ _ _ _ := ⟨rfl, ft1.1⟩
     have hit1 := ft1.2
     clear i25
     have i25 := v25.inn
     clear i30
     have i30 := v30.intss
     refine .m rfl rfl rfl (.assign rfl) (.nil ?_)
     refine hK12 _ _ ?_
     refine .region (.m rfl rfl rfl (.move rfl) ?_)
     refine .m rfl rfl rfl (.add rfl rfl rfl (by omega) (by omega)) ?_
     refine .m rfl rfl rfl (.assign rfl) (.nil ?_)
     refine hKL2 ((i + 1, upd r2 (d.coneI x (d.coneL x).length i).length (r30 i), _, _)) _ _ ?_ ?_ ⟨rfl, rfl, rfl, rfl, rfl, rfl, rfl, rfl, trivial⟩
     ·
      refine ⟨lst2, by first | assumption | (rw [hE2, conV_snoc]; assumption) | (rw [hE2]; assumption), by omega, by first | omega | (simp only [List.length_append, List.length_cons, List.length_nil] <;> omega) | (rw [hE2, conV_snoc] <;> (first | omega | (simp only [List.length_append, List.length_cons, List.length_nil] <;> omega))) | (rw [hE2] <;> (first | omega | (simp only [List.length_append, List.length_cons, List.length_nil] <;> omega))), ?_⟩
      obtain ⟨w1, y1, k1, k2, k3⟩ := bs_v30.rowAt (i := i) (by omega)
      obtain ⟨w2, y2, m1, m2, m3⟩ := v30.rowAt (i := i) (by omega)
      have hw : w1 = w2 := by rw [k1] at m1; cases m1; rfl
      subst hw
      have hwl := GHeap.lt_of_get k3
      rw [hE2]
      exact ⟨by omega, ((hR2.mono le44).turn st45 (by omega)).snoc ⟨w1, y2, m1, by omega, by omega, m3⟩⟩
     (dsimp only; omega)
    simp only [sps] at h34
    refine .exit ?_
    refine hK7 _ _ ?_
    refine .region (.m rfl rfl rfl (.move rfl) ?_)
    refine .m rfl rfl rfl (.add rfl rfl rfl (by omega) (by omega)) ?_
    refine .m rfl rfl rfl (.assign rfl) (.nil ?_)
    obtain rfl : i = (d.coneF x (d.coneL x).length).length := by omega
    have hE := Fun.coneI_all (d := d) (x := x) rfl hcn
    refine hKL1 ((x + 1, r2, _, _)) _ _ ?_ ?_ ⟨rfl, rfl, rfl, trivial⟩
    ·
     refine ⟨lst1, by first | assumption | (rw [← hE]; assumption), by omega, by first | omega | (simp only [List.length_append, List.length_cons, List.length_nil] <;> omega) | (rw [← hE] <;> (first | omega | (simp only [List.length_append, List.length_cons, List.length_nil] <;> omega))), ?_⟩
     exact ⟨by omega, by rw [← hE]; exact hR2⟩
    (dsimp only; omega)
   simp only [sps] at h17
   refine .exit ?_
   refine hK3 _ _ ?_
   refine .seq (fun K13 hK13 => ?_)
   refine .region (.m rfl rfl rfl (.move rfl) (.m rfl rfl rfl (.assign rfl) (.nil ?_)))
   refine hK13 _ _ ?_
   refine .ret ?_
   refine hret _ _ ?_
   refine ⟨_, rfl, ?_⟩
   have hcut := Fun.coneL_cut (d := d) (x := x) (n := d.t.obj.toNat) (by omega) (by omega)
   rw [hcut]
   exact ⟨hle, gL3, rr, by rw [ln_L3], hR.cons at_L3 (by omega)⟩
  simp only [sps] at h13
  refine .sg rfl rfl rfl rfl rfl (.sg rfl rfl rfl rfl rfl (.sg rfl rfl rfl rfl rfl (.m rfl rfl rfl (.pickF rfl rfl) ?_)))
  refine .nil ?_
  refine hK6 _ _ ?_
  refine .condF rfl ?_
  refine .exit ?_
  refine hK3 _ _ ?_
  refine .seq (fun K14 hK14 => ?_)
  refine .region (.m rfl rfl rfl (.move rfl) (.m rfl rfl rfl (.assign rfl) (.nil ?_)))
  refine hK14 _ _ ?_
  refine .ret ?_
  refine hret _ _ ?_
  refine ⟨_, rfl, ?_⟩
  have hxe : x = d.t.obj.toNat := by omega
  subst hxe
  exact ⟨hle, gL3, rr, by rw [ln_L3], hR.cons at_L3 (by omega)⟩
end Go.Proofs.Ytpmjlhbglcaokaa
/- The legs of cones: the program's search. No condition but those of each statement. -/
namespace Go.Proofs.Ytpmjlhbglcaokaa
open Go Go.GL Go.RowKit Go.Proofs
theorem on_105_Hh : oneT Try.prog 105 = true := by kernel_rfl
theorem on_67_Hh : oneT Try.prog 67 = true := by kernel_rfl
theorem on_81_Hh : oneT Try.prog 81 = true := by kernel_rfl
theorem sz_67_Hh : (Try.prog.info? 67).map (·.size) = some 1 := by kernel_rfl
theorem sz_105_Hh : (Try.prog.info? 105).map (·.size) = some 1 := by kernel_rfl
theorem sz_92_Hh : (Try.prog.info? 92).map (·.size) = some 1 := by kernel_rfl
theorem ze_81_Hh : zeroT Try.prog 81 = some ([.nilFunc], 1) := by kernel_rfl
theorem sz_81_Hh : (Try.prog.info? 81).map (·.size) = some 1 := by kernel_rfl
/-- The variables that the search's function holds. -/
structure LgBox (gf of gc N fn fc : Nat) (w : Int) (cap : Array Value) (b1 b2 b3 b4 b5 b6 b7 : Nat) (H : GHeap) : Prop where
  k1 : H.get b1 = some (.row [.pointer (some ⟨gf, of + 0, none⟩)] 92 true)
  k2 : H.get b2 = some (.row [.func (.func fn) #[] cap] 105 true)
  k3 : H.get b3 = some (.row [.slice (some ⟨gc, 0, none⟩) N N] 22 true)
  k4 : H.get b4 = some (.row [.pointer (some ⟨gf, of + 5, none⟩)] 92 true)
  k5 : H.get b5 = some (.row [.int .i64 w] 2 true)
  k6 : H.get b6 = some (.row [.pointer (some ⟨gf, of, none⟩)] 67 true)
  k7 : H.get b7 = some (.row [.func (.func fc) #[] #[.pointer (some ⟨b1, 0, none⟩), .pointer (some ⟨b2, 0, none⟩), .pointer (some ⟨b3, 0, none⟩), .pointer (some ⟨b4, 0, none⟩), .pointer (some ⟨b5, 0, none⟩), .pointer (some ⟨b6, 0, none⟩), .pointer (some ⟨b7, 0, none⟩)]] 81 true)
def lgCap (b1 b2 b3 b4 b5 b6 b7 : Nat) : List Value := [.pointer (some ⟨b1, 0, none⟩), .pointer (some ⟨b2, 0, none⟩), .pointer (some ⟨b3, 0, none⟩), .pointer (some ⟨b4, 0, none⟩), .pointer (some ⟨b5, 0, none⟩), .pointer (some ⟨b6, 0, none⟩), .pointer (some ⟨b7, 0, none⟩)]
def LgSpec (f : Fun) (w : Int) (A : Nat → List (List Int) → Nat → GHeap → Prop) (most e0 g1 b gf of gc fn : Nat) (cap : Array Value) (b1 b2 b3 b4 b5 b6 b7 : Nat) (H0 : GHeap) (r : Nat) : Prop :=
  ∀ (x gF : Nat) (co : List Int) (fs : List (List Int)) (H : GHeap), x + r = f.ob.length → H0.Le H → LgBox gf of gc f.ob.length fn 95 w cap b1 b2 b3 b4 b5 b6 b7 H → H.get gc = some (.row (ints co) 2 true) → co.length = f.ob.length →
    (∀ i, i < x → 0 ≤ co.getD i 0 ∧ co.getD i 0 < f.t.src.length) → A b fs gF H → fs.length ≤ most → gF < H.next → H0.next ≤ gF → (gF < e0 ∨ b ≤ gF) → b ≤ H.next →
    GCalls Try.prog 95 (.int .i64 (x : Int) :: lgCap b1 b2 b3 b4 b5 b6 b7) H (fun v H' => ∃ gF' co', v = .bool (decide (fs.length + (searchL (f.cnet w).cand (f.cnet w).ok r (co.take x)).length ≤ most)) ∧ (gF' = gF ∨ H.next ≤ gF') ∧ gF' < H'.next ∧ St [gc, g1, gF] H H' ∧
      H'.get gc = some (.row (ints co') 2 true) ∧ co'.length = f.ob.length ∧ co'.take x = co.take x ∧ A b ((fs ++ searchL (f.cnet w).cand (f.cnet w).ok r (co.take x)).take (most + 1)) gF' H')
set_option maxHeartbeats 4000000 in
theorem legs0_c {f : Fun} {p : FunP} {w : Int} {A : Nat → List (List Int) → Nat → GHeap → Prop} {most e0 g1 b gf of gc fn : Nat} {cap : Array Value} {b1 b2 b3 b4 b5 b6 b7 : Nat} {H0 : GHeap} (hf : Fun.At H0 gf of f p) (hP : f.Is)
    (hH : Hears Try.prog fn cap e0 g1 most 2 A)
    (he0 : H0.next ≤ e0) (hg1 : H0.next ≤ g1) (hg2 : g1 < e0) (c0 : e0 ≤ gc ∧ gc < b) (c1 : e0 ≤ b1 ∧ b1 < b ∧ b1 ≠ gc) (c2 : e0 ≤ b2 ∧ b2 < b ∧ b2 ≠ gc) (c3 : e0 ≤ b3 ∧ b3 < b ∧ b3 ≠ gc) (c4 : e0 ≤ b4 ∧ b4 < b ∧ b4 ≠ gc) (c5 : e0 ≤ b5 ∧ b5 < b ∧ b5 ≠ gc) (c6 : e0 ≤ b6 ∧ b6 < b ∧ b6 ≠ gc) (c7 : e0 ≤ b7 ∧ b7 < b ∧ b7 ≠ gc) :
    LgSpec f w A most e0 g1 b gf of gc fn cap b1 b2 b3 b4 b5 b6 b7 H0 0 := by
  have hs := hP.1.1
  have n40 := hs.n40
  have hol := hP.2.2.ol
  have hob := hs.obj
  have htl := hs.tl
  have hal2 := hP.2.2.al
  have ht40 := hP.2.1.1.n40
  have hTS := hP.2.1.1
  have hcl0 := hTS.cl
  intro x gF co fs H hx hle0 hB hgc hl hr hA hfs hF hF0 hF1 hb
  obtain ⟨k1, k2, k3, k4, k5, k6, k7⟩ := hB
  refine GCalls.body (N := 94) (rs := [.tmp 9]) Try.func95 rfl rfl rfl rfl (fun Qx hret hend => ?_)
  refine .forget (fr' := [(0, some _), (1, some _), (2, some _), (3, some _), (4, some _), (5, some _), (6, some _), (7, some _)]) ⟨rfl, rfl, rfl, rfl, rfl, rfl, rfl, rfl, trivial⟩ ?_
  have lt_k1 := GHeap.lt_of_get k1
  have lt_k2 := GHeap.lt_of_get k2
  have lt_k3 := GHeap.lt_of_get k3
  have lt_k4 := GHeap.lt_of_get k4
  have lt_k5 := GHeap.lt_of_get k5
  have lt_k6 := GHeap.lt_of_get k6
  have lt_k7 := GHeap.lt_of_get k7
  have lt_hgc := GHeap.lt_of_get hgc
  have hfo := St.refl [gc, g1, gF] H
  have hz := hle0.st hfo (fun k hk => ⟨by omega, by omega, by omega, trivial⟩)
  have hF2 := hf.mono hz
  obtain ⟨fsf, ftf, c10f, c11f, j1f, j2f⟩ := hF2.get
  have hmf : MemN _ _ _ _ _ := ⟨rfl, hF2.1⟩
  have hif := hF2.2
  have hmsf : MemN _ _ _ _ _ := ⟨rfl, fsf.1⟩
  have hisf := fsf.2
  have hmtf : MemN _ _ _ _ _ := ⟨rfl, ftf.1⟩
  have hitf := ftf.2
  obtain ⟨s0, s1, s2, s3, s4, u1, u2, u3, u4⟩ := fsf.get
  refine .seq (fun K1 hK1 => ?_)
  refine .region (.m rfl rfl rfl (.assign rfl) (.nil ?_))
  refine hK1 _ _ ?_
  refine .scope ?_
  refine .seq (fun K2 hK2 => ?_)
  refine .seq (fun K3 hK3 => ?_)
  refine .region (.m rfl rfl rfl (.move rfl) ?_)
  refine .m rfl rfl rfl (.load on_92_F rfl (by first | assumption | exact Mem.of_get k1 0 _ rfl)) ?_
  refine .m rfl rfl rfl (.nilCheck rfl) (.m rfl rfl rfl (.fieldAddr fo_32_0_B rfl) ?_)
  refine .m rfl rfl rfl (.load on_2_A rfl (by assumption)) ?_
  refine .m rfl rfl rfl (.cmp rfl rfl rfl) (.nil ?_)
  refine hK3 _ _ ?_
  refine .cond rfl (fun h21 => ?_) (fun h21 => ?_)
  ·
   try simp only [sps] at h21
   refine .seq (fun K4 hK4 => ?_)
   refine .region ?_
   refine .m rfl rfl rfl (.load on_105_Hh rfl (by first | assumption | exact Mem.of_get k2 0 _ rfl)) ?_
   refine .m rfl rfl rfl (.load on_22_B rfl (by first | assumption | exact Mem.of_get k3 0 _ rfl)) ?_
   refine .callV rfl rfl rfl rfl rfl hH.code rfl ((show GCalls _ fn ([.slice (some ⟨gc, 0, none⟩) f.ob.length f.ob.length] ++ cap.toList) _ _ from hl ▸ hH.run hA c0.1 c0.2 (by omega) hb hgc hfs (by omega) hF)) ?_
   rintro _ H24 ⟨rfl, gF24, hg24, hl24, st24, hA24⟩
   have nx_H24 := st24.nx
   replace hfo := hfo.st st24 (fun k hk ho => by simp only [out, and_true] at ho ⊢ <;> omega)
   replace k1 := st24.same _ _ ⟨by omega, by omega, trivial⟩ k1
   replace k2 := st24.same _ _ ⟨by omega, by omega, trivial⟩ k2
   replace k3 := st24.same _ _ ⟨by omega, by omega, trivial⟩ k3
   replace k4 := st24.same _ _ ⟨by omega, by omega, trivial⟩ k4
   replace k5 := st24.same _ _ ⟨by omega, by omega, trivial⟩ k5
   replace k6 := st24.same _ _ ⟨by omega, by omega, trivial⟩ k6
   replace k7 := st24.same _ _ ⟨by omega, by omega, trivial⟩ k7
   replace hgc := st24.same _ _ ⟨by omega, by omega, trivial⟩ hgc
   clear hz hF2 fsf ftf c10f c11f j1f j2f hmf hif hmsf hisf hmtf hitf s0 s1 s2 s3 s4 u1 u2 u3 u4
   have hz := hle0.st hfo (fun k hk => ⟨by omega, by omega, by omega, trivial⟩)
   have hF2 := hf.mono hz
   obtain ⟨fsf, ftf, c10f, c11f, j1f, j2f⟩ := hF2.get
   have hmf : MemN _ _ _ _ _ := ⟨rfl, hF2.1⟩
   have hif := hF2.2
   have hmsf : MemN _ _ _ _ _ := ⟨rfl, fsf.1⟩
   have hisf := fsf.2
   have hmtf : MemN _ _ _ _ _ := ⟨rfl, ftf.1⟩
   have hitf := ftf.2
   obtain ⟨s0, s1, s2, s3, s4, u1, u2, u3, u4⟩ := fsf.get
   refine .m rfl rfl rfl (.assign rfl) (.nil ?_)
   refine hK4 _ _ ?_
   refine .ret ?_
   refine hret _ _ ?_
   refine ⟨_, rfl, ?_⟩
   have hx0 : co.take x = co := List.take_of_length_le (by omega)
   refine ⟨gF24, co, ?_, hg24, hl24, hfo, hgc, hl, rfl, ?_⟩
   · rw [hx0]; rfl
   · rw [hx0, show searchL (f.cnet w).cand (f.cnet w).ok 0 co = [co] from rfl, List.take_of_length_le (by simp; omega)]
     exact hA24
  simp only [sps] at h21; omega
set_option maxHeartbeats 4000000 in
theorem legsS_c {f : Fun} {p : FunP} {w : Int} {A : Nat → List (List Int) → Nat → GHeap → Prop} {most e0 g1 b gf of gc fn : Nat} {cap : Array Value} {b1 b2 b3 b4 b5 b6 b7 : Nat} {H0 : GHeap} (hf : Fun.At H0 gf of f p) (hP : f.Is)
    (hH : Hears Try.prog fn cap e0 g1 most 2 A)
    (he0 : H0.next ≤ e0) (hg1 : H0.next ≤ g1) (hg2 : g1 < e0) (c0 : e0 ≤ gc ∧ gc < b) (c1 : e0 ≤ b1 ∧ b1 < b ∧ b1 ≠ gc) (c2 : e0 ≤ b2 ∧ b2 < b ∧ b2 ≠ gc) (c3 : e0 ≤ b3 ∧ b3 < b ∧ b3 ≠ gc) (c4 : e0 ≤ b4 ∧ b4 < b ∧ b4 ≠ gc) (c5 : e0 ≤ b5 ∧ b5 < b ∧ b5 ≠ gc) (c6 : e0 ≤ b6 ∧ b6 < b ∧ b6 ≠ gc) (c7 : e0 ≤ b7 ∧ b7 < b ∧ b7 ≠ gc) {r : Nat} (ih : LgSpec f w A most e0 g1 b gf of gc fn cap b1 b2 b3 b4 b5 b6 b7 H0 r) :
    LgSpec f w A most e0 g1 b gf of gc fn cap b1 b2 b3 b4 b5 b6 b7 H0 (r + 1) := by
  have hs := hP.1.1
  have n40 := hs.n40
  have hol := hP.2.2.ol
  have hob := hs.obj
  have htl := hs.tl
  have hal2 := hP.2.2.al
  have ht40 := hP.2.1.1.n40
  have hTS := hP.2.1.1
  have hcl0 := hTS.cl
  intro x gF co fs H hx hle0 hB hgc hl hr hA hfs hF hF0 hF1 hb
  obtain ⟨k1, k2, k3, k4, k5, k6, k7⟩ := hB
  refine GCalls.body (N := 94) (rs := [.tmp 9]) Try.func95 rfl rfl rfl rfl (fun Qx hret hend => ?_)
  refine .forget (fr' := [(0, some _), (1, some _), (2, some _), (3, some _), (4, some _), (5, some _), (6, some _), (7, some _)]) ⟨rfl, rfl, rfl, rfl, rfl, rfl, rfl, rfl, trivial⟩ ?_
  have lt_k1 := GHeap.lt_of_get k1
  have lt_k2 := GHeap.lt_of_get k2
  have lt_k3 := GHeap.lt_of_get k3
  have lt_k4 := GHeap.lt_of_get k4
  have lt_k5 := GHeap.lt_of_get k5
  have lt_k6 := GHeap.lt_of_get k6
  have lt_k7 := GHeap.lt_of_get k7
  have lt_hgc := GHeap.lt_of_get hgc
  have hfo := St.refl [gc, g1, gF] H
  have hz := hle0.st hfo (fun k hk => ⟨by omega, by omega, by omega, trivial⟩)
  have hF2 := hf.mono hz
  obtain ⟨fsf, ftf, c10f, c11f, j1f, j2f⟩ := hF2.get
  have hmf : MemN _ _ _ _ _ := ⟨rfl, hF2.1⟩
  have hif := hF2.2
  have hmsf : MemN _ _ _ _ _ := ⟨rfl, fsf.1⟩
  have hisf := fsf.2
  have hmtf : MemN _ _ _ _ _ := ⟨rfl, ftf.1⟩
  have hitf := ftf.2
  obtain ⟨s0, s1, s2, s3, s4, u1, u2, u3, u4⟩ := fsf.get
  refine .seq (fun K1 hK1 => ?_)
  refine .region (.m rfl rfl rfl (.assign rfl) (.nil ?_))
  refine hK1 _ _ ?_
  refine .scope ?_
  refine .seq (fun K2 hK2 => ?_)
  refine .seq (fun K3 hK3 => ?_)
  refine .region (.m rfl rfl rfl (.move rfl) ?_)
  refine .m rfl rfl rfl (.load on_92_F rfl (by first | assumption | exact Mem.of_get k1 0 _ rfl)) ?_
  refine .m rfl rfl rfl (.nilCheck rfl) (.m rfl rfl rfl (.fieldAddr fo_32_0_B rfl) ?_)
  refine .m rfl rfl rfl (.load on_2_A rfl (by assumption)) ?_
  refine .m rfl rfl rfl (.cmp rfl rfl rfl) (.nil ?_)
  refine hK3 _ _ ?_
  refine .cond rfl (fun h21 => ?_) (fun h21 => ?_)
  ·
   simp only [sps] at h21; omega
  try simp only [sps] at h21
  refine .skip ?_
  refine hK2 _ _ ?_
  refine .seq (fun K4 hK4 => ?_)
  refine .label ?_
  refine hK4 _ _ ?_
  refine .seq (fun K5 hK5 => ?_)
  refine .seq (fun K6 hK6 => ?_)
  refine .regionD mixed_orders_B (.q 0 (.q 1 (.q 2 (.q 3 (.q 4 (.q 5 (.q 6 (.q 7 (.q 8 (.q 11 (.c 9 1 (.q 10 (.done))))))))))))) (by kernel_rfl) ?_
  refine .m rfl rfl rfl rfl (.refl _) (.load on_92_F rfl (by first | assumption | exact Mem.of_get k4 0 _ rfl)) ?_
  refine .m rfl rfl rfl rfl (.refl _) (.load on_2_A rfl (by first | assumption | exact Mem.of_get k5 0 _ rfl)) ?_
  refine .m rfl rfl rfl rfl (.refl _) (.load on_67_Hh rfl (by first | assumption | exact Mem.of_get k6 0 _ rfl)) ?_
  refine .m rfl rfl rfl rfl (.refl _) (.nilCheck rfl) (.m rfl rfl rfl rfl (.refl _) (.fieldAddr fo_34_2_E rfl) ?_)
  refine .m rfl rfl rfl rfl (.refl _) (.load on_22_B rfl (by assumption)) ?_
  refine .m rfl rfl rfl rfl (.refl _) (.move rfl) ?_
  refine .m rfl rfl rfl rfl (.refl _) (.idxN sl_22_A (by assumption) rfl rfl (by omega)) ?_
  refine .m rfl rfl rfl rfl (.refl _) (.loadI on_2_A (by assumption) rfl (by omega)) ?_
  refine .m rfl rfl rfl rfl (.refl _) (.move rfl) ?_
  refine .call1 rfl rfl rfl rfl rfl @Try.call84 rfl (hom_c (c := f.t)) ?_
  rintro _ H34 ⟨le34, g34, rfl, at34, ge34⟩
  have hbl := le34
  refine ⟨hbl, ?_⟩
  have nx_H34 := le34.1
  replace hfo := hfo.le le34
  replace k1 := le34.2 _ _ k1
  replace k2 := le34.2 _ _ k2
  replace k3 := le34.2 _ _ k3
  replace k4 := le34.2 _ _ k4
  replace k5 := le34.2 _ _ k5
  replace k6 := le34.2 _ _ k6
  replace k7 := le34.2 _ _ k7
  replace hgc := le34.2 _ _ hgc
  have lt_at34 := GHeap.lt_of_get at34
  clear hz hF2 fsf ftf c10f c11f j1f j2f hmf hif hmsf hisf hmtf hitf s0 s1 s2 s3 s4 u1 u2 u3 u4
  have hz := hle0.st hfo (fun k hk => ⟨by omega, by omega, by omega, trivial⟩)
  have hF2 := hf.mono hz
  obtain ⟨fsf, ftf, c10f, c11f, j1f, j2f⟩ := hF2.get
  have hmf : MemN _ _ _ _ _ := ⟨rfl, hF2.1⟩
  have hif := hF2.2
  have hmsf : MemN _ _ _ _ _ := ⟨rfl, fsf.1⟩
  have hisf := fsf.2
  have hmtf : MemN _ _ _ _ _ := ⟨rfl, ftf.1⟩
  have hitf := ftf.2
  obtain ⟨s0, s1, s2, s3, s4, u1, u2, u3, u4⟩ := fsf.get
  have i34 := Ints.of_get at34
  have hhl := Cat.hom_le f.t w (f.ob.getD x 0)
  refine .m rfl rfl rfl rfl hbl (.len sl_22_A rfl) ?_
  refine .done ?_
  refine hK6 _ _ ?_
  refine .block ?_
  refine .loopR (σ := Nat × Nat × List Int) [(0, some _), (1, some _), (3, some _), (4, some _), (6, some _), (7, some _), (34, some _), (35, some _)] (fun (j, gV, co') => [(36, some (.int .i64 (j : Int)))]) (fun (j, gV, co') H' => St [gc, g1, gF] H34 H' ∧ H'.get gc = some (.row (ints co') 2 true) ∧ j ≤ (f.t.hom w (f.ob.getD x 0)).length ∧ co'.length = f.ob.length ∧ co'.take x = co.take x ∧ (gV = gF ∨ H34.next ≤ gV) ∧ gV < H'.next ∧ A b (fs ++ chP (f.cnet w) (fun _ => true) r (co.take x) (f.t.hom w (f.ob.getD x 0)) j) gV H' ∧ (fs ++ chP (f.cnet w) (fun _ => true) r (co.take x) (f.t.hom w (f.ob.getD x 0)) j).length ≤ most) (fun (j, gV, co') => (f.t.hom w (f.ob.getD x 0)).length - j) ((0, gF, co)) ⟨rfl, rfl, rfl, rfl, rfl, rfl, rfl, rfl, trivial⟩ ⟨rfl, trivial⟩ ?_ ?_
  ·
   refine ⟨.refl _ _, by first | assumption | exact hgc | simpa using hgc, ?_⟩
   rw [chP_zero, List.append_nil]
   exact ⟨by omega, hl, rfl, .inl rfl, by omega, hH.le hA le34, hfs⟩
  rintro ⟨j, gV, co'⟩ HL1 ⟨lst1, at_Lgc, hI⟩ KL1 hKL1
  refine .forget (fr' := [(36, some (.int .i64 (j : Int))), (0, some _), (1, some _), (3, some _), (4, some _), (6, some _), (7, some _), (34, some _), (35, some _)]) ⟨rfl, rfl, rfl, rfl, rfl, rfl, rfl, rfl, rfl, trivial⟩ ?_
  have nx_HL1 := lst1.nx
  replace hfo := hfo.st lst1 (fun k hk ho => by simp only [out, and_true] at ho ⊢ <;> omega)
  replace k1 := lst1.same _ _ ⟨by omega, by omega, by omega, trivial⟩ k1
  replace k2 := lst1.same _ _ ⟨by omega, by omega, by omega, trivial⟩ k2
  replace k3 := lst1.same _ _ ⟨by omega, by omega, by omega, trivial⟩ k3
  replace k4 := lst1.same _ _ ⟨by omega, by omega, by omega, trivial⟩ k4
  replace k5 := lst1.same _ _ ⟨by omega, by omega, by omega, trivial⟩ k5
  replace k6 := lst1.same _ _ ⟨by omega, by omega, by omega, trivial⟩ k6
  replace k7 := lst1.same _ _ ⟨by omega, by omega, by omega, trivial⟩ k7
  replace at34 := lst1.same _ _ ⟨by omega, by omega, by omega, trivial⟩ at34
  have lt_at_Lgc := GHeap.lt_of_get at_Lgc
  clear hz hF2 fsf ftf c10f c11f j1f j2f hmf hif hmsf hisf hmtf hitf s0 s1 s2 s3 s4 u1 u2 u3 u4
  have hz := hle0.st hfo (fun k hk => ⟨by omega, by omega, by omega, trivial⟩)
  have hF2 := hf.mono hz
  obtain ⟨fsf, ftf, c10f, c11f, j1f, j2f⟩ := hF2.get
  have hmf : MemN _ _ _ _ _ := ⟨rfl, hF2.1⟩
  have hif := hF2.2
  have hmsf : MemN _ _ _ _ _ := ⟨rfl, fsf.1⟩
  have hisf := fsf.2
  have hmtf : MemN _ _ _ _ _ := ⟨rfl, ftf.1⟩
  have hitf := ftf.2
  obtain ⟨s0, s1, s2, s3, s4, u1, u2, u3, u4⟩ := fsf.get
  clear i34
  have i34 := Ints.of_get at34
  obtain ⟨hj, hcl, hct, hgV, hgl, hAL, hfl⟩ := hI
  refine .seq (fun K7 hK7 => ?_)
  refine .region (.m rfl rfl rfl (.cmp rfl rfl rfl) (.nil ?_))
  refine hK7 _ _ ?_
  refine .seq (fun K8 hK8 => ?_)
  refine .cond rfl (fun h37 => ?_) (fun h37 => ?_)
  ·
   simp only [sps] at h37
   obtain ⟨v, v1, v2, v3, v4⟩ := Cat.hom_get (c := f.t) (x := w) (y := f.ob.getD x 0) (i := j) (by omega)
   refine .skip ?_
   refine hK8 _ _ ?_
   refine .seq (fun K9 hK9 => ?_)
   refine .block ?_
   refine .seq (fun K10 hK10 => ?_)
   refine .region ?_
   refine .m rfl rfl rfl (.idxN sl_22_A (by first | assumption | exact SlA.of_row at34 (by first | rfl | (simp; done) | (simp <;> omega))) rfl rfl (by omega)) ?_
   refine .m rfl rfl rfl (.loadI on_2_A (by first | assumption | exact Ints.of_get at34) rfl (by omega)) ?_
   refine .m rfl rfl rfl (.assign rfl) (.nil ?_)
   refine hK10 _ _ ?_
   refine .seq (fun K11 hK11 => ?_)
   refine .region ?_
   refine .m rfl rfl rfl (.load on_22_B rfl (by first | assumption | exact Mem.of_get k3 0 _ rfl)) ?_
   refine .m rfl rfl rfl (.move rfl) (.m rfl rfl rfl (.move rfl) ?_)
   refine .m rfl rfl rfl (.idxN sl_22_A (by first | assumption | exact SlA.of_row at_Lgc (by first | rfl | (simp; done) | (simp <;> omega))) rfl rfl (by omega)) ?_
   refine .r0 rfl rfl (.storeI rfl sz_2_E rfl rfl (by assumption) (by first | omega | (simp <;> omega))) ?_
   rintro _ H6004 ⟨rfl, st6004, at6004⟩
   have nx_H6004 := st6004.nx
   replace hfo := hfo.st st6004 (fun k hk ho => by simp only [out, and_true] at ho ⊢ <;> omega)
   replace lst1 := lst1.st st6004 (fun k hk ho => by simp only [out, and_true] at ho ⊢ <;> omega)
   replace k1 := st6004.same _ _ ⟨by omega, trivial⟩ k1
   replace k2 := st6004.same _ _ ⟨by omega, trivial⟩ k2
   replace k3 := st6004.same _ _ ⟨by omega, trivial⟩ k3
   replace k4 := st6004.same _ _ ⟨by omega, trivial⟩ k4
   replace k5 := st6004.same _ _ ⟨by omega, trivial⟩ k5
   replace k6 := st6004.same _ _ ⟨by omega, trivial⟩ k6
   replace k7 := st6004.same _ _ ⟨by omega, trivial⟩ k7
   replace at34 := st6004.same _ _ ⟨by omega, trivial⟩ at34
   have lt_at6004 := GHeap.lt_of_get at6004
   clear hz hF2 fsf ftf c10f c11f j1f j2f hmf hif hmsf hisf hmtf hitf s0 s1 s2 s3 s4 u1 u2 u3 u4
   have hz := hle0.st hfo (fun k hk => ⟨by omega, by omega, by omega, trivial⟩)
   have hF2 := hf.mono hz
   obtain ⟨fsf, ftf, c10f, c11f, j1f, j2f⟩ := hF2.get
   have hmf : MemN _ _ _ _ _ := ⟨rfl, hF2.1⟩
   have hif := hF2.2
   have hmsf : MemN _ _ _ _ _ := ⟨rfl, fsf.1⟩
   have hisf := fsf.2
   have hmtf : MemN _ _ _ _ _ := ⟨rfl, ftf.1⟩
   have hitf := ftf.2
   obtain ⟨s0, s1, s2, s3, s4, u1, u2, u3, u4⟩ := fsf.get
   clear i34
   have i34 := Ints.of_get at34
   rw [Nat.zero_add] at at6004
   refine .nil ?_
   refine hK11 _ _ ?_
   refine .seq (fun K12 hK12 => ?_)
   refine .seq (fun K13 hK13 => ?_)
   refine .region ?_
   have hv : ∀ i, i ≤ x → 0 ≤ (co'.set x ((f.t.hom w (f.ob.getD x 0)).getD j 0)).getD i 0 ∧ (co'.set x ((f.t.hom w (f.ob.getD x 0)).getD j 0)).getD i 0 < f.t.src.length ∧ (co'.set x ((f.t.hom w (f.ob.getD x 0)).getD j 0)).getD i 0 = (co.take x ++ [(f.t.hom w (f.ob.getD x 0)).getD j 0]).getD i 0 := fun i hi => by
     refine ⟨?_, ?_, by rw [take_set_getD (by omega) hi, hct]⟩
     · rw [getD_set (by omega)]
       split
       · omega
       · rw [takeD hct (by omega)]; exact (hr i (by omega)).1
     · rw [getD_set (by omega)]
       split
       · omega
       · rw [takeD hct (by omega)]; exact (hr i (by omega)).2
   have hpl : (co.take x).length = x := by rw [List.length_take]; omega
   have hsl : (co'.set x ((f.t.hom w (f.ob.getD x 0)).getD j 0)).length = f.ob.length := by rw [List.length_set]; exact hcl
   refine .m rfl rfl rfl (.load on_67_Hh rfl (by first | assumption | exact Mem.of_get k6 0 _ rfl)) ?_
   refine .m rfl rfl rfl (.nilCheck rfl) (.m rfl rfl rfl (.fieldAddr fo_34_3_E rfl) ?_)
   refine .m rfl rfl rfl (.load on_22_B rfl (by assumption)) ?_
   refine .m rfl rfl rfl (.len sl_22_A rfl) (.m rfl rfl rfl (.move rfl) (.nil ?_))
   refine hK13 _ _ ?_
   refine .block ?_
   refine .loopR (σ := Nat) [(0, some _), (1, some _), (3, some _), (4, some _), (6, some _), (7, some _), (34, some _), (35, some _), (36, some _), (47, some _), (48, some _)] (fun a => [(49, some (.int .i64 (a : Int)))]) (fun a H' => H6004 = H' ∧ a ≤ f.ar.length ∧ allN a ((f.cnet w).okAt (co.take x ++ [(f.t.hom w (f.ob.getD x 0)).getD j 0]) x) = true) (fun a => f.ar.length - a) (0) ⟨rfl, rfl, rfl, rfl, rfl, rfl, rfl, rfl, rfl, rfl, rfl, trivial⟩ ⟨rfl, trivial⟩ ?_ ?_
   ·
    refine ⟨rfl, ?_⟩
    exact ⟨by omega, rfl⟩
   rintro a _ ⟨rfl, hI⟩ KL2 hKL2
   refine .forget (fr' := [(49, some (.int .i64 (a : Int))), (0, some _), (1, some _), (3, some _), (4, some _), (6, some _), (7, some _), (34, some _), (35, some _), (36, some _), (47, some _), (48, some _)]) ⟨rfl, rfl, rfl, rfl, rfl, rfl, rfl, rfl, rfl, rfl, rfl, rfl, trivial⟩ ?_
   obtain ⟨ha, hb1⟩ := hI
   refine .seq (fun K14 hK14 => ?_)
   refine .region (.m rfl rfl rfl (.cmp rfl rfl rfl) (.nil ?_))
   refine hK14 _ _ ?_
   refine .seq (fun K15 hK15 => ?_)
   refine .cond rfl (fun h50 => ?_) (fun h50 => ?_)
   ·
    simp only [sps] at h50
    have a1 := hs.src a (by omega)
    have a2 := hs.tgt a (by omega)
    have a3 := hP.2.2.ar a (by omega)
    refine .skip ?_
    refine hK15 _ _ ?_
    refine .seq (fun K16 hK16 => ?_)
    refine .block ?_
    refine .seq (fun K17 hK17 => ?_)
    refine .region (.m rfl rfl rfl (.move rfl) ?_)
    refine .m rfl rfl rfl (.idxN sl_22_A (by assumption) rfl rfl (by omega)) ?_
    refine .m rfl rfl rfl (.loadI on_2_A (by assumption) rfl (by omega)) ?_
    refine .m rfl rfl rfl (.assign rfl) (.m rfl rfl rfl (.assign rfl) (.nil ?_))
    refine hK17 _ _ ?_
    refine .seq (fun K18 hK18 => ?_)
    refine .regionD mixed_orders_B (.q 0 (.q 1 (.q 2 (.q 3 (.q 4 (.q 5 (.q 6 (.q 7 (.q 8 (.q 9 (.q 10 (.q 11 (.q 12 (.q 13 (.q 14 (.q 15 (.done))))))))))))))))) (by kernel_rfl) ?_
    refine .m rfl rfl rfl rfl (.refl _) (.load on_92_F rfl (by first | assumption | exact Mem.of_get k1 0 _ rfl)) ?_
    refine .m rfl rfl rfl rfl (.refl _) (.nilCheck rfl) (.m rfl rfl rfl rfl (.refl _) (.fieldAddr fo_32_1_B rfl) ?_)
    refine .m rfl rfl rfl rfl (.refl _) (.load on_22_B rfl (by assumption)) ?_
    refine .m rfl rfl rfl rfl (.refl _) (.move rfl) ?_
    refine .m rfl rfl rfl rfl (.refl _) (.idxN sl_22_A (by assumption) rfl rfl (by omega)) ?_
    refine .m rfl rfl rfl rfl (.refl _) (.loadI on_2_A (by assumption) rfl (by omega)) ?_
    refine .m rfl rfl rfl rfl (.refl _) (.load on_92_F rfl (by first | assumption | exact Mem.of_get k1 0 _ rfl)) ?_
    refine .m rfl rfl rfl rfl (.refl _) (.nilCheck rfl) (.m rfl rfl rfl rfl (.refl _) (.fieldAddr fo_32_2_B rfl) ?_)
    refine .m rfl rfl rfl rfl (.refl _) (.load on_22_B rfl (by assumption)) ?_
    refine .m rfl rfl rfl rfl (.refl _) (.move rfl) ?_
    refine .m rfl rfl rfl rfl (.refl _) (.idxN sl_22_A (by assumption) rfl rfl (by omega)) ?_
    refine .m rfl rfl rfl rfl (.refl _) (.loadI on_2_A (by assumption) rfl (by omega)) ?_
    refine .m rfl rfl rfl rfl (.refl _) (.assign rfl) (.m rfl rfl rfl rfl (.refl _) (.assign rfl) ?_)
    refine .done ?_
    refine hK18 _ _ ?_
    refine .seq (fun K19 hK19 => ?_)
    refine .regionD mixed_orders_B (.q 0 (.q 1 (.q 2 (.q 3 (.q 4 (.q 5 (.q 6 (.q 7 (.q 8 (.q 9 (.q 10 (.q 11 (.q 13 (.q 14 (.q 15 (.q 16 (.c 12 1 (.q 17 (.q 18 (.done)))))))))))))))))))) (by kernel_rfl) ?_
    refine .cut [(0, some _), (1, some _), (3, some _), (4, some _), (6, some _), (7, some _), (12, some _), (13, some _), (14, some _), (15, some _), (34, some _), (35, some _), (36, some _), (47, some _), (48, some _), (49, some _), (50, some _), (51, some _), (52, some _), (53, some _), (54, some _), (55, some _), (56, some _), (57, some _), (58, some _), (59, some _), (60, some _), (61, some _), (62, some _), (63, some _), (64, some _), (65, some _), (66, some _), (67, some _)] ⟨rfl, rfl, rfl, rfl, rfl, rfl, rfl, rfl, rfl, rfl, rfl, rfl, rfl, rfl, rfl, rfl, rfl, rfl, rfl, rfl, rfl, rfl, rfl, rfl, rfl, rfl, rfl, rfl, rfl, rfl, rfl, rfl, rfl, rfl, trivial⟩ (fun rest fr' H' => ∃ b' : Bool, Sub ((86, some (.bool b')) :: rest) fr' ∧ H6004 = H' ∧ b' = !((f.cnet w).okAt (co.take x ++ [(f.t.hom w (f.ob.getD x 0)).getD j 0]) x a)) ?_ ?_
    ·
     refine .m rfl rfl rfl rfl (.refl _) (.move rfl) (.m rfl rfl rfl rfl (.refl _) (.move rfl) (.m rfl rfl rfl rfl (.refl _) (.max2 rfl rfl) (.m rfl rfl rfl rfl (.refl _) (.move rfl) ?_)))
     refine .m rfl rfl rfl rfl (.refl _) (.cmp rfl rfl rfl) (.m rfl rfl rfl rfl (.refl _) (.move rfl) ?_)
     refine .split (fun h73 => ?_) (fun h73 => ?_)
     ·
      simp only [sps] at h73
      refine .mg rfl rfl rfl rfl rfl rfl (.refl _) (.load on_92_F rfl (by first | assumption | exact Mem.of_get k4 0 _ rfl)) ?_
      refine .mg rfl rfl rfl rfl rfl rfl (.refl _) (.load on_22_B rfl (by first | assumption | exact Mem.of_get k3 0 _ rfl)) ?_
      refine .mg rfl rfl rfl rfl rfl rfl (.refl _) (.move rfl) ?_
      refine .mg rfl rfl rfl rfl rfl rfl (.refl _) (.idx1 sl_22_A (by first | assumption | exact SlA.of_row at6004 (by first | rfl | (simp; done) | (simp <;> omega))) rfl rfl (by omega) (by omega)) ?_
      refine .mg rfl rfl rfl rfl rfl rfl (.refl _) (.loadI on_2_A (by first | assumption | exact Ints.of_get at6004) rfl (by omega)) ?_
      refine .mg rfl rfl rfl rfl rfl rfl (.refl _) (.move rfl) ?_
      refine .mg rfl rfl rfl rfl rfl rfl (.refl _) (.load on_22_B rfl (by first | assumption | exact Mem.of_get k3 0 _ rfl)) ?_
      refine .mg rfl rfl rfl rfl rfl rfl (.refl _) (.move rfl) ?_
      refine .mg rfl rfl rfl rfl rfl rfl (.refl _) (.idx1 sl_22_A (by first | assumption | exact SlA.of_row at6004 (by first | rfl | (simp; done) | (simp <;> omega))) rfl rfl (by omega) (by omega)) ?_
      refine .mg rfl rfl rfl rfl rfl rfl (.refl _) (.loadI on_2_A (by first | assumption | exact Ints.of_get at6004) rfl (by omega)) ?_
      have w1 := hv (f.s.src.getD a 0).toNat (by omega)
      have w2 := hv (f.s.tgt.getD a 0).toNat (by omega)
      have w3 := hTS.row ((co'.set x ((f.t.hom w (f.ob.getD x 0)).getD j 0)).getD (f.s.src.getD a 0).toNat 0).toNat (by omega)
      have hcc := then_c (c := f.t) (f := (co'.set x ((f.t.hom w (f.ob.getD x 0)).getD j 0)).getD (f.s.src.getD a 0).toNat 0) (k := f.ar.getD a 0) ftf w1.1 (by omega) a3.1 (by omega)
      refine .callQ1g rfl rfl rfl rfl rfl rfl rfl @Try.call62 rfl (hcc) (.refl _) ?_
      refine .mg rfl rfl rfl rfl rfl rfl (.refl _) (.cmp rfl rfl rfl) (.m rfl rfl rfl rfl (.refl _) (.pickT rfl rfl) ?_)
      refine .done ?_
      refine ⟨_, ⟨rfl, rfl, rfl, rfl, rfl, rfl, rfl, rfl, rfl, rfl, rfl, rfl, rfl, rfl, rfl, rfl, rfl, rfl, rfl, rfl, rfl, rfl, rfl, rfl, rfl, rfl, rfl, rfl, rfl, rfl, rfl, rfl, rfl, rfl, rfl, trivial⟩, rfl, ?_⟩
      rw [Net.okAt_2 (show max (f.s.src.getD a 0).toNat (f.s.tgt.getD a 0).toNat = x by omega)]; exact cnet_ne (hv (f.s.src.getD a 0).toNat (by omega)).2.2 (hv (f.s.tgt.getD a 0).toNat (by omega)).2.2
     simp only [sps] at h73
     refine .sg rfl rfl rfl rfl rfl rfl (.sg rfl rfl rfl rfl rfl rfl (.sg rfl rfl rfl rfl rfl rfl (.sg rfl rfl rfl rfl rfl rfl ?_)))
     refine .sg rfl rfl rfl rfl rfl rfl (.sg rfl rfl rfl rfl rfl rfl (.sg rfl rfl rfl rfl rfl rfl (.sg rfl rfl rfl rfl rfl rfl ?_)))
     refine .sg rfl rfl rfl rfl rfl rfl (.sg rfl rfl rfl rfl rfl rfl (.sgc rfl rfl rfl rfl rfl rfl (.sg rfl rfl rfl rfl rfl rfl ?_)))
     refine .m rfl rfl rfl rfl (.refl _) (.pickF rfl rfl) ?_
     refine .done ?_
     refine ⟨_, ⟨rfl, rfl, rfl, rfl, rfl, rfl, rfl, rfl, rfl, rfl, rfl, rfl, rfl, rfl, rfl, rfl, rfl, rfl, rfl, rfl, rfl, rfl, rfl, rfl, rfl, rfl, rfl, rfl, rfl, rfl, rfl, rfl, rfl, rfl, rfl, trivial⟩, rfl, ?_⟩
     rw [Net.okAt_1 (show ¬ max (f.s.src.getD a 0).toNat (f.s.tgt.getD a 0).toNat = x by omega)]; rfl
    rintro frJ11 _ ⟨b', hsubJ11, rfl, hJ11⟩
    refine hK19 _ _ ?_
    refine .forget hsubJ11 ?_
    refine .cond rfl (fun h86 => ?_) (fun h86 => ?_)
    ·
     have hG0 : chG (f.cnet w) (fun _ => true) r (co.take x) ((f.t.hom w (f.ob.getD x 0)).getD j 0) = [] := chG_bad (by rw [hpl, Net.ok_eq]; exact allN_early (k := a + 1) (by rw [allN_succ, hb1, bnot_T (hJ11.symm.trans h86)]; rfl) (show a + 1 ≤ f.ar.length by omega))
     obtain ⟨coX, hcX⟩ : ∃ z, z = co'.set x ((f.t.hom w (f.ob.getD x 0)).getD j 0) := ⟨_, rfl⟩
     obtain ⟨gX, hgX⟩ : ∃ z, z = gV := ⟨_, rfl⟩
     refine .exit ?_
     refine hK9 _ _ ?_
     refine .region ?_
     refine .m rfl rfl rfl (.add rfl rfl rfl (by omega) (by omega)) ?_
     refine .m rfl rfl rfl (.move rfl) (.nil ?_)
     refine hKL1 ((j + 1, gX, coX)) _ _ ?_ ?_ ⟨rfl, rfl, rfl, rfl, rfl, rfl, rfl, rfl, rfl, trivial⟩
     ·
      refine ⟨lst1, by first | assumption | (rw [hcX]; assumption), ?_⟩
      subst hcX
      subst hgX
      first
      | exact ⟨by omega, by rw [List.length_set]; exact hcl, by rw [take_set_lt]; exact hct, hgV, by omega, by rw [chP_no (by omega) hG0]; exact hH.st hAL c0.1 c0.2 (by omega) st6004, by rw [chP_no (by omega) hG0]; exact hfl⟩
      | exact ⟨by omega, hlc91, htk2, by omega, hl91, hA92, hfl2⟩
     (dsimp only; omega)
    have hok := bnot_f (hJ11.symm.trans h86)
    refine .skip ?_
    refine hK16 _ _ ?_
    refine .region ?_
    refine .m rfl rfl rfl (.add rfl rfl rfl (by omega) (by omega)) ?_
    refine .m rfl rfl rfl (.move rfl) (.nil ?_)
    refine hKL2 (a + 1) _ _ ?_ ?_ ⟨rfl, rfl, rfl, rfl, rfl, rfl, rfl, rfl, rfl, rfl, rfl, rfl, trivial⟩
    ·
     refine ⟨rfl, ?_⟩
     exact ⟨by omega, by rw [allN_succ, hb1, hok]; rfl⟩
    omega
   try simp only [sps] at h50
   refine .exit ?_
   refine hK12 _ _ ?_
   refine .seq (fun K20 hK20 => ?_)
   refine .region ?_
   refine .m rfl rfl rfl (.load on_81_Hh rfl (by first | assumption | exact Mem.of_get k7 0 _ rfl)) ?_
   refine .m rfl rfl rfl (.move rfl) ?_
   refine .m rfl rfl rfl (.add rfl rfl rfl (by omega) (by omega)) ?_
   obtain rfl : a = f.ar.length := by omega
   have hok1 : (f.cnet w).ok (co.take x).length (co.take x ++ [(f.t.hom w (f.ob.getD x 0)).getD j 0]) = true := by rw [hpl, Net.ok_eq]; exact hb1
   have hts : (co'.set x ((f.t.hom w (f.ob.getD x 0)).getD j 0)).take (x + 1) = co.take x ++ [(f.t.hom w (f.ob.getD x 0)).getD j 0] := by rw [take_set_succ (by omega), hct]
   have hG1 : chG (f.cnet w) (fun _ => true) r (co.take x) ((f.t.hom w (f.ob.getD x 0)).getD j 0) = searchL (f.cnet w).cand (f.cnet w).ok r ((co'.set x ((f.t.hom w (f.ob.getD x 0)).getD j 0)).take (x + 1)) := by rw [hts]; exact chG_yes rfl hok1
   have hrr : ∀ i, i < x + 1 → 0 ≤ (co'.set x ((f.t.hom w (f.ob.getD x 0)).getD j 0)).getD i 0 ∧ (co'.set x ((f.t.hom w (f.ob.getD x 0)).getD j 0)).getD i 0 < f.t.src.length := fun i hi => ⟨(hv i (by omega)).1, (hv i (by omega)).2.1⟩
   have hA7 := hH.st hAL c0.1 c0.2 (by omega) st6004
   refine .callV rfl rfl rfl rfl rfl @Try.call95 rfl ((ih (x + 1) gV (co'.set x ((f.t.hom w (f.ob.getD x 0)).getD j 0)) (fs ++ chP (f.cnet w) (fun _ => true) r (co.take x) (f.t.hom w (f.ob.getD x 0)) j) _ (by omega) hz ⟨k1, k2, k3, k4, k5, k6, k7⟩ at6004 hsl hrr hA7 hfl (by omega) (by omega) (by omega) (by omega))) ?_
   rintro _ H91 ⟨gF91, co91, rfl, hg91, hl91, st91, at91, hlc91, htk91, hA91⟩
   have nx_H91 := st91.nx
   replace hfo := hfo.st st91 (fun k hk ho => by simp only [out, and_true] at ho ⊢ <;> omega)
   replace lst1 := lst1.st st91 (fun k hk ho => by simp only [out, and_true] at ho ⊢ <;> omega)
   replace k1 := st91.same _ _ ⟨by omega, by omega, by omega, trivial⟩ k1
   replace k2 := st91.same _ _ ⟨by omega, by omega, by omega, trivial⟩ k2
   replace k3 := st91.same _ _ ⟨by omega, by omega, by omega, trivial⟩ k3
   replace k4 := st91.same _ _ ⟨by omega, by omega, by omega, trivial⟩ k4
   replace k5 := st91.same _ _ ⟨by omega, by omega, by omega, trivial⟩ k5
   replace k6 := st91.same _ _ ⟨by omega, by omega, by omega, trivial⟩ k6
   replace k7 := st91.same _ _ ⟨by omega, by omega, by omega, trivial⟩ k7
   replace at34 := st91.same _ _ ⟨by omega, by omega, by omega, trivial⟩ at34
   have lt_at91 := GHeap.lt_of_get at91
   clear hz hF2 fsf ftf c10f c11f j1f j2f hmf hif hmsf hisf hmtf hitf s0 s1 s2 s3 s4 u1 u2 u3 u4
   have hz := hle0.st hfo (fun k hk => ⟨by omega, by omega, by omega, trivial⟩)
   have hF2 := hf.mono hz
   obtain ⟨fsf, ftf, c10f, c11f, j1f, j2f⟩ := hF2.get
   have hmf : MemN _ _ _ _ _ := ⟨rfl, hF2.1⟩
   have hif := hF2.2
   have hmsf : MemN _ _ _ _ _ := ⟨rfl, fsf.1⟩
   have hisf := fsf.2
   have hmtf : MemN _ _ _ _ _ := ⟨rfl, ftf.1⟩
   have hitf := ftf.2
   obtain ⟨s0, s1, s2, s3, s4, u1, u2, u3, u4⟩ := fsf.get
   clear i34
   have i34 := Ints.of_get at34
   refine .m rfl rfl rfl (.not rfl) (.nil ?_)
   refine hK20 _ _ ?_
   refine .cond rfl (fun h92 => ?_) (fun h92 => ?_)
   ·
    have hbig := of_decide_eq_false (bnot_T h92)
    refine .seq (fun K21 hK21 => ?_)
    refine .region (.m rfl rfl rfl (.assign rfl) (.nil ?_))
    refine hK21 _ _ ?_
    refine .ret ?_
    refine hret _ _ ?_
    refine ⟨_, rfl, ?_⟩
    have hcd : (f.cnet w).cand (co.take x).length = (f.t.hom w (f.ob.getD x 0)).filter (fun _ => true) := by rw [hpl]; exact (List.filter_eq_self.2 (fun _ _ => rfl)).symm
    have hcs := chP_succ (n := f.cnet w) (al := fun _ => true) (r := r) (p := co.take x) (hs := (f.t.hom w (f.ob.getD x 0))) (j := j) (by omega)
    rw [← hG1] at hbig hA91
    have hbl : most + 1 ≤ (fs ++ chP (f.cnet w) (fun _ => true) r (co.take x) (f.t.hom w (f.ob.getD x 0)) (j + 1)).length := by rw [hcs, ← List.append_assoc, List.length_append]; omega
    obtain ⟨f1, f2⟩ := chP_full (M := most + 1) hcd (by omega) hbl
    refine ⟨gF91, co91, ?_, by omega, hl91, hfo, at91, hlc91, by rw [take_le_eq htk91 (by omega), take_set_lt]; exact hct, ?_⟩
    · rw [decide_eq_false (by omega)]
    · rw [f1, hcs, ← List.append_assoc]
      exact hA91
   have hsm := of_decide_eq_true (bnot_f h92)
   obtain ⟨coX, hcX⟩ : ∃ z, z = co91 := ⟨_, rfl⟩
   obtain ⟨gX, hgX⟩ : ∃ z, z = gF91 := ⟨_, rfl⟩
   have hcs := chP_succ (n := f.cnet w) (al := fun _ => true) (r := r) (p := co.take x) (hs := (f.t.hom w (f.ob.getD x 0))) (j := j) (by omega)
   have htk2 : co91.take x = co.take x := by rw [take_le_eq htk91 (by omega), take_set_lt]; exact hct
   rw [← hG1] at hsm hA91
   have hfl2 : (fs ++ chP (f.cnet w) (fun _ => true) r (co.take x) (f.t.hom w (f.ob.getD x 0)) (j + 1)).length ≤ most := by rw [hcs, ← List.append_assoc, List.length_append]; exact hsm
   have hA92 := hA91
   rw [List.append_assoc, ← hcs, List.take_of_length_le (by omega)] at hA92
   refine .skip ?_
   refine hK9 _ _ ?_
   refine .region ?_
   refine .m rfl rfl rfl (.add rfl rfl rfl (by omega) (by omega)) ?_
   refine .m rfl rfl rfl (.move rfl) (.nil ?_)
   refine hKL1 ((j + 1, gX, coX)) _ _ ?_ ?_ ⟨rfl, rfl, rfl, rfl, rfl, rfl, rfl, rfl, rfl, trivial⟩
   ·
    refine ⟨lst1, by first | assumption | (rw [hcX]; assumption), ?_⟩
    subst hcX
    subst hgX
    first
    | exact ⟨by omega, by rw [List.length_set]; exact hcl, by rw [take_set_lt]; exact hct, hgV, by omega, by rw [chP_no (by omega) hG0]; exact hH.st hAL c0.1 c0.2 (by omega) st6004, by rw [chP_no (by omega) hG0]; exact hfl⟩
    | exact ⟨by omega, hlc91, htk2, by omega, hl91, hA92, hfl2⟩
   (dsimp only; omega)
  try simp only [sps] at h37
  refine .exit ?_
  refine hK5 _ _ ?_
  refine .seq (fun K22 hK22 => ?_)
  refine .region (.m rfl rfl rfl (.assign rfl) (.nil ?_))
  refine hK22 _ _ ?_
  refine .ret ?_
  refine hret _ _ ?_
  refine ⟨_, rfl, ?_⟩
  have hpl : (co.take x).length = x := by rw [List.length_take]; omega
  have hcd : (f.cnet w).cand (co.take x).length = (f.t.hom w (f.ob.getD x 0)).filter (fun _ => true) := by rw [hpl]; exact (List.filter_eq_self.2 (fun _ _ => rfl)).symm
  have hj2 : j = (f.t.hom w (f.ob.getD x 0)).length := by omega
  have e9 := chP_all (r := r) hcd
  rw [← hj2] at e9
  refine ⟨gV, co', ?_, by omega, hgl, hfo, at_Lgc, hcl, hct, ?_⟩
  · rw [e9, decide_eq_true (by rw [← List.length_append]; exact hfl)]
  · rw [e9, List.take_of_length_le (by omega)]
    exact hAL
theorem legsC_c {f : Fun} {p : FunP} {w : Int} {A : Nat → List (List Int) → Nat → GHeap → Prop} {most e0 g1 b gf of gc fn : Nat} {cap : Array Value} {b1 b2 b3 b4 b5 b6 b7 : Nat} {H0 : GHeap} (hf : Fun.At H0 gf of f p) (hP : f.Is)
    (hH : Hears Try.prog fn cap e0 g1 most 2 A)
    (he0 : H0.next ≤ e0) (hg1 : H0.next ≤ g1) (hg2 : g1 < e0) (c0 : e0 ≤ gc ∧ gc < b) (c1 : e0 ≤ b1 ∧ b1 < b ∧ b1 ≠ gc) (c2 : e0 ≤ b2 ∧ b2 < b ∧ b2 ≠ gc) (c3 : e0 ≤ b3 ∧ b3 < b ∧ b3 ≠ gc) (c4 : e0 ≤ b4 ∧ b4 < b ∧ b4 ≠ gc) (c5 : e0 ≤ b5 ∧ b5 < b ∧ b5 ≠ gc) (c6 : e0 ≤ b6 ∧ b6 < b ∧ b6 ≠ gc) (c7 : e0 ≤ b7 ∧ b7 < b ∧ b7 ≠ gc) (r : Nat) : LgSpec f w A most e0 g1 b gf of gc fn cap b1 b2 b3 b4 b5 b6 b7 H0 r := by
  induction r with
  | zero => exact legs0_c hf hP hH he0 hg1 hg2 c0 c1 c2 c3 c4 c5 c6 c7
  | succ r ih => exact legsS_c hf hP hH he0 hg1 hg2 c0 c1 c2 c3 c4 c5 c6 c7 ih
set_option maxHeartbeats 4000000 in
theorem legs_c {f : Fun} {p : FunP} {w : Int} {A : Nat → List (List Int) → Nat → GHeap → Prop} {most g1 gF gf of fn : Nat} {cap : Array Value} {H0 H : GHeap} (hf0 : Fun.At H0 gf of f p) (hP : f.Is)
    (hH : Hears Try.prog fn cap H.next g1 most 2 A)
    (hle0 : H0.Le H) (hg1 : H0.next ≤ g1) (hg2 : g1 < H.next) (hF0 : H0.next ≤ gF) (hF : gF < H.next) {fs : List (List Int)} (hfs : fs.length ≤ most) (hA : ∀ b, A b fs gF H) :
    GCalls Try.prog 81 [.pointer (some ⟨gf, of, none⟩), .int .i64 w, .func (.func fn) #[] cap] H (fun v H' => ∃ gF' b, v = .bool (decide (fs.length + ((f.cnet w).sols f.ob.length).length ≤ most)) ∧ H.next ≤ b ∧ b ≤ H'.next ∧ (gF' = gF ∨ H.next ≤ gF') ∧ gF' < H'.next ∧ St [g1, gF] H H' ∧ A b ((fs ++ (f.cnet w).sols f.ob.length).take (most + 1)) gF' H') := by
  have hol := hP.2.2.ol
  have hob := hP.1.1.obj
  have hf := hf0.mono hle0
  refine GCalls.body (N := 26) (rs := [.tmp 6]) Try.func81 rfl rfl rfl rfl (fun Qx hret hend => ?_)
  refine .forget (fr' := [(0, some _), (1, some _), (2, some _)]) ⟨rfl, rfl, rfl, trivial⟩ ?_
  have hle := GHeap.Le.refl H
  have base_hf := hf
  obtain ⟨fsf, ftf, c10f, c11f, j1f, j2f⟩ := hf.get
  have hmf : MemN _ _ _ _ _ := ⟨rfl, hf.1⟩
  have hif := hf.2
  have hmsf : MemN _ _ _ _ _ := ⟨rfl, fsf.1⟩
  have hisf := fsf.2
  have hmtf : MemN _ _ _ _ _ := ⟨rfl, ftf.1⟩
  have hitf := ftf.2
  refine .seq (fun K1 hK1 => ?_)
  refine .region ?_
  refine .r rfl rfl rfl (.boxR rfl sz_67_Hh rfl) ?_
  rintro _ H3 ⟨g3, rfl, le3, ge3, at3⟩
  have nx_H3 := le3.1
  replace hle := hle.trans le3
  have lt_at3 := GHeap.lt_of_get at3
  replace hf := base_hf.mono hle
  clear fsf ftf c10f c11f j1f j2f hmf hif hmsf hisf hmtf hitf
  obtain ⟨fsf, ftf, c10f, c11f, j1f, j2f⟩ := hf.get
  have hmf : MemN _ _ _ _ _ := ⟨rfl, hf.1⟩
  have hif := hf.2
  have hmsf : MemN _ _ _ _ _ := ⟨rfl, fsf.1⟩
  have hisf := fsf.2
  have hmtf : MemN _ _ _ _ _ := ⟨rfl, ftf.1⟩
  have hitf := ftf.2
  refine .r rfl rfl rfl (.boxR rfl sz_2_E rfl) ?_
  rintro _ H4 ⟨g4, rfl, le4, ge4, at4⟩
  have nx_H4 := le4.1
  replace hle := hle.trans le4
  replace at3 := le4.2 _ _ at3
  have lt_at4 := GHeap.lt_of_get at4
  replace hf := base_hf.mono hle
  clear fsf ftf c10f c11f j1f j2f hmf hif hmsf hisf hmtf hitf
  obtain ⟨fsf, ftf, c10f, c11f, j1f, j2f⟩ := hf.get
  have hmf : MemN _ _ _ _ _ := ⟨rfl, hf.1⟩
  have hif := hf.2
  have hmsf : MemN _ _ _ _ _ := ⟨rfl, fsf.1⟩
  have hisf := fsf.2
  have hmtf : MemN _ _ _ _ _ := ⟨rfl, ftf.1⟩
  have hitf := ftf.2
  refine .r rfl rfl rfl (.boxR rfl sz_105_Hh rfl) ?_
  rintro _ H5 ⟨g5, rfl, le5, ge5, at5⟩
  have nx_H5 := le5.1
  replace hle := hle.trans le5
  replace at3 := le5.2 _ _ at3
  replace at4 := le5.2 _ _ at4
  have lt_at5 := GHeap.lt_of_get at5
  replace hf := base_hf.mono hle
  clear fsf ftf c10f c11f j1f j2f hmf hif hmsf hisf hmtf hitf
  obtain ⟨fsf, ftf, c10f, c11f, j1f, j2f⟩ := hf.get
  have hmf : MemN _ _ _ _ _ := ⟨rfl, hf.1⟩
  have hif := hf.2
  have hmsf : MemN _ _ _ _ _ := ⟨rfl, fsf.1⟩
  have hisf := fsf.2
  have hmtf : MemN _ _ _ _ _ := ⟨rfl, ftf.1⟩
  have hitf := ftf.2
  refine .m rfl rfl rfl (.assign rfl) (.nil ?_)
  refine hK1 _ _ ?_
  refine .seq (fun K2 hK2 => ?_)
  refine .regionD mixed_orders_B (.q 0 (.q 1 (.q 2 (.q 3 (.q 4 (.q 5 (.or (.c 6 1 (.c 7 1 (.c 8 1 (.c 9 1 (.done))))) (.c 7 1 (.c 6 1 (.c 8 1 (.c 9 1 (.done)))))))))))) (by kernel_rfl) ?_
  refine .cut [(0, some _), (1, some _), (2, some _), (3, some _), (4, some _), (5, some _), (6, some _)] ⟨rfl, rfl, rfl, rfl, rfl, rfl, rfl, trivial⟩ (fun rest fr' H' => ∃ g7 g8, Sub ((7, some (.pointer (some ⟨g7, 0, none⟩))) :: (8, some (.pointer (some ⟨g8, 0, none⟩))) :: rest) fr' ∧ H5.Le H' ∧ H5.next ≤ g7 ∧ H5.next ≤ g8 ∧ H'.get g7 = some (.row ([.pointer (some ⟨gf, of + 5, none⟩)]) 92 true) ∧ H'.get g8 = some (.row ([.pointer (some ⟨gf, of + 0, none⟩)]) 92 true) ∧ g7 ≠ g8) ?_ ?_
  ·
   have hf0 := GHeap.Le.refl H5
   refine .m rfl rfl rfl rfl (.refl _) (.load on_67_Hh rfl (by first | assumption | exact Mem.of_get at3 0 _ rfl)) ?_
   refine .m rfl rfl rfl rfl (.refl _) (.nilCheck rfl) (.m rfl rfl rfl rfl (.refl _) (.fieldAddr fo_34_1_E rfl) ?_)
   refine .m rfl rfl rfl rfl (.refl _) (.load on_67_Hh rfl (by first | assumption | exact Mem.of_get at3 0 _ rfl)) ?_
   refine .m rfl rfl rfl rfl (.refl _) (.nilCheck rfl) (.m rfl rfl rfl rfl (.refl _) (.fieldAddr fo_34_0_E rfl) ?_)
   refine .orI ?_ ?_
   ·
    refine .c1 rfl rfl rfl rfl (.allocR rfl ze_92_G rfl) ?_
    rintro _ H7x2 ⟨g7x2, rfl, le7x2, ge7x2, at7x2⟩
    have hbl := le7x2
    refine ⟨hbl, ?_⟩
    have nx_H7x2 := le7x2.1
    replace hle := hle.trans le7x2
    replace at3 := le7x2.2 _ _ at3
    replace at4 := le7x2.2 _ _ at4
    replace at5 := le7x2.2 _ _ at5
    have lt_at7x2 := GHeap.lt_of_get at7x2
    replace hf := base_hf.mono hle
    clear fsf ftf c10f c11f j1f j2f hmf hif hmsf hisf hmtf hitf
    obtain ⟨fsf, ftf, c10f, c11f, j1f, j2f⟩ := hf.get
    have hmf : MemN _ _ _ _ _ := ⟨rfl, hf.1⟩
    have hif := hf.2
    have hmsf : MemN _ _ _ _ _ := ⟨rfl, fsf.1⟩
    have hisf := fsf.2
    have hmtf : MemN _ _ _ _ _ := ⟨rfl, ftf.1⟩
    have hitf := ftf.2
    replace hf0 := hf0.trans le7x2
    refine .c1 rfl rfl rfl rfl (.allocR rfl ze_92_G rfl) ?_
    rintro _ H8x2 ⟨g8x2, rfl, le8x2, ge8x2, at8x2⟩
    replace hbl := hbl.trans le8x2
    refine ⟨hbl, ?_⟩
    have nx_H8x2 := le8x2.1
    replace hle := hle.trans le8x2
    replace at3 := le8x2.2 _ _ at3
    replace at4 := le8x2.2 _ _ at4
    replace at5 := le8x2.2 _ _ at5
    replace at7x2 := le8x2.2 _ _ at7x2
    have lt_at8x2 := GHeap.lt_of_get at8x2
    replace hf := base_hf.mono hle
    clear fsf ftf c10f c11f j1f j2f hmf hif hmsf hisf hmtf hitf
    obtain ⟨fsf, ftf, c10f, c11f, j1f, j2f⟩ := hf.get
    have hmf : MemN _ _ _ _ _ := ⟨rfl, hf.1⟩
    have hif := hf.2
    have hmsf : MemN _ _ _ _ _ := ⟨rfl, fsf.1⟩
    have hisf := fsf.2
    have hmtf : MemN _ _ _ _ _ := ⟨rfl, ftf.1⟩
    have hitf := ftf.2
    replace hf0 := hf0.trans le8x2
    refine .r1 rfl rfl rfl (.storeR rfl sz_92_Hh rfl rfl rfl (by assumption) (by first | exact Nat.le_of_ble_eq_true rfl | (simp; done) | (simp <;> omega))) ?_
    rintro _ H1008 ⟨rfl, st1008, at1008⟩
    replace hbl := hbl.st st1008 (fun k hk => ⟨by omega, trivial⟩)
    refine ⟨hbl, ?_⟩
    have nx_H1008 := st1008.nx
    replace hle := hle.st st1008 (fun k hk => ⟨by omega, trivial⟩)
    replace at3 := st1008.same _ _ ⟨by omega, trivial⟩ at3
    replace at4 := st1008.same _ _ ⟨by omega, trivial⟩ at4
    replace at5 := st1008.same _ _ ⟨by omega, trivial⟩ at5
    replace at8x2 := st1008.same _ _ ⟨by omega, trivial⟩ at8x2
    have lt_at1008 := GHeap.lt_of_get at1008
    replace hf := base_hf.mono hle
    clear fsf ftf c10f c11f j1f j2f hmf hif hmsf hisf hmtf hitf
    obtain ⟨fsf, ftf, c10f, c11f, j1f, j2f⟩ := hf.get
    have hmf : MemN _ _ _ _ _ := ⟨rfl, hf.1⟩
    have hif := hf.2
    have hmsf : MemN _ _ _ _ _ := ⟨rfl, fsf.1⟩
    have hisf := fsf.2
    have hmtf : MemN _ _ _ _ _ := ⟨rfl, ftf.1⟩
    have hitf := ftf.2
    try simp only [Nat.zero_add, List.set_cons_succ, List.set_cons_zero] at at1008
    replace hf0 := hf0.st st1008 (fun k hk => ⟨by omega, trivial⟩)
    refine .r1 rfl rfl rfl (.storeR rfl sz_92_Hh rfl rfl rfl (by assumption) (by first | exact Nat.le_of_ble_eq_true rfl | (simp; done) | (simp <;> omega))) ?_
    rintro _ H1009 ⟨rfl, st1009, at1009⟩
    replace hbl := hbl.st st1009 (fun k hk => ⟨by omega, trivial⟩)
    refine ⟨hbl, ?_⟩
    have nx_H1009 := st1009.nx
    replace hle := hle.st st1009 (fun k hk => ⟨by omega, trivial⟩)
    replace at3 := st1009.same _ _ ⟨by omega, trivial⟩ at3
    replace at4 := st1009.same _ _ ⟨by omega, trivial⟩ at4
    replace at5 := st1009.same _ _ ⟨by omega, trivial⟩ at5
    replace at1008 := st1009.same _ _ ⟨by omega, trivial⟩ at1008
    have lt_at1009 := GHeap.lt_of_get at1009
    replace hf := base_hf.mono hle
    clear fsf ftf c10f c11f j1f j2f hmf hif hmsf hisf hmtf hitf
    obtain ⟨fsf, ftf, c10f, c11f, j1f, j2f⟩ := hf.get
    have hmf : MemN _ _ _ _ _ := ⟨rfl, hf.1⟩
    have hif := hf.2
    have hmsf : MemN _ _ _ _ _ := ⟨rfl, fsf.1⟩
    have hisf := fsf.2
    have hmtf : MemN _ _ _ _ _ := ⟨rfl, ftf.1⟩
    have hitf := ftf.2
    try simp only [Nat.zero_add, List.set_cons_succ, List.set_cons_zero] at at1009
    replace hf0 := hf0.st st1009 (fun k hk => ⟨by omega, trivial⟩)
    refine .done ?_
    exact ⟨g7x2, g8x2, ⟨rfl, rfl, rfl, rfl, rfl, rfl, rfl, rfl, rfl, trivial⟩, hf0, by omega, by omega, by first | assumption | simpa using at1008, by first | assumption | simpa using at1009, by omega⟩
   refine .c1 rfl rfl rfl rfl (.allocR rfl ze_92_G rfl) ?_
   rintro _ H8x3 ⟨g8x3, rfl, le8x3, ge8x3, at8x3⟩
   have hbl := le8x3
   refine ⟨hbl, ?_⟩
   have nx_H8x3 := le8x3.1
   replace hle := hle.trans le8x3
   replace at3 := le8x3.2 _ _ at3
   replace at4 := le8x3.2 _ _ at4
   replace at5 := le8x3.2 _ _ at5
   have lt_at8x3 := GHeap.lt_of_get at8x3
   replace hf := base_hf.mono hle
   clear fsf ftf c10f c11f j1f j2f hmf hif hmsf hisf hmtf hitf
   obtain ⟨fsf, ftf, c10f, c11f, j1f, j2f⟩ := hf.get
   have hmf : MemN _ _ _ _ _ := ⟨rfl, hf.1⟩
   have hif := hf.2
   have hmsf : MemN _ _ _ _ _ := ⟨rfl, fsf.1⟩
   have hisf := fsf.2
   have hmtf : MemN _ _ _ _ _ := ⟨rfl, ftf.1⟩
   have hitf := ftf.2
   replace hf0 := hf0.trans le8x3
   refine .c1 rfl rfl rfl rfl (.allocR rfl ze_92_G rfl) ?_
   rintro _ H7x3 ⟨g7x3, rfl, le7x3, ge7x3, at7x3⟩
   replace hbl := hbl.trans le7x3
   refine ⟨hbl, ?_⟩
   have nx_H7x3 := le7x3.1
   replace hle := hle.trans le7x3
   replace at3 := le7x3.2 _ _ at3
   replace at4 := le7x3.2 _ _ at4
   replace at5 := le7x3.2 _ _ at5
   replace at8x3 := le7x3.2 _ _ at8x3
   have lt_at7x3 := GHeap.lt_of_get at7x3
   replace hf := base_hf.mono hle
   clear fsf ftf c10f c11f j1f j2f hmf hif hmsf hisf hmtf hitf
   obtain ⟨fsf, ftf, c10f, c11f, j1f, j2f⟩ := hf.get
   have hmf : MemN _ _ _ _ _ := ⟨rfl, hf.1⟩
   have hif := hf.2
   have hmsf : MemN _ _ _ _ _ := ⟨rfl, fsf.1⟩
   have hisf := fsf.2
   have hmtf : MemN _ _ _ _ _ := ⟨rfl, ftf.1⟩
   have hitf := ftf.2
   replace hf0 := hf0.trans le7x3
   refine .r1 rfl rfl rfl (.storeR rfl sz_92_Hh rfl rfl rfl (by assumption) (by first | exact Nat.le_of_ble_eq_true rfl | (simp; done) | (simp <;> omega))) ?_
   rintro _ H1008x2 ⟨rfl, st1008x2, at1008x2⟩
   replace hbl := hbl.st st1008x2 (fun k hk => ⟨by omega, trivial⟩)
   refine ⟨hbl, ?_⟩
   have nx_H1008x2 := st1008x2.nx
   replace hle := hle.st st1008x2 (fun k hk => ⟨by omega, trivial⟩)
   replace at3 := st1008x2.same _ _ ⟨by omega, trivial⟩ at3
   replace at4 := st1008x2.same _ _ ⟨by omega, trivial⟩ at4
   replace at5 := st1008x2.same _ _ ⟨by omega, trivial⟩ at5
   replace at8x3 := st1008x2.same _ _ ⟨by omega, trivial⟩ at8x3
   have lt_at1008x2 := GHeap.lt_of_get at1008x2
   replace hf := base_hf.mono hle
   clear fsf ftf c10f c11f j1f j2f hmf hif hmsf hisf hmtf hitf
   obtain ⟨fsf, ftf, c10f, c11f, j1f, j2f⟩ := hf.get
   have hmf : MemN _ _ _ _ _ := ⟨rfl, hf.1⟩
   have hif := hf.2
   have hmsf : MemN _ _ _ _ _ := ⟨rfl, fsf.1⟩
   have hisf := fsf.2
   have hmtf : MemN _ _ _ _ _ := ⟨rfl, ftf.1⟩
   have hitf := ftf.2
   try simp only [Nat.zero_add, List.set_cons_succ, List.set_cons_zero] at at1008x2
   replace hf0 := hf0.st st1008x2 (fun k hk => ⟨by omega, trivial⟩)
   refine .r1 rfl rfl rfl (.storeR rfl sz_92_Hh rfl rfl rfl (by assumption) (by first | exact Nat.le_of_ble_eq_true rfl | (simp; done) | (simp <;> omega))) ?_
   rintro _ H1009x2 ⟨rfl, st1009x2, at1009x2⟩
   replace hbl := hbl.st st1009x2 (fun k hk => ⟨by omega, trivial⟩)
   refine ⟨hbl, ?_⟩
   have nx_H1009x2 := st1009x2.nx
   replace hle := hle.st st1009x2 (fun k hk => ⟨by omega, trivial⟩)
   replace at3 := st1009x2.same _ _ ⟨by omega, trivial⟩ at3
   replace at4 := st1009x2.same _ _ ⟨by omega, trivial⟩ at4
   replace at5 := st1009x2.same _ _ ⟨by omega, trivial⟩ at5
   replace at1008x2 := st1009x2.same _ _ ⟨by omega, trivial⟩ at1008x2
   have lt_at1009x2 := GHeap.lt_of_get at1009x2
   replace hf := base_hf.mono hle
   clear fsf ftf c10f c11f j1f j2f hmf hif hmsf hisf hmtf hitf
   obtain ⟨fsf, ftf, c10f, c11f, j1f, j2f⟩ := hf.get
   have hmf : MemN _ _ _ _ _ := ⟨rfl, hf.1⟩
   have hif := hf.2
   have hmsf : MemN _ _ _ _ _ := ⟨rfl, fsf.1⟩
   have hisf := fsf.2
   have hmtf : MemN _ _ _ _ _ := ⟨rfl, ftf.1⟩
   have hitf := ftf.2
   try simp only [Nat.zero_add, List.set_cons_succ, List.set_cons_zero] at at1009x2
   replace hf0 := hf0.st st1009x2 (fun k hk => ⟨by omega, trivial⟩)
   refine .done ?_
   exact ⟨g7x3, g8x3, ⟨rfl, rfl, rfl, rfl, rfl, rfl, rfl, rfl, rfl, trivial⟩, hf0, by omega, by omega, by first | assumption | simpa using at1008x2, by first | assumption | simpa using at1009x2, by omega⟩
  rintro fr8 H8 ⟨g7, g8, hsub8, le8, ge7, ge8, at7, at8, ne8_0⟩
  have nx_H8 := le8.1
  replace hle := hle.trans le8
  replace at3 := le8.2 _ _ at3
  replace at4 := le8.2 _ _ at4
  replace at5 := le8.2 _ _ at5
  have lt_at7 := GHeap.lt_of_get at7
  have lt_at8 := GHeap.lt_of_get at8
  replace hf := base_hf.mono hle
  clear fsf ftf c10f c11f j1f j2f hmf hif hmsf hisf hmtf hitf
  obtain ⟨fsf, ftf, c10f, c11f, j1f, j2f⟩ := hf.get
  have hmf : MemN _ _ _ _ _ := ⟨rfl, hf.1⟩
  have hif := hf.2
  have hmsf : MemN _ _ _ _ _ := ⟨rfl, fsf.1⟩
  have hisf := fsf.2
  have hmtf : MemN _ _ _ _ _ := ⟨rfl, ftf.1⟩
  have hitf := ftf.2
  refine hK2 _ _ ?_
  refine .forget hsub8 ?_
  refine .seq (fun K3 hK3 => ?_)
  refine .region ?_
  refine .m rfl rfl rfl (.load on_67_Hh rfl (by first | assumption | exact Mem.of_get at3 0 _ rfl)) ?_
  refine .m rfl rfl rfl (.nilCheck rfl) (.m rfl rfl rfl (.fieldAddr fo_34_2_E rfl) ?_)
  refine .m rfl rfl rfl (.load on_22_B rfl (by assumption)) ?_
  refine .m rfl rfl rfl (.len sl_22_A rfl) ?_
  refine .r rfl rfl rfl (.makeIN rfl sl_22_A ze_2_E by_2_E rfl rfl (by omega) (by omega) (by omega)) ?_
  rintro _ H22 ⟨g22, rfl, le22, ge22, at22⟩
  have nx_H22 := le22.1
  replace hle := hle.trans le22
  replace at3 := le22.2 _ _ at3
  replace at4 := le22.2 _ _ at4
  replace at5 := le22.2 _ _ at5
  replace at7 := le22.2 _ _ at7
  replace at8 := le22.2 _ _ at8
  have lt_at22 := GHeap.lt_of_get at22
  replace hf := base_hf.mono hle
  clear fsf ftf c10f c11f j1f j2f hmf hif hmsf hisf hmtf hitf
  obtain ⟨fsf, ftf, c10f, c11f, j1f, j2f⟩ := hf.get
  have hmf : MemN _ _ _ _ _ := ⟨rfl, hf.1⟩
  have hif := hf.2
  have hmsf : MemN _ _ _ _ _ := ⟨rfl, fsf.1⟩
  have hisf := fsf.2
  have hmtf : MemN _ _ _ _ _ := ⟨rfl, ftf.1⟩
  have hitf := ftf.2
  refine .r rfl rfl rfl (.allocR rfl ze_22_E rfl) ?_
  rintro _ H9 ⟨g9, rfl, le9, ge9, at9⟩
  have nx_H9 := le9.1
  replace hle := hle.trans le9
  replace at3 := le9.2 _ _ at3
  replace at4 := le9.2 _ _ at4
  replace at5 := le9.2 _ _ at5
  replace at7 := le9.2 _ _ at7
  replace at8 := le9.2 _ _ at8
  replace at22 := le9.2 _ _ at22
  have lt_at9 := GHeap.lt_of_get at9
  replace hf := base_hf.mono hle
  clear fsf ftf c10f c11f j1f j2f hmf hif hmsf hisf hmtf hitf
  obtain ⟨fsf, ftf, c10f, c11f, j1f, j2f⟩ := hf.get
  have hmf : MemN _ _ _ _ _ := ⟨rfl, hf.1⟩
  have hif := hf.2
  have hmsf : MemN _ _ _ _ _ := ⟨rfl, fsf.1⟩
  have hisf := fsf.2
  have hmtf : MemN _ _ _ _ _ := ⟨rfl, ftf.1⟩
  have hitf := ftf.2
  refine .r0 rfl rfl (.storeR rfl sz_22_E rfl rfl rfl (by assumption) (by first | exact Nat.le_of_ble_eq_true rfl | (simp; done) | (simp <;> omega))) ?_
  rintro _ H2007 ⟨rfl, st2007, at2007⟩
  have nx_H2007 := st2007.nx
  replace hle := hle.st st2007 (fun k hk => ⟨by omega, trivial⟩)
  replace at3 := st2007.same _ _ ⟨by omega, trivial⟩ at3
  replace at4 := st2007.same _ _ ⟨by omega, trivial⟩ at4
  replace at5 := st2007.same _ _ ⟨by omega, trivial⟩ at5
  replace at7 := st2007.same _ _ ⟨by omega, trivial⟩ at7
  replace at8 := st2007.same _ _ ⟨by omega, trivial⟩ at8
  replace at22 := st2007.same _ _ ⟨by omega, trivial⟩ at22
  have lt_at2007 := GHeap.lt_of_get at2007
  replace hf := base_hf.mono hle
  clear fsf ftf c10f c11f j1f j2f hmf hif hmsf hisf hmtf hitf
  obtain ⟨fsf, ftf, c10f, c11f, j1f, j2f⟩ := hf.get
  have hmf : MemN _ _ _ _ _ := ⟨rfl, hf.1⟩
  have hif := hf.2
  have hmsf : MemN _ _ _ _ _ := ⟨rfl, fsf.1⟩
  have hisf := fsf.2
  have hmtf : MemN _ _ _ _ _ := ⟨rfl, ftf.1⟩
  have hitf := ftf.2
  try simp only [Nat.zero_add, List.set_cons_succ, List.set_cons_zero] at at2007
  refine .nil ?_
  refine hK3 _ _ ?_
  refine .seq (fun K4 hK4 => ?_)
  refine .region ?_
  refine .r rfl rfl rfl (.allocR rfl ze_81_Hh rfl) ?_
  rintro _ H10 ⟨g10, rfl, le10, ge10, at10⟩
  have nx_H10 := le10.1
  replace hle := hle.trans le10
  replace at3 := le10.2 _ _ at3
  replace at4 := le10.2 _ _ at4
  replace at5 := le10.2 _ _ at5
  replace at7 := le10.2 _ _ at7
  replace at8 := le10.2 _ _ at8
  replace at22 := le10.2 _ _ at22
  replace at2007 := le10.2 _ _ at2007
  have lt_at10 := GHeap.lt_of_get at10
  replace hf := base_hf.mono hle
  clear fsf ftf c10f c11f j1f j2f hmf hif hmsf hisf hmtf hitf
  obtain ⟨fsf, ftf, c10f, c11f, j1f, j2f⟩ := hf.get
  have hmf : MemN _ _ _ _ _ := ⟨rfl, hf.1⟩
  have hif := hf.2
  have hmsf : MemN _ _ _ _ _ := ⟨rfl, fsf.1⟩
  have hisf := fsf.2
  have hmtf : MemN _ _ _ _ _ := ⟨rfl, ftf.1⟩
  have hitf := ftf.2
  refine .nil ?_
  refine hK4 _ _ ?_
  refine .seq (fun K5 hK5 => ?_)
  refine .region (.m rfl rfl rfl (.makeFunc rfl) ?_)
  refine .r0 rfl rfl (.storeR rfl sz_81_Hh rfl rfl rfl (by assumption) (by first | exact Nat.le_of_ble_eq_true rfl | (simp; done) | (simp <;> omega))) ?_
  rintro _ H4001 ⟨rfl, st4001, at4001⟩
  have nx_H4001 := st4001.nx
  replace hle := hle.st st4001 (fun k hk => ⟨by omega, trivial⟩)
  replace at3 := st4001.same _ _ ⟨by omega, trivial⟩ at3
  replace at4 := st4001.same _ _ ⟨by omega, trivial⟩ at4
  replace at5 := st4001.same _ _ ⟨by omega, trivial⟩ at5
  replace at7 := st4001.same _ _ ⟨by omega, trivial⟩ at7
  replace at8 := st4001.same _ _ ⟨by omega, trivial⟩ at8
  replace at22 := st4001.same _ _ ⟨by omega, trivial⟩ at22
  replace at2007 := st4001.same _ _ ⟨by omega, trivial⟩ at2007
  have lt_at4001 := GHeap.lt_of_get at4001
  replace hf := base_hf.mono hle
  clear fsf ftf c10f c11f j1f j2f hmf hif hmsf hisf hmtf hitf
  obtain ⟨fsf, ftf, c10f, c11f, j1f, j2f⟩ := hf.get
  have hmf : MemN _ _ _ _ _ := ⟨rfl, hf.1⟩
  have hif := hf.2
  have hmsf : MemN _ _ _ _ _ := ⟨rfl, fsf.1⟩
  have hisf := fsf.2
  have hmtf : MemN _ _ _ _ _ := ⟨rfl, ftf.1⟩
  have hitf := ftf.2
  try simp only [Nat.zero_add, List.set_cons_succ, List.set_cons_zero] at at4001
  refine .nil ?_
  refine hK5 _ _ ?_
  refine .seq (fun K6 hK6 => ?_)
  refine .region ?_
  refine .m rfl rfl rfl (.load on_81_Hh rfl (by first | assumption | exact Mem.of_get at4001 0 _ rfl)) ?_
  refine .callV rfl rfl rfl rfl rfl @Try.call95 rfl ((legsC_c (b := H4001.next) (gc := g22) (b1 := g8) (b2 := g5) (b3 := g9) (b4 := g7) (b5 := g4) (b6 := g3) (b7 := g10) (e0 := H.next) hf0 hP hH hle0.1 hg1 hg2 (by omega) (by omega) (by omega) (by omega) (by omega) (by omega) (by omega) (by omega) f.ob.length 0 gF (List.replicate f.ob.length 0) fs H4001 (by omega) (hle0.trans hle) ⟨at8, at5, at2007, at7, at4, at3, at4001⟩ at22 (by simp) (fun i hi => by omega) (hH.le (hA _) hle) hfs (by omega) hF0 (.inl hF) (Nat.le_refl _))) ?_
  rintro _ H25 ⟨gF25, co25, rfl, hg25, hl25, st25, at25, hlc25, htk25, hA25⟩
  refine .m rfl rfl rfl (.assign rfl) (.nil ?_)
  refine hK6 _ _ ?_
  refine .ret ?_
  refine hret _ _ ?_
  refine ⟨_, rfl, ?_⟩
  exact ⟨gF25, H4001.next, rfl, by omega, st25.nx, by omega, hl25, (St.of_le (bs := [g1, gF]) hle).st st25 (fun k hk ho => ⟨by omega, ho.1, ho.2.1, trivial⟩), hA25⟩
end Go.Proofs.Ytpmjlhbglcaokaa
