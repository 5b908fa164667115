/- The choices of a search for transformations. No condition but those of each statement. -/
import Derived.Test.YtnohkokoimmclaaZ9
namespace Go.Proofs.Ytnohkokoimmclaa
open Go Go.GL Go.RowKit Go.Proofs
theorem fo_89_0_Ha : fieldOff Try.prog 89 0 = some 0 := by kernel_rfl
theorem fo_89_1_Ha : fieldOff Try.prog 89 1 = some 12 := by kernel_rfl
theorem fo_89_2_Ha : fieldOff Try.prog 89 2 = some 24 := by kernel_rfl
theorem on_4_Ha : oneT Try.prog 4 = true := by kernel_rfl
theorem l07SquareP_c {f k : Fun} {p q : FunP} {iso : Bool} {d : Option Addr} {co : List Int} {n a : Nat} {H : GHeap} (hin : f.In H p := by assumption) (hin' : k.In H q := by assumption) (hd : SlA H d n (fun i => .int .i64 (co.getD i 0))) (hP : f.Par k) (hn : n = f.ob.length) (ha : a < f.ar.length := by omega)
    (h1 : 0 ≤ co.getD (f.s.src.getD a 0).toNat 0 ∧ co.getD (f.s.src.getD a 0).toNat 0 < f.t.src.length) (h2 : 0 ≤ co.getD (f.s.tgt.getD a 0).toNat 0 ∧ co.getD (f.s.tgt.getD a 0).toNat 0 < f.t.src.length) :
    GCalls Try.prog 102 [.agg (f.cells p).toArray, .agg (k.cells q).toArray, .slice d n n, .int .i64 (a : Int)] H (Ret (.bool ((f.net k iso).sq a (co.getD (f.s.src.getD a 0).toNat 0) (co.getD (f.s.tgt.getD a 0).toNat 0))) H) := by
  refine GCalls.ret rfl ?_
  have hs := hP.fi.1.1
  have ht := hP.fi.2.1.1
  have hf := hP.fi.2.2
  have hf' := hP.gi.2.2
  have e1 := hf.al
  have e2 := hf'.al
  have e3 := hP.ps
  have e4 := hP.pt
  have e5 := hf.ol
  rw [← e3] at e2
  have q1 := hs.src a (by omega)
  have q2 := hs.tgt a (by have := hs.tl; omega)
  have q3 := hf.ar a (by omega)
  have q4 := hf'.ar a (by omega)
  rw [← e4] at q4
  have q7 := hs.tl
  have q8 := ht.cl
  have q9 := ht.row (f.ar.getD a 0).toNat (by omega)
  have q10 := ht.row (co.getD (f.s.src.getD a 0).toNat 0).toNat (by omega)
  have q11 := hs.n40
  refine GCalls.body (N := 54) (rs := [.tmp 8]) Try.func102 rfl rfl rfl rfl (fun Qx hret hend => ?_)
  refine .forget (fr' := [(0, some _), (1, some _), (2, some _), (3, some _)]) ⟨rfl, rfl, rfl, rfl, trivial⟩ ?_
  have hle := GHeap.Le.refl H
  have base_hin := hin
  have base_hin' := hin'
  have base_hd := hd
  refine .seq (fun K1 hK1 => ?_)
  refine .region ?_
  refine .r rfl rfl rfl (.boxR rfl sz_33_E rfl) ?_
  rintro _ H4 ⟨g4, rfl, le4, ge4, at4⟩
  have nx_H4 := le4.1
  replace hle := hle.trans le4
  have lt_at4 := GHeap.lt_of_get at4
  replace hin := base_hin.mono hle
  replace hin' := base_hin'.mono hle
  replace hd := base_hd.mono hle
  have hb4 : Fun.At _ g4 0 f p := ⟨Mem.of_get at4, hin⟩
  obtain ⟨fs4, ft4, c104, c114, j14, j24⟩ := hb4.get
  have hm4 : MemN _ _ _ _ _ := ⟨rfl, hb4.1⟩
  have hi4 := hb4.2
  have hms4 : MemN _ _ _ _ _ := ⟨rfl, fs4.1⟩
  have his4 := fs4.2
  have hmt4 : MemN _ _ _ _ _ := ⟨rfl, ft4.1⟩
  have hit4 := ft4.2
  refine .r rfl rfl rfl (.boxR rfl sz_33_E rfl) ?_
  rintro _ H5 ⟨g5, rfl, le5, ge5, at5⟩
  have nx_H5 := le5.1
  replace hle := hle.trans le5
  replace at4 := le5.2 _ _ at4
  have lt_at5 := GHeap.lt_of_get at5
  replace hin := base_hin.mono hle
  replace hin' := base_hin'.mono hle
  replace hd := base_hd.mono hle
  clear hb4 fs4 ft4 c104 c114 j14 j24 hm4 hi4 hms4 his4 hmt4 hit4
  have hb4 : Fun.At _ g4 0 f p := ⟨Mem.of_get at4, hin⟩
  obtain ⟨fs4, ft4, c104, c114, j14, j24⟩ := hb4.get
  have hm4 : MemN _ _ _ _ _ := ⟨rfl, hb4.1⟩
  have hi4 := hb4.2
  have hms4 : MemN _ _ _ _ _ := ⟨rfl, fs4.1⟩
  have his4 := fs4.2
  have hmt4 : MemN _ _ _ _ _ := ⟨rfl, ft4.1⟩
  have hit4 := ft4.2
  have hb5 : Fun.At _ g5 0 k q := ⟨Mem.of_get at5, hin'⟩
  obtain ⟨fs5, ft5, c105, c115, j15, j25⟩ := hb5.get
  have hm5 : MemN _ _ _ _ _ := ⟨rfl, hb5.1⟩
  have hi5 := hb5.2
  have hms5 : MemN _ _ _ _ _ := ⟨rfl, fs5.1⟩
  have his5 := fs5.2
  have hmt5 : MemN _ _ _ _ _ := ⟨rfl, ft5.1⟩
  have hit5 := ft5.2
  refine .m rfl rfl rfl (.assign rfl) ?_
  refine .nil ?_
  refine hK1 _ _ ?_
  refine .seq (fun K2 hK2 => ?_)
  refine .regionD mixed_orders_B (.q 0 (.q 1 (.q 2 (.q 3 (.or (.c 4 1 (.c 5 1 (.c 6 1 (.c 7 0 .done)))) (.c 5 1 (.c 4 1 (.c 6 1 (.c 7 0 .done))))))))) (by kernel_rfl) ?_
  refine .m rfl rfl rfl rfl (.refl _) (.fieldAddr fo_33_0_E rfl) ?_
  refine .m rfl rfl rfl rfl (.refl _) (.loadM ag_31_D rfl (by assumption)) ?_
  refine .m rfl rfl rfl rfl (.refl _) (.fieldAddr fo_33_1_E rfl) ?_
  refine .m rfl rfl rfl rfl (.refl _) (.loadM ag_31_D rfl (by assumption)) ?_
  refine .two [(2, some _), (3, some _), (4, some _), (5, some _)] rfl rfl rfl rfl rfl rfl rfl rfl rfl rfl rfl rfl rfl rfl rfl rfl rfl rfl ze_31_E rfl sz_31_D rfl rfl rfl rfl rfl (by rfl) (by rfl) rfl rfl rfl rfl rfl ⟨rfl, rfl, rfl, rfl, trivial⟩ rfl rfl (.refl _) ?_
  intro g9 g10 H10 fr10 le10 ge9 ge10 at9 at10 hsub10
  have nx_H10 := le10.1
  replace hle := hle.trans le10
  replace at4 := le10.2 _ _ at4
  replace at5 := le10.2 _ _ at5
  have lt_at9 := GHeap.lt_of_get at9
  have lt_at10 := GHeap.lt_of_get at10
  replace hin := base_hin.mono hle
  replace hin' := base_hin'.mono hle
  replace hd := base_hd.mono hle
  clear hb4 fs4 ft4 c104 c114 j14 j24 hm4 hi4 hms4 his4 hmt4 hit4
  have hb4 : Fun.At _ g4 0 f p := ⟨Mem.of_get at4, hin⟩
  obtain ⟨fs4, ft4, c104, c114, j14, j24⟩ := hb4.get
  have hm4 : MemN _ _ _ _ _ := ⟨rfl, hb4.1⟩
  have hi4 := hb4.2
  have hms4 : MemN _ _ _ _ _ := ⟨rfl, fs4.1⟩
  have his4 := fs4.2
  have hmt4 : MemN _ _ _ _ _ := ⟨rfl, ft4.1⟩
  have hit4 := ft4.2
  clear hb5 fs5 ft5 c105 c115 j15 j25 hm5 hi5 hms5 his5 hmt5 hit5
  have hb5 : Fun.At _ g5 0 k q := ⟨Mem.of_get at5, hin'⟩
  obtain ⟨fs5, ft5, c105, c115, j15, j25⟩ := hb5.get
  have hm5 : MemN _ _ _ _ _ := ⟨rfl, hb5.1⟩
  have hi5 := hb5.2
  have hms5 : MemN _ _ _ _ _ := ⟨rfl, fs5.1⟩
  have his5 := fs5.2
  have hmt5 : MemN _ _ _ _ _ := ⟨rfl, ft5.1⟩
  have hit5 := ft5.2
  have hb9 : Cat.At _ g9 0 f.s p.s := ⟨Mem.of_get at9, hin.1⟩
  obtain ⟨c09, c19, c29, c39, c49, i19, i29, i39, i49⟩ := hb9.get
  have hm9 : MemN _ _ _ _ _ := ⟨rfl, hb9.1⟩
  have hi9 := hb9.2
  have hb10 : Cat.At _ g10 0 f.t p.t := ⟨Mem.of_get at10, hin.2.1⟩
  obtain ⟨c010, c110, c210, c310, c410, i110, i210, i310, i410⟩ := hb10.get
  have hm10 : MemN _ _ _ _ _ := ⟨rfl, hb10.1⟩
  have hi10 := hb10.2
  refine hK2 _ _ ?_
  refine .forget hsub10 ?_
  refine .seq (fun K3 hK3 => ?_)
  refine .regionD mixed_orders_B (.q 0 (.q 1 (.q 2 (.q 3 (.q 4 (.q 5 (.q 6 (.q 7 (.q 8 (.q 9 (.q 10 (.q 11 (.q 12 (.q 13 (.q 14 (.q 15 (.q 16 (.q 17 (.q 18 (.q 19 (.q 20 (.q 21 (.q 22 (.q 23 (.q 24 (.q 25 (.q 26 (.q 27 (.q 28 (.q 29 (.q 30 (.q 31 (.q 32 (.q 33 (.q 34 (.q 35 (.q 36 (.q 37 (.q 38 (.q 39 (.done))))))))))))))))))))))))))))))))))))))))) (by kernel_rfl) ?_
  have r1 := i410.2 (f.ar.getD a 0).toNat (by omega)
  have r2 := i410.2 (co.getD (f.s.src.getD a 0).toNat 0).toNat (by omega)
  refine .m rfl rfl rfl rfl (.refl _) (.fieldAddr fo_31_4_B rfl) ?_
  refine .m rfl rfl rfl rfl (.refl _) (.load on_23_B rfl (by first | assumption | exact Mem.of_get at10 4 _ rfl)) ?_
  refine .m rfl rfl rfl rfl (.refl _) (.fieldAddr fo_33_3_E rfl) ?_
  refine .m rfl rfl rfl rfl (.refl _) (.load on_22_B rfl (by first | assumption | exact Mem.of_get at4 11 _ rfl)) ?_
  refine .m rfl rfl rfl rfl (.refl _) (.move rfl) ?_
  refine .m rfl rfl rfl rfl (.refl _) (.idxN sl_22_A (by assumption) rfl rfl (by omega)) ?_
  refine .m rfl rfl rfl rfl (.refl _) (.loadI on_2_A (by assumption) rfl (by omega)) ?_
  refine .m rfl rfl rfl rfl (.refl _) (.idx1 sl_23_B (Intss.sl (by assumption)) rfl rfl (by omega) (by omega)) ?_
  refine .m rfl rfl rfl rfl (.refl _) (.loadR on_22_B (by assumption) rfl (by omega)) ?_
  refine .m rfl rfl rfl rfl (.refl _) (.move rfl) ?_
  refine .m rfl rfl rfl rfl (.refl _) (.fieldAddr fo_31_2_B rfl) ?_
  refine .m rfl rfl rfl rfl (.refl _) (.load on_22_B rfl (by first | assumption | exact Mem.of_get at9 2 _ rfl)) ?_
  refine .m rfl rfl rfl rfl (.refl _) (.move rfl) ?_
  refine .m rfl rfl rfl rfl (.refl _) (.idxN sl_22_A (by assumption) rfl rfl (by omega)) ?_
  refine .m rfl rfl rfl rfl (.refl _) (.loadI on_2_A (by assumption) rfl (by omega)) ?_
  refine .m rfl rfl rfl rfl (.refl _) (.idx1 sl_22_A (by assumption) rfl rfl (by omega) (by omega)) ?_
  refine .m rfl rfl rfl rfl (.refl _) (.loadE on_2_A hd rfl (by omega)) ?_
  refine .m rfl rfl rfl rfl (.refl _) (.idx1 sl_22_A (by assumption) rfl rfl (by omega) (by omega)) ?_
  refine .m rfl rfl rfl rfl (.refl _) (.loadI on_2_A (by assumption) rfl (by omega)) ?_
  refine .m rfl rfl rfl rfl (.refl _) (.fieldAddr fo_31_4_B rfl) ?_
  refine .m rfl rfl rfl rfl (.refl _) (.load on_23_B rfl (by first | assumption | exact Mem.of_get at10 4 _ rfl)) ?_
  refine .m rfl rfl rfl rfl (.refl _) (.move rfl) ?_
  refine .m rfl rfl rfl rfl (.refl _) (.fieldAddr fo_31_1_B rfl) ?_
  refine .m rfl rfl rfl rfl (.refl _) (.load on_22_B rfl (by first | assumption | exact Mem.of_get at9 1 _ rfl)) ?_
  refine .m rfl rfl rfl rfl (.refl _) (.move rfl) ?_
  refine .m rfl rfl rfl rfl (.refl _) (.idxN sl_22_A (by assumption) rfl rfl (by omega)) ?_
  refine .m rfl rfl rfl rfl (.refl _) (.loadI on_2_A (by assumption) rfl (by omega)) ?_
  refine .m rfl rfl rfl rfl (.refl _) (.idx1 sl_22_A (by assumption) rfl rfl (by omega) (by omega)) ?_
  refine .m rfl rfl rfl rfl (.refl _) (.loadE on_2_A hd rfl (by omega)) ?_
  refine .m rfl rfl rfl rfl (.refl _) (.idx1 sl_23_B (Intss.sl (by assumption)) rfl rfl (by omega) (by omega)) ?_
  refine .m rfl rfl rfl rfl (.refl _) (.loadR on_22_B (by assumption) rfl (by omega)) ?_
  refine .m rfl rfl rfl rfl (.refl _) (.fieldAddr fo_33_3_E rfl) ?_
  refine .m rfl rfl rfl rfl (.refl _) (.load on_22_B rfl (by first | assumption | exact Mem.of_get at5 11 _ rfl)) ?_
  refine .m rfl rfl rfl rfl (.refl _) (.move rfl) ?_
  refine .m rfl rfl rfl rfl (.refl _) (.idxN sl_22_A (by assumption) rfl rfl (by omega)) ?_
  refine .m rfl rfl rfl rfl (.refl _) (.loadI on_2_A (by assumption) rfl (by omega)) ?_
  refine .m rfl rfl rfl rfl (.refl _) (.idx1 sl_22_A (by assumption) rfl rfl (by omega) (by omega)) ?_
  refine .m rfl rfl rfl rfl (.refl _) (.loadI on_2_A (by assumption) rfl (by omega)) ?_
  refine .m rfl rfl rfl rfl (.refl _) (.cmp rfl rfl rfl) ?_
  refine .m rfl rfl rfl rfl (.refl _) (.assign rfl) ?_
  refine .done ?_
  refine hK3 _ _ ?_
  refine .ret ?_
  -- leaf e1
  refine hret _ _ ?_
  refine ⟨_, rfl, ?_⟩
  exact ⟨rfl, hle⟩
theorem commutesP_c {g o g' o' : Nat} {f k : Fun} {p q : FunP} {iso : Bool} {d : Option Addr} {co : List Int} {n a : Nat} {H : GHeap} (h : Fun.At H g o f p := by assumption) (h' : Fun.At H g' o' k q := by assumption) (hd : SlA H d n (fun i => .int .i64 (co.getD i 0))) (hP : f.Par k) (hn : n = f.ob.length) (ha : a < f.ar.length := by omega)
    (h1 : 0 ≤ co.getD (f.s.src.getD a 0).toNat 0 ∧ co.getD (f.s.src.getD a 0).toNat 0 < f.t.src.length) (h2 : 0 ≤ co.getD (f.s.tgt.getD a 0).toNat 0 ∧ co.getD (f.s.tgt.getD a 0).toNat 0 < f.t.src.length) :
    GCalls Try.prog 78 [.pointer (some ⟨g, o, none⟩), .pointer (some ⟨g', o', none⟩), .slice d n n, .int .i64 (a : Int)] H (Ret (.bool ((f.net k iso).sq a (co.getD (f.s.src.getD a 0).toNat 0) (co.getD (f.s.tgt.getD a 0).toNat 0))) H) := by
  refine GCalls.body (N := 56) (rs := [.tmp 8]) Try.func78 rfl rfl rfl rfl (fun Qx hret hend => ?_)
  refine .forget (fr' := [(0, some _), (1, some _), (2, some _), (3, some _)]) ⟨rfl, rfl, rfl, rfl, trivial⟩ ?_
  obtain ⟨fs, ft, c10, c11, j1, j2⟩ := h.get
  obtain ⟨gs, gt, d10, d11, l1, l2⟩ := h'.get
  obtain ⟨c0, c1, c2, c3, c4, i1, i2, i3, i4⟩ := fs.get
  have hs := hP.fi.1.1
  have ht := hP.fi.2.1.1
  have hf := hP.fi.2.2
  have hf' := hP.gi.2.2
  have e1 := hf.al
  have e2 := hf'.al
  have e3 := hP.ps
  have e4 := hP.pt
  have e5 := hf.ol
  rw [← e3] at e2
  have q1 := hs.src a (by omega)
  have q2 := hs.tgt a (by have := hs.tl; omega)
  have q3 := hf.ar a (by omega)
  have q4 := hf'.ar a (by omega)
  rw [← e4] at q4
  have q7 := hs.tl
  have q8 := ht.cl
  have q9 := ht.row (f.ar.getD a 0).toNat (by omega)
  have q10 := ht.row (co.getD (f.s.src.getD a 0).toNat 0).toNat (by omega)
  have q11 := hs.n40
  refine .seq (fun K1 hK1 => ?_)
  refine .region ?_
  refine .m rfl rfl rfl (.assign rfl) ?_
  refine .nil ?_
  refine hK1 _ _ ?_
  refine .seq (fun K2 hK2 => ?_)
  refine .regionD mixed_orders_B (.q 0 (.q 1 (.q 2 (.q 3 (.q 4 (.q 5 (.q 6 (.q 7 (.done))))))))) (by kernel_rfl) ?_
  refine .m rfl rfl rfl rfl (.refl _) (.move rfl) ?_
  refine .m rfl rfl rfl rfl (.refl _) (.nilCheck rfl) ?_
  refine .m rfl rfl rfl rfl (.refl _) (.fieldAddr fo_33_0_E rfl) ?_
  refine .m rfl rfl rfl rfl (.refl _) (.move rfl) ?_
  refine .m rfl rfl rfl rfl (.refl _) (.nilCheck rfl) ?_
  refine .m rfl rfl rfl rfl (.refl _) (.fieldAddr fo_33_1_E rfl) ?_
  refine .m rfl rfl rfl rfl (.refl _) (.assign rfl) ?_
  refine .m rfl rfl rfl rfl (.refl _) (.assign rfl) ?_
  refine .done ?_
  refine hK2 _ _ ?_
  refine .seq (fun K3 hK3 => ?_)
  refine .regionD mixed_orders_B (.q 0 (.q 1 (.q 2 (.q 3 (.q 4 (.q 5 (.q 6 (.q 7 (.q 8 (.q 9 (.q 10 (.q 11 (.q 12 (.q 13 (.q 14 (.q 15 (.q 16 (.q 17 (.q 19 (.q 20 (.q 21 (.q 22 (.q 23 (.q 24 (.q 25 (.q 26 (.q 27 (.q 28 (.q 29 (.q 30 (.q 31 (.q 32 (.q 33 (.q 34 (.q 35 (.q 36 (.c 18 1 (.c 37 0 (.q 38 (.q 39 (.done))))))))))))))))))))))))))))))))))))))))) (by kernel_rfl) ?_
  refine .m rfl rfl rfl rfl (.refl _) (.move rfl) ?_
  refine .m rfl rfl rfl rfl (.refl _) (.move rfl) ?_
  refine .m rfl rfl rfl rfl (.refl _) (.nilCheck rfl) ?_
  refine .m rfl rfl rfl rfl (.refl _) (.fieldAddr fo_33_3_E rfl) ?_
  refine .m rfl rfl rfl rfl (.refl _) (.load on_22_B rfl (by assumption)) ?_
  refine .m rfl rfl rfl rfl (.refl _) (.move rfl) ?_
  refine .m rfl rfl rfl rfl (.refl _) (.idxN sl_22_A (by assumption) rfl rfl (by omega)) ?_
  refine .m rfl rfl rfl rfl (.refl _) (.loadI on_2_A (by assumption) rfl (by omega)) ?_
  refine .m rfl rfl rfl rfl (.refl _) (.move rfl) ?_
  refine .m rfl rfl rfl rfl (.refl _) (.move rfl) ?_
  refine .m rfl rfl rfl rfl (.refl _) (.nilCheck rfl) ?_
  refine .m rfl rfl rfl rfl (.refl _) (.fieldAddr fo_31_2_B rfl) ?_
  refine .m rfl rfl rfl rfl (.refl _) (.load on_22_B rfl (by assumption)) ?_
  refine .m rfl rfl rfl rfl (.refl _) (.move rfl) ?_
  refine .m rfl rfl rfl rfl (.refl _) (.idxN sl_22_A (by assumption) rfl rfl (by omega)) ?_
  refine .m rfl rfl rfl rfl (.refl _) (.loadI on_2_A (by assumption) rfl (by omega)) ?_
  refine .m rfl rfl rfl rfl (.refl _) (.idx1 sl_22_A (by assumption) rfl rfl (by omega) (by omega)) ?_
  refine .m rfl rfl rfl rfl (.refl _) (.loadE on_2_A hd rfl (by omega)) ?_
  refine .m rfl rfl rfl rfl (.refl _) (.move rfl) ?_
  refine .m rfl rfl rfl rfl (.refl _) (.move rfl) ?_
  refine .m rfl rfl rfl rfl (.refl _) (.move rfl) ?_
  refine .m rfl rfl rfl rfl (.refl _) (.nilCheck rfl) ?_
  refine .m rfl rfl rfl rfl (.refl _) (.fieldAddr fo_31_1_B rfl) ?_
  refine .m rfl rfl rfl rfl (.refl _) (.load on_22_B rfl (by assumption)) ?_
  refine .m rfl rfl rfl rfl (.refl _) (.move rfl) ?_
  refine .m rfl rfl rfl rfl (.refl _) (.idxN sl_22_A (by assumption) rfl rfl (by omega)) ?_
  refine .m rfl rfl rfl rfl (.refl _) (.loadI on_2_A (by assumption) rfl (by omega)) ?_
  refine .m rfl rfl rfl rfl (.refl _) (.idx1 sl_22_A (by assumption) rfl rfl (by omega) (by omega)) ?_
  refine .m rfl rfl rfl rfl (.refl _) (.loadE on_2_A hd rfl (by omega)) ?_
  refine .m rfl rfl rfl rfl (.refl _) (.move rfl) ?_
  refine .m rfl rfl rfl rfl (.refl _) (.nilCheck rfl) ?_
  refine .m rfl rfl rfl rfl (.refl _) (.fieldAddr fo_33_3_E rfl) ?_
  refine .m rfl rfl rfl rfl (.refl _) (.load on_22_B rfl (by assumption)) ?_
  refine .m rfl rfl rfl rfl (.refl _) (.move rfl) ?_
  refine .m rfl rfl rfl rfl (.refl _) (.idxN sl_22_A (by assumption) rfl rfl (by omega)) ?_
  refine .m rfl rfl rfl rfl (.refl _) (.loadI on_2_A (by assumption) rfl (by omega)) ?_
  refine .callQ1 rfl rfl rfl rfl rfl @Try.call82 rfl (then_s) (.refl _) ?_
  refine .callQ0 rfl rfl rfl rfl rfl @Try.call82 rfl (then_s) ?_
  refine .m rfl rfl rfl rfl (.refl _) (.cmp rfl rfl rfl) ?_
  refine .m rfl rfl rfl rfl (.refl _) (.assign rfl) ?_
  refine .done ?_
  refine hK3 _ _ ?_
  refine .ret ?_
  -- leaf e1
  refine hret _ _ ?_
  refine ⟨_, rfl, ?_⟩
  exact .of rfl
set_option maxHeartbeats 4000000 in
theorem l07Choices_c {gs : Nat} {f k : Fun} {p q : FunP} {iso : Bool} {most : Int} {af d : Option Addr} {nf x : Nat} {co : List Int} {H : GHeap} (hS : Mem H gs 0 (stCells f p k q iso most af nf)) (hin : f.In H p) (hin1 : k.In H q) (hd : Ints H d co) (hP : f.Par k) (hn : co.length = f.ob.length) (hx : x < f.ob.length)
    (hc : ∀ i, i < co.length → co.getD i 0 < f.t.src.length) :
    GCalls Try.prog 80 [.pointer (some ⟨gs, 0, none⟩), .slice d co.length co.length, .int .i64 (x : Int)] H (NewInts 2 H ((f.net k iso).choices co x)) := by
  have hs := hP.fi.1.1
  have ht := hP.fi.2.1.1
  have hf := hP.fi.2.2
  have hf' := hP.gi.2.2
  have e1 := hf.al
  have e2 := hf'.al
  have e3 := hP.ps
  have e4 := hP.pt
  have e5 := hf.ol
  have e6 := hf'.ol
  have hTS := hP.fi.2.1.1
  rw [← e3] at e2 e6
  have q7 := hs.tl
  have q8 := ht.n40
  have q9 := hs.obj
  have q11 := hs.n40
  have hl := Cat.hom_le f.t (f.ob.getD x 0) (k.ob.getD x 0)
  refine GCalls.body (N := 141) (rs := [.tmp 6]) Try.func80 rfl rfl rfl rfl (fun Qx hret hend => ?_)
  refine .forget (fr' := [(0, some _), (1, some _), (2, some _)]) ⟨rfl, rfl, rfl, trivial⟩ ?_
  have hle := GHeap.Le.refl H
  have base_hS := hS
  have base_hin := hin
  have base_hin1 := hin1
  have base_hd := hd
  have hF : Fun.At _ gs (0 + 0) f p := ⟨hS.left, hin⟩
  have hG : Fun.At _ gs (0 + 12) k q := ⟨(hS.right (n := 12) rfl).left, hin1⟩
  have kiso : GHeap.cell _ gs (0 + 24) = some (.bool iso) := ((hS.right (n := 12) rfl).right (n := 12) rfl) 0 _ rfl
  obtain ⟨fsf, ftf, c10f, c11f, j1f, j2f⟩ := hF.get
  have hmf : MemN _ _ _ _ _ := ⟨rfl, hF.1⟩
  have hif := hF.2
  have hmsf : MemN _ _ _ _ _ := ⟨rfl, fsf.1⟩
  have hisf := fsf.2
  have hmtf : MemN _ _ _ _ _ := ⟨rfl, ftf.1⟩
  have hitf := ftf.2
  obtain ⟨fsg, ftg, c10g, c11g, j1g, j2g⟩ := hG.get
  have hmg : MemN _ _ _ _ _ := ⟨rfl, hG.1⟩
  have hig := hG.2
  have hmsg : MemN _ _ _ _ _ := ⟨rfl, fsg.1⟩
  have hisg := fsg.2
  have hmtg : MemN _ _ _ _ _ := ⟨rfl, ftg.1⟩
  have hitg := ftg.2
  refine .seq (fun K1 hK1 => ?_)
  refine .region ?_
  refine .m rfl rfl rfl (.assign rfl) ?_
  refine .nil ?_
  refine hK1 _ _ ?_
  refine .seq (fun K2 hK2 => ?_)
  refine .regionD mixed_orders_B (.q 0 (.q 1 (.q 2 (.q 3 (.q 4 (.q 5 (.q 6 (.q 7 (.q 8 (.q 9 (.or (.c 10 1 (.c 11 1 (.c 12 1 (.c 13 0 .done)))) (.c 11 1 (.c 10 1 (.c 12 1 (.c 13 0 .done))))))))))))))) (by kernel_rfl) ?_
  refine .m rfl rfl rfl rfl (.refl _) (.move rfl) ?_
  refine .m rfl rfl rfl rfl (.refl _) (.nilCheck rfl) ?_
  refine .m rfl rfl rfl rfl (.refl _) (.fieldAddr fo_89_0_Ha rfl) ?_
  refine .m rfl rfl rfl rfl (.refl _) (.fieldAddr fo_33_0_E rfl) ?_
  refine .m rfl rfl rfl rfl (.refl _) (.loadM ag_31_D rfl (by assumption)) ?_
  refine .m rfl rfl rfl rfl (.refl _) (.move rfl) ?_
  refine .m rfl rfl rfl rfl (.refl _) (.nilCheck rfl) ?_
  refine .m rfl rfl rfl rfl (.refl _) (.fieldAddr fo_89_0_Ha rfl) ?_
  refine .m rfl rfl rfl rfl (.refl _) (.fieldAddr fo_33_1_E rfl) ?_
  refine .m rfl rfl rfl rfl (.refl _) (.loadM ag_31_D rfl (by assumption)) ?_
  refine .two [(0, some _), (1, some _), (2, some _), (6, some _)] rfl rfl rfl rfl rfl rfl rfl rfl rfl rfl rfl rfl rfl rfl rfl rfl rfl rfl ze_31_E rfl sz_31_D rfl rfl rfl rfl rfl (by rfl) (by rfl) rfl rfl rfl rfl rfl ⟨rfl, rfl, rfl, rfl, trivial⟩ rfl rfl (.refl _) ?_
  intro g7 g8 H8 fr8 le8 ge7 ge8 at7 at8 hsub8
  have nx_H8 := le8.1
  replace hle := hle.trans le8
  have lt_at7 := GHeap.lt_of_get at7
  have lt_at8 := GHeap.lt_of_get at8
  replace hS := base_hS.mono hle
  replace hin := base_hin.mono hle
  replace hin1 := base_hin1.mono hle
  replace hd := base_hd.mono hle
  clear hF hG kiso fsf ftf c10f c11f j1f j2f hmf hif hmsf hisf hmtf hitf fsg ftg c10g c11g j1g j2g hmg hig hmsg hisg hmtg hitg
  have hF : Fun.At _ gs (0 + 0) f p := ⟨hS.left, hin⟩
  have hG : Fun.At _ gs (0 + 12) k q := ⟨(hS.right (n := 12) rfl).left, hin1⟩
  have kiso : GHeap.cell _ gs (0 + 24) = some (.bool iso) := ((hS.right (n := 12) rfl).right (n := 12) rfl) 0 _ rfl
  obtain ⟨fsf, ftf, c10f, c11f, j1f, j2f⟩ := hF.get
  have hmf : MemN _ _ _ _ _ := ⟨rfl, hF.1⟩
  have hif := hF.2
  have hmsf : MemN _ _ _ _ _ := ⟨rfl, fsf.1⟩
  have hisf := fsf.2
  have hmtf : MemN _ _ _ _ _ := ⟨rfl, ftf.1⟩
  have hitf := ftf.2
  obtain ⟨fsg, ftg, c10g, c11g, j1g, j2g⟩ := hG.get
  have hmg : MemN _ _ _ _ _ := ⟨rfl, hG.1⟩
  have hig := hG.2
  have hmsg : MemN _ _ _ _ _ := ⟨rfl, fsg.1⟩
  have hisg := fsg.2
  have hmtg : MemN _ _ _ _ _ := ⟨rfl, ftg.1⟩
  have hitg := ftg.2
  have hb7 : Cat.At _ g7 0 f.s p.s := ⟨Mem.of_get at7, hin.1⟩
  obtain ⟨c07, c17, c27, c37, c47, i17, i27, i37, i47⟩ := hb7.get
  have hm7 : MemN _ _ _ _ _ := ⟨rfl, hb7.1⟩
  have hi7 := hb7.2
  have hb8 : Cat.At _ g8 0 f.t p.t := ⟨Mem.of_get at8, hin.2.1⟩
  obtain ⟨c08, c18, c28, c38, c48, i18, i28, i38, i48⟩ := hb8.get
  have hm8 : MemN _ _ _ _ _ := ⟨rfl, hb8.1⟩
  have hi8 := hb8.2
  refine hK2 _ _ ?_
  refine .forget hsub8 ?_
  refine .seq (fun K3 hK3 => ?_)
  refine .regionD mixed_orders_B (.q 0 (.q 1 (.q 2 (.q 3 (.q 4 (.q 5 (.q 6 (.q 7 (.q 8 (.q 9 (.q 10 (.q 11 (.q 12 (.q 13 (.q 14 (.q 15 (.q 16 (.c 17 0 (.q 18 (.done)))))))))))))))))))) (by kernel_rfl) ?_
  refine .m rfl rfl rfl rfl (.refl _) (.loadM ag_31_D rfl ⟨rfl, Mem.of_get at8⟩) ?_
  refine .m rfl rfl rfl rfl (.refl _) (.move rfl) ?_
  refine .m rfl rfl rfl rfl (.refl _) (.nilCheck rfl) ?_
  refine .m rfl rfl rfl rfl (.refl _) (.fieldAddr fo_89_0_Ha rfl) ?_
  refine .m rfl rfl rfl rfl (.refl _) (.fieldAddr fo_33_2_E rfl) ?_
  refine .m rfl rfl rfl rfl (.refl _) (.load on_22_B rfl (by assumption)) ?_
  refine .m rfl rfl rfl rfl (.refl _) (.move rfl) ?_
  refine .m rfl rfl rfl rfl (.refl _) (.idxN sl_22_A (by assumption) rfl rfl (by omega)) ?_
  refine .m rfl rfl rfl rfl (.refl _) (.loadI on_2_A (by assumption) rfl (by omega)) ?_
  refine .m rfl rfl rfl rfl (.refl _) (.move rfl) ?_
  refine .m rfl rfl rfl rfl (.refl _) (.nilCheck rfl) ?_
  refine .m rfl rfl rfl rfl (.refl _) (.fieldAddr fo_89_1_Ha rfl) ?_
  refine .m rfl rfl rfl rfl (.refl _) (.fieldAddr fo_33_2_E rfl) ?_
  refine .m rfl rfl rfl rfl (.refl _) (.load on_22_B rfl (by assumption)) ?_
  refine .m rfl rfl rfl rfl (.refl _) (.move rfl) ?_
  refine .m rfl rfl rfl rfl (.refl _) (.idxN sl_22_A (by assumption) rfl rfl (by omega)) ?_
  refine .m rfl rfl rfl rfl (.refl _) (.loadI on_2_A (by assumption) rfl (by omega)) ?_
  refine .call0 rfl rfl rfl rfl rfl @Try.call100 rfl (l02Hom_c) ?_
  rintro _ H44 ⟨le44, g44, rfl, at44, ge44⟩
  have nx_H44 := le44.1
  replace hle := hle.trans le44
  replace at7 := le44.2 _ _ at7
  replace at8 := le44.2 _ _ at8
  have lt_at44 := GHeap.lt_of_get at44
  replace hS := base_hS.mono hle
  replace hin := base_hin.mono hle
  replace hin1 := base_hin1.mono hle
  replace hd := base_hd.mono hle
  clear hF hG kiso fsf ftf c10f c11f j1f j2f hmf hif hmsf hisf hmtf hitf fsg ftg c10g c11g j1g j2g hmg hig hmsg hisg hmtg hitg
  have hF : Fun.At _ gs (0 + 0) f p := ⟨hS.left, hin⟩
  have hG : Fun.At _ gs (0 + 12) k q := ⟨(hS.right (n := 12) rfl).left, hin1⟩
  have kiso : GHeap.cell _ gs (0 + 24) = some (.bool iso) := ((hS.right (n := 12) rfl).right (n := 12) rfl) 0 _ rfl
  obtain ⟨fsf, ftf, c10f, c11f, j1f, j2f⟩ := hF.get
  have hmf : MemN _ _ _ _ _ := ⟨rfl, hF.1⟩
  have hif := hF.2
  have hmsf : MemN _ _ _ _ _ := ⟨rfl, fsf.1⟩
  have hisf := fsf.2
  have hmtf : MemN _ _ _ _ _ := ⟨rfl, ftf.1⟩
  have hitf := ftf.2
  obtain ⟨fsg, ftg, c10g, c11g, j1g, j2g⟩ := hG.get
  have hmg : MemN _ _ _ _ _ := ⟨rfl, hG.1⟩
  have hig := hG.2
  have hmsg : MemN _ _ _ _ _ := ⟨rfl, fsg.1⟩
  have hisg := fsg.2
  have hmtg : MemN _ _ _ _ _ := ⟨rfl, ftg.1⟩
  have hitg := ftg.2
  clear hb7 c07 c17 c27 c37 c47 i17 i27 i37 i47 hm7 hi7
  have hb7 : Cat.At _ g7 0 f.s p.s := ⟨Mem.of_get at7, hin.1⟩
  obtain ⟨c07, c17, c27, c37, c47, i17, i27, i37, i47⟩ := hb7.get
  have hm7 : MemN _ _ _ _ _ := ⟨rfl, hb7.1⟩
  have hi7 := hb7.2
  clear hb8 c08 c18 c28 c38 c48 i18 i28 i38 i48 hm8 hi8
  have hb8 : Cat.At _ g8 0 f.t p.t := ⟨Mem.of_get at8, hin.2.1⟩
  obtain ⟨c08, c18, c28, c38, c48, i18, i28, i38, i48⟩ := hb8.get
  have hm8 : MemN _ _ _ _ _ := ⟨rfl, hb8.1⟩
  have hi8 := hb8.2
  have i44 := Ints.of_get at44
  refine .m rfl rfl rfl rfl (.refl _) (.assign rfl) ?_
  refine .done ?_
  refine hK3 _ _ ?_
  refine .seq (fun K4 hK4 => ?_)
  refine .region ?_
  refine .r rfl rfl rfl (.litR rfl sl_22_A ze_2_E rfl rfl (by omega) (by omega) rfl rfl) ?_
  rintro _ H45 ⟨g45, rfl, le45, ge45, at45⟩
  have nx_H45 := le45.1
  replace hle := hle.trans le45
  replace at7 := le45.2 _ _ at7
  replace at8 := le45.2 _ _ at8
  replace at44 := le45.2 _ _ at44
  have lt_at45 := GHeap.lt_of_get at45
  replace hS := base_hS.mono hle
  replace hin := base_hin.mono hle
  replace hin1 := base_hin1.mono hle
  replace hd := base_hd.mono hle
  clear hF hG kiso fsf ftf c10f c11f j1f j2f hmf hif hmsf hisf hmtf hitf fsg ftg c10g c11g j1g j2g hmg hig hmsg hisg hmtg hitg
  have hF : Fun.At _ gs (0 + 0) f p := ⟨hS.left, hin⟩
  have hG : Fun.At _ gs (0 + 12) k q := ⟨(hS.right (n := 12) rfl).left, hin1⟩
  have kiso : GHeap.cell _ gs (0 + 24) = some (.bool iso) := ((hS.right (n := 12) rfl).right (n := 12) rfl) 0 _ rfl
  obtain ⟨fsf, ftf, c10f, c11f, j1f, j2f⟩ := hF.get
  have hmf : MemN _ _ _ _ _ := ⟨rfl, hF.1⟩
  have hif := hF.2
  have hmsf : MemN _ _ _ _ _ := ⟨rfl, fsf.1⟩
  have hisf := fsf.2
  have hmtf : MemN _ _ _ _ _ := ⟨rfl, ftf.1⟩
  have hitf := ftf.2
  obtain ⟨fsg, ftg, c10g, c11g, j1g, j2g⟩ := hG.get
  have hmg : MemN _ _ _ _ _ := ⟨rfl, hG.1⟩
  have hig := hG.2
  have hmsg : MemN _ _ _ _ _ := ⟨rfl, fsg.1⟩
  have hisg := fsg.2
  have hmtg : MemN _ _ _ _ _ := ⟨rfl, ftg.1⟩
  have hitg := ftg.2
  clear hb7 c07 c17 c27 c37 c47 i17 i27 i37 i47 hm7 hi7
  have hb7 : Cat.At _ g7 0 f.s p.s := ⟨Mem.of_get at7, hin.1⟩
  obtain ⟨c07, c17, c27, c37, c47, i17, i27, i37, i47⟩ := hb7.get
  have hm7 : MemN _ _ _ _ _ := ⟨rfl, hb7.1⟩
  have hi7 := hb7.2
  clear hb8 c08 c18 c28 c38 c48 i18 i28 i38 i48 hm8 hi8
  have hb8 : Cat.At _ g8 0 f.t p.t := ⟨Mem.of_get at8, hin.2.1⟩
  obtain ⟨c08, c18, c28, c38, c48, i18, i28, i38, i48⟩ := hb8.get
  have hm8 : MemN _ _ _ _ _ := ⟨rfl, hb8.1⟩
  have hi8 := hb8.2
  clear i44
  have i44 := Ints.of_get at44
  replace at45 : GHeap.get H45 g45 = some (.row (ints []) 2 true) := at45
  refine .m rfl rfl rfl (.assign rfl) ?_
  refine .nil ?_
  refine hK4 _ _ ?_
  refine .seq (fun K5 hK5 => ?_)
  refine .seq (fun K6 hK6 => ?_)
  refine .region ?_
  refine .m rfl rfl rfl (.assign rfl) ?_
  refine .nil ?_
  refine hK6 _ _ ?_
  refine .block ?_
  refine .loopR (σ := Nat × Nat × Nat) [(0, some _), (1, some _), (2, some _), (7, some _), (8, some _), (9, some _)] (fun (j, gL10, nL10) => [(11, some (.int .i64 (j : Int))), (10, some (.slice (some ⟨gL10, 0, none⟩) nL10 nL10))]) (fun (j, gL10, nL10) H' => St [g45] H45 H' ∧ H'.get gL10 = some (.row (ints (((f.t.hom (f.ob.getD x 0) (k.ob.getD x 0)).take j).filter (f.chB k iso co x))) 2 true) ∧ (gL10 = g45 ∨ H45.next ≤ gL10) ∧ nL10 = (((f.t.hom (f.ob.getD x 0) (k.ob.getD x 0)).take j).filter (f.chB k iso co x)).length ∧ j ≤ (f.t.hom (f.ob.getD x 0) (k.ob.getD x 0)).length) (fun (j, gL10, nL10) => (f.t.hom (f.ob.getD x 0) (k.ob.getD x 0)).length - j) ((0, _, _)) ⟨rfl, rfl, rfl, rfl, rfl, rfl, trivial⟩ ⟨rfl, rfl, trivial⟩ ?_ ?_
  ·
   refine ⟨.refl _ _, by first | assumption | exact at45 | simpa using at45, .inl rfl, by first | rfl | assumption | simp | omega, ?_⟩
   omega
  ·
   rintro ⟨j, gL10, nL10⟩ HL1 ⟨lst1, at_L10, pl_L10, ln_L10, hI⟩ KL1 hKL1
   refine .forget (fr' := [(11, some (.int .i64 (j : Int))), (10, some (.slice (some ⟨gL10, 0, none⟩) nL10 nL10)), (0, some _), (1, some _), (2, some _), (7, some _), (8, some _), (9, some _)]) ⟨rfl, rfl, rfl, rfl, rfl, rfl, rfl, rfl, trivial⟩ ?_
   have ge_L10 : H.next ≤ gL10 := by omega
   have nx_HL1 := lst1.nx
   replace hle := hle.st lst1 (fun k hk => ⟨by omega, trivial⟩)
   replace at7 := lst1.same _ _ ⟨by omega, trivial⟩ at7
   replace at8 := lst1.same _ _ ⟨by omega, trivial⟩ at8
   replace at44 := lst1.same _ _ ⟨by omega, trivial⟩ at44
   have lt_at_L10 := GHeap.lt_of_get at_L10
   replace hS := base_hS.mono hle
   replace hin := base_hin.mono hle
   replace hin1 := base_hin1.mono hle
   replace hd := base_hd.mono hle
   clear hF hG kiso fsf ftf c10f c11f j1f j2f hmf hif hmsf hisf hmtf hitf fsg ftg c10g c11g j1g j2g hmg hig hmsg hisg hmtg hitg
   have hF : Fun.At _ gs (0 + 0) f p := ⟨hS.left, hin⟩
   have hG : Fun.At _ gs (0 + 12) k q := ⟨(hS.right (n := 12) rfl).left, hin1⟩
   have kiso : GHeap.cell _ gs (0 + 24) = some (.bool iso) := ((hS.right (n := 12) rfl).right (n := 12) rfl) 0 _ rfl
   obtain ⟨fsf, ftf, c10f, c11f, j1f, j2f⟩ := hF.get
   have hmf : MemN _ _ _ _ _ := ⟨rfl, hF.1⟩
   have hif := hF.2
   have hmsf : MemN _ _ _ _ _ := ⟨rfl, fsf.1⟩
   have hisf := fsf.2
   have hmtf : MemN _ _ _ _ _ := ⟨rfl, ftf.1⟩
   have hitf := ftf.2
   obtain ⟨fsg, ftg, c10g, c11g, j1g, j2g⟩ := hG.get
   have hmg : MemN _ _ _ _ _ := ⟨rfl, hG.1⟩
   have hig := hG.2
   have hmsg : MemN _ _ _ _ _ := ⟨rfl, fsg.1⟩
   have hisg := fsg.2
   have hmtg : MemN _ _ _ _ _ := ⟨rfl, ftg.1⟩
   have hitg := ftg.2
   clear hb7 c07 c17 c27 c37 c47 i17 i27 i37 i47 hm7 hi7
   have hb7 : Cat.At _ g7 0 f.s p.s := ⟨Mem.of_get at7, hin.1⟩
   obtain ⟨c07, c17, c27, c37, c47, i17, i27, i37, i47⟩ := hb7.get
   have hm7 : MemN _ _ _ _ _ := ⟨rfl, hb7.1⟩
   have hi7 := hb7.2
   clear hb8 c08 c18 c28 c38 c48 i18 i28 i38 i48 hm8 hi8
   have hb8 : Cat.At _ g8 0 f.t p.t := ⟨Mem.of_get at8, hin.2.1⟩
   obtain ⟨c08, c18, c28, c38, c48, i18, i28, i38, i48⟩ := hb8.get
   have hm8 : MemN _ _ _ _ _ := ⟨rfl, hb8.1⟩
   have hi8 := hb8.2
   clear i44
   have i44 := Ints.of_get at44
   have hfl := filtTake_le (xs := f.t.hom (f.ob.getD x 0) (k.ob.getD x 0)) (P := f.chB k iso co x) (i := j)
   refine .seq (fun K7 hK7 => ?_)
   refine .seq (fun K8 hK8 => ?_)
   refine .region ?_
   refine .m rfl rfl rfl (.move rfl) ?_
   refine .m rfl rfl rfl (.move rfl) ?_
   refine .m rfl rfl rfl (.len sl_22_A rfl) ?_
   refine .m rfl rfl rfl (.cmp rfl rfl rfl) ?_
   refine .nil ?_
   refine hK8 _ _ ?_
   refine .cond rfl (fun h49 => ?_) (fun h49 => ?_)
   ·
    simp only [sps] at h49
    obtain ⟨b, b1, b2, b3, b4⟩ := Cat.hom_get (c := f.t) (x := f.ob.getD x 0) (y := k.ob.getD x 0) (i := j) (by omega)
    refine .skip ?_
    refine hK7 _ _ ?_
    refine .seq (fun K9 hK9 => ?_)
    refine .block ?_
    refine .seq (fun K10 hK10 => ?_)
    refine .seq (fun K11 hK11 => ?_)
    refine .regionD mixed_orders_B (.q 0 (.q 1 (.q 2 (.q 3 (.q 4 (.q 5 (.q 6 (.q 7 (.q 8 (.q 9 (.c 10 0 (.q 11 (.q 12 (.done)))))))))))))) (by kernel_rfl) ?_
    refine .cut [(0, some _), (1, some _), (2, some _), (7, some _), (8, some _), (9, some _), (10, some _), (11, some _), (46, some _), (47, some _), (48, some _), (49, some _)] ⟨rfl, rfl, rfl, rfl, rfl, rfl, rfl, rfl, rfl, rfl, rfl, rfl, trivial⟩ (fun rest fr' H' => ∃ b : Bool, Sub ((64, some (.bool b)) :: rest) fr' ∧ HL1 = H' ∧ (b = true → f.chB k iso co x ((f.t.hom (f.ob.getD x 0) (k.ob.getD x 0)).getD j 0) = false) ∧ (b = false → f.chB k iso co x ((f.t.hom (f.ob.getD x 0) (k.ob.getD x 0)).getD j 0) = (f.net k iso).fits (co.set x ((f.t.hom (f.ob.getD x 0) (k.ob.getD x 0)).getD j 0)) x)) ?_ ?_
    ·
     refine .m rfl rfl rfl rfl (.refl _) (.move rfl) ?_
     refine .m rfl rfl rfl rfl (.refl _) (.nilCheck rfl) ?_
     refine .m rfl rfl rfl rfl (.refl _) (.fieldAddr fo_89_2_Ha rfl) ?_
     refine .m rfl rfl rfl rfl (.refl _) (.load on_4_Ha rfl (by assumption)) ?_
     refine .m rfl rfl rfl rfl (.refl _) (.move rfl) ?_
     refine .split (fun h56 => ?_) (fun h56 => ?_)
     ·
      refine .mg rfl rfl rfl rfl rfl rfl (.refl _) (.loadM ag_31_D rfl ⟨rfl, Mem.of_get at8⟩) ?_
      refine .mg rfl rfl rfl rfl rfl rfl (.refl _) (.move rfl) ?_
      refine .mg rfl rfl rfl rfl rfl rfl (.refl _) (.move rfl) ?_
      refine .mg rfl rfl rfl rfl rfl rfl (.refl _) (.idxN sl_22_A (by first | assumption | exact SlA.of_row at44 (by first | rfl | (simp; done) | (simp <;> omega))) rfl rfl (by omega)) ?_
      refine .mg rfl rfl rfl rfl rfl rfl (.refl _) (.loadI on_2_A (by first | assumption | exact Ints.of_get at44) rfl (by omega)) ?_
      refine .callQ0g rfl rfl rfl rfl rfl rfl rfl @Try.call101 rfl (l05Inverse_c) ?_
      refine .mg rfl rfl rfl rfl rfl rfl (.refl _) (.cmp rfl rfl rfl) ?_
      refine .m rfl rfl rfl rfl (.refl _) (.pickT rfl rfl) ?_
      refine .done ?_
      refine ⟨_, ⟨rfl, rfl, rfl, rfl, rfl, rfl, rfl, rfl, rfl, rfl, rfl, rfl, rfl, trivial⟩, rfl, ?_⟩
      first
      | exact ⟨fun hb => Fun.ch_no h56 (by simpa using hb), fun hb => Fun.ch_go (.inr (by simpa using hb))⟩
      | exact ⟨fun hb => (by cases hb), fun _ => Fun.ch_go (.inl (by simpa using h56))⟩
     ·
      refine .sg rfl rfl rfl rfl rfl rfl ?_
      refine .sg rfl rfl rfl rfl rfl rfl ?_
      refine .sg rfl rfl rfl rfl rfl rfl ?_
      refine .sg rfl rfl rfl rfl rfl rfl ?_
      refine .sg rfl rfl rfl rfl rfl rfl ?_
      refine .sgc rfl rfl rfl rfl rfl rfl ?_
      refine .sg rfl rfl rfl rfl rfl rfl ?_
      refine .m rfl rfl rfl rfl (.refl _) (.pickF rfl rfl) ?_
      refine .done ?_
      refine ⟨_, ⟨rfl, rfl, rfl, rfl, rfl, rfl, rfl, rfl, rfl, rfl, rfl, rfl, rfl, trivial⟩, rfl, ?_⟩
      first
      | exact ⟨fun hb => Fun.ch_no h56 (by simpa using hb), fun hb => Fun.ch_go (.inr (by simpa using hb))⟩
      | exact ⟨fun hb => (by cases hb), fun _ => Fun.ch_go (.inl (by simpa using h56))⟩
    ·
     rintro frJ7 _ ⟨b, hsubJ7, rfl, hJ7⟩
     refine hK11 _ _ ?_
     refine .forget hsubJ7 ?_
     refine .cond rfl (fun h64 => ?_) (fun h64 => ?_)
     ·
      have hP1 := hJ7.1 h64
      refine .exit ?_
      refine hK9 _ _ ?_
      refine .region ?_
      refine .m rfl rfl rfl (.move rfl) ?_
      refine .m rfl rfl rfl (.add rfl rfl rfl (by omega) (by omega)) ?_
      refine .m rfl rfl rfl (.assign rfl) ?_
      refine .nil ?_
      refine hKL1 ((j + 1, _, _)) _ _ ?_ ?_ ⟨rfl, rfl, rfl, rfl, rfl, rfl, rfl, rfl, trivial⟩
      ·
       refine ⟨lst1, by first | assumption | (rw [filtTake_T (by omega) hP1]; assumption) | (rw [filtTake_F (by omega) hP1]; assumption), by omega, by first | omega | (simp only [List.length_append, List.length_cons, List.length_nil] <;> omega) | (rw [filtTake_T (by omega) hP1] <;> (first | omega | (simp only [List.length_append, List.length_cons, List.length_nil] <;> omega))) | (rw [filtTake_F (by omega) hP1] <;> (first | omega | (simp only [List.length_append, List.length_cons, List.length_nil] <;> omega))), ?_⟩
       omega
      ·
       (dsimp only; omega)
     ·
      have hgo := hJ7.2 h64
      refine .skip ?_
      refine hK10 _ _ ?_
      refine .seq (fun K12 hK12 => ?_)
      refine .region ?_
      have hls : (co.set x ((f.t.hom (f.ob.getD x 0) (k.ob.getD x 0)).getD j 0)).length = co.length := List.length_set
      have hcs : ∀ i, i < co.length → (co.set x ((f.t.hom (f.ob.getD x 0) (k.ob.getD x 0)).getD j 0)).getD i 0 < f.t.src.length := fun i hi => by
        rw [getD_set (by omega)]
        split
        · omega
        · exact hc i hi
      refine .m rfl rfl rfl (.move rfl) ?_
      refine .call rfl rfl rfl rfl @Try.call81 rfl (l01Own_c) ?_
      rintro _ H66 ⟨le66, g66, rfl, at66, ge66⟩
      have nx_H66 := le66.1
      replace hle := hle.trans le66
      replace lst1 := lst1.le le66
      replace at7 := le66.2 _ _ at7
      replace at8 := le66.2 _ _ at8
      replace at44 := le66.2 _ _ at44
      replace at_L10 := le66.2 _ _ at_L10
      have lt_at66 := GHeap.lt_of_get at66
      replace hS := base_hS.mono hle
      replace hin := base_hin.mono hle
      replace hin1 := base_hin1.mono hle
      replace hd := base_hd.mono hle
      clear hF hG kiso fsf ftf c10f c11f j1f j2f hmf hif hmsf hisf hmtf hitf fsg ftg c10g c11g j1g j2g hmg hig hmsg hisg hmtg hitg
      have hF : Fun.At _ gs (0 + 0) f p := ⟨hS.left, hin⟩
      have hG : Fun.At _ gs (0 + 12) k q := ⟨(hS.right (n := 12) rfl).left, hin1⟩
      have kiso : GHeap.cell _ gs (0 + 24) = some (.bool iso) := ((hS.right (n := 12) rfl).right (n := 12) rfl) 0 _ rfl
      obtain ⟨fsf, ftf, c10f, c11f, j1f, j2f⟩ := hF.get
      have hmf : MemN _ _ _ _ _ := ⟨rfl, hF.1⟩
      have hif := hF.2
      have hmsf : MemN _ _ _ _ _ := ⟨rfl, fsf.1⟩
      have hisf := fsf.2
      have hmtf : MemN _ _ _ _ _ := ⟨rfl, ftf.1⟩
      have hitf := ftf.2
      obtain ⟨fsg, ftg, c10g, c11g, j1g, j2g⟩ := hG.get
      have hmg : MemN _ _ _ _ _ := ⟨rfl, hG.1⟩
      have hig := hG.2
      have hmsg : MemN _ _ _ _ _ := ⟨rfl, fsg.1⟩
      have hisg := fsg.2
      have hmtg : MemN _ _ _ _ _ := ⟨rfl, ftg.1⟩
      have hitg := ftg.2
      clear hb7 c07 c17 c27 c37 c47 i17 i27 i37 i47 hm7 hi7
      have hb7 : Cat.At _ g7 0 f.s p.s := ⟨Mem.of_get at7, hin.1⟩
      obtain ⟨c07, c17, c27, c37, c47, i17, i27, i37, i47⟩ := hb7.get
      have hm7 : MemN _ _ _ _ _ := ⟨rfl, hb7.1⟩
      have hi7 := hb7.2
      clear hb8 c08 c18 c28 c38 c48 i18 i28 i38 i48 hm8 hi8
      have hb8 : Cat.At _ g8 0 f.t p.t := ⟨Mem.of_get at8, hin.2.1⟩
      obtain ⟨c08, c18, c28, c38, c48, i18, i28, i38, i48⟩ := hb8.get
      have hm8 : MemN _ _ _ _ _ := ⟨rfl, hb8.1⟩
      have hi8 := hb8.2
      clear i44
      have i44 := Ints.of_get at44
      have i66 := Ints.of_get at66
      refine .m rfl rfl rfl (.assign rfl) ?_
      refine .nil ?_
      refine hK12 _ _ ?_
      refine .seq (fun K13 hK13 => ?_)
      refine .region ?_
      refine .m rfl rfl rfl (.move rfl) ?_
      refine .m rfl rfl rfl (.move rfl) ?_
      refine .m rfl rfl rfl (.move rfl) ?_
      refine .m rfl rfl rfl (.move rfl) ?_
      refine .m rfl rfl rfl (.idxN sl_22_A (by first | assumption | exact SlA.of_row at44 (by first | rfl | (simp; done) | (simp <;> omega))) rfl rfl (by omega)) ?_
      refine .m rfl rfl rfl (.loadI on_2_A (by first | assumption | exact Ints.of_get at44) rfl (by omega)) ?_
      refine .m rfl rfl rfl (.idxN sl_22_A (by first | assumption | exact SlA.of_row at66 (by first | rfl | (simp; done) | (simp <;> omega))) rfl rfl (by omega)) ?_
      refine .r0 rfl rfl (.storeI rfl sz_2_E rfl rfl (by assumption) (by first | omega | (simp <;> omega))) ?_
      rintro _ H9007 ⟨rfl, st9007, at9007⟩
      have nx_H9007 := st9007.nx
      replace hle := hle.st st9007 (fun k hk => ⟨by omega, trivial⟩)
      replace lst1 := lst1.st st9007 (fun k hk ho => by simp only [out, and_true] at ho ⊢ <;> omega)
      replace at7 := st9007.same _ _ ⟨by omega, trivial⟩ at7
      replace at8 := st9007.same _ _ ⟨by omega, trivial⟩ at8
      replace at44 := st9007.same _ _ ⟨by omega, trivial⟩ at44
      replace at_L10 := st9007.same _ _ ⟨by omega, trivial⟩ at_L10
      have lt_at9007 := GHeap.lt_of_get at9007
      replace hS := base_hS.mono hle
      replace hin := base_hin.mono hle
      replace hin1 := base_hin1.mono hle
      replace hd := base_hd.mono hle
      clear hF hG kiso fsf ftf c10f c11f j1f j2f hmf hif hmsf hisf hmtf hitf fsg ftg c10g c11g j1g j2g hmg hig hmsg hisg hmtg hitg
      have hF : Fun.At _ gs (0 + 0) f p := ⟨hS.left, hin⟩
      have hG : Fun.At _ gs (0 + 12) k q := ⟨(hS.right (n := 12) rfl).left, hin1⟩
      have kiso : GHeap.cell _ gs (0 + 24) = some (.bool iso) := ((hS.right (n := 12) rfl).right (n := 12) rfl) 0 _ rfl
      obtain ⟨fsf, ftf, c10f, c11f, j1f, j2f⟩ := hF.get
      have hmf : MemN _ _ _ _ _ := ⟨rfl, hF.1⟩
      have hif := hF.2
      have hmsf : MemN _ _ _ _ _ := ⟨rfl, fsf.1⟩
      have hisf := fsf.2
      have hmtf : MemN _ _ _ _ _ := ⟨rfl, ftf.1⟩
      have hitf := ftf.2
      obtain ⟨fsg, ftg, c10g, c11g, j1g, j2g⟩ := hG.get
      have hmg : MemN _ _ _ _ _ := ⟨rfl, hG.1⟩
      have hig := hG.2
      have hmsg : MemN _ _ _ _ _ := ⟨rfl, fsg.1⟩
      have hisg := fsg.2
      have hmtg : MemN _ _ _ _ _ := ⟨rfl, ftg.1⟩
      have hitg := ftg.2
      clear hb7 c07 c17 c27 c37 c47 i17 i27 i37 i47 hm7 hi7
      have hb7 : Cat.At _ g7 0 f.s p.s := ⟨Mem.of_get at7, hin.1⟩
      obtain ⟨c07, c17, c27, c37, c47, i17, i27, i37, i47⟩ := hb7.get
      have hm7 : MemN _ _ _ _ _ := ⟨rfl, hb7.1⟩
      have hi7 := hb7.2
      clear hb8 c08 c18 c28 c38 c48 i18 i28 i38 i48 hm8 hi8
      have hb8 : Cat.At _ g8 0 f.t p.t := ⟨Mem.of_get at8, hin.2.1⟩
      obtain ⟨c08, c18, c28, c38, c48, i18, i28, i38, i48⟩ := hb8.get
      have hm8 : MemN _ _ _ _ _ := ⟨rfl, hb8.1⟩
      have hi8 := hb8.2
      clear i44
      have i44 := Ints.of_get at44
      clear i66
      have i66 := Ints.of_get at66
      rw [Nat.zero_add] at at9007
      refine .nil ?_
      refine hK13 _ _ ?_
      refine .seq (fun K14 hK14 => ?_)
      refine .region ?_
      refine .m rfl rfl rfl (.assign rfl) ?_
      refine .nil ?_
      refine hK14 _ _ ?_
      refine .seq (fun K15 hK15 => ?_)
      refine .seq (fun K16 hK16 => ?_)
      refine .region ?_
      refine .m rfl rfl rfl (.assign rfl) ?_
      refine .nil ?_
      refine hK16 _ _ ?_
      refine .block ?_
      refine .loopR (σ := Nat × Bool) [(0, some _), (1, some _), (2, some _), (7, some _), (8, some _), (9, some _), (10, some _), (11, some _), (12, some _)] (fun (a, b) => [(14, some (.int .i64 (a : Int))), (13, some (.bool b))]) (fun (a, b) H' => H9007 = H' ∧ a ≤ f.ar.length ∧ b = allN a ((f.net k iso).fitAt (co.set x ((f.t.hom (f.ob.getD x 0) (k.ob.getD x 0)).getD j 0)) x)) (fun (a, b) => f.ar.length - a) ((0, true)) ⟨rfl, rfl, rfl, rfl, rfl, rfl, rfl, rfl, rfl, trivial⟩ ⟨rfl, rfl, trivial⟩ ?_ ?_
      ·
       refine ⟨rfl, ?_⟩
       exact ⟨by omega, rfl⟩
      ·
       rintro ⟨a, b⟩ _ ⟨rfl, hI⟩ KL2 hKL2
       refine .forget (fr' := [(14, some (.int .i64 (a : Int))), (13, some (.bool b)), (0, some _), (1, some _), (2, some _), (7, some _), (8, some _), (9, some _), (10, some _), (11, some _), (12, some _)]) ⟨rfl, rfl, rfl, rfl, rfl, rfl, rfl, rfl, rfl, rfl, rfl, trivial⟩ ?_
       obtain ⟨ha, hb⟩ := hI
       refine .seq (fun K17 hK17 => ?_)
       refine .seq (fun K18 hK18 => ?_)
       refine .region ?_
       refine .m rfl rfl rfl (.move rfl) ?_
       refine .m rfl rfl rfl (.move rfl) ?_
       refine .split (fun h75 => ?_) (fun h75 => ?_)
       ·
        refine .mg rfl rfl rfl rfl rfl (.move rfl) ?_
        refine .mg rfl rfl rfl rfl rfl (.move rfl) ?_
        refine .mg rfl rfl rfl rfl rfl (.nilCheck rfl) ?_
        refine .mg rfl rfl rfl rfl rfl (.fieldAddr fo_89_0_Ha rfl) ?_
        refine .mg rfl rfl rfl rfl rfl (.fieldAddr fo_33_3_E rfl) ?_
        refine .mg rfl rfl rfl rfl rfl (.load on_22_B rfl (by assumption)) ?_
        refine .mg rfl rfl rfl rfl rfl (.len sl_22_A rfl) ?_
        refine .mg rfl rfl rfl rfl rfl (.cmp rfl rfl rfl) ?_
        refine .m rfl rfl rfl (.pickT rfl rfl) ?_
        refine .nil ?_
        refine hK18 _ _ ?_
        refine .cond rfl (fun h84 => ?_) (fun h84 => ?_)
        ·
         simp only [sps] at h84
         have a1 := hs.src a (by omega)
         have a2 := hs.tgt a (by omega)
         have a3 := hcs (f.s.src.getD a 0).toNat (by omega)
         have a4 := hcs (f.s.tgt.getD a 0).toNat (by omega)
         refine .skip ?_
         refine hK17 _ _ ?_
         refine .seq (fun K19 hK19 => ?_)
         refine .block ?_
         refine .seq (fun K20 hK20 => ?_)
         refine .regionD mixed_orders_B (.q 0 (.q 1 (.q 2 (.q 3 (.q 4 (.q 5 (.q 6 (.q 7 (.q 8 (.q 9 (.q 10 (.q 11 (.done))))))))))))) (by kernel_rfl) ?_
         refine .m rfl rfl rfl rfl (.refl _) (.fieldAddr fo_31_1_B rfl) ?_
         refine .m rfl rfl rfl rfl (.refl _) (.load on_22_B rfl (by first | assumption | exact Mem.of_get at7 1 _ rfl)) ?_
         refine .m rfl rfl rfl rfl (.refl _) (.move rfl) ?_
         refine .m rfl rfl rfl rfl (.refl _) (.idxN sl_22_A (by assumption) rfl rfl (by omega)) ?_
         refine .m rfl rfl rfl rfl (.refl _) (.loadI on_2_A (by assumption) rfl (by omega)) ?_
         refine .m rfl rfl rfl rfl (.refl _) (.fieldAddr fo_31_2_B rfl) ?_
         refine .m rfl rfl rfl rfl (.refl _) (.load on_22_B rfl (by first | assumption | exact Mem.of_get at7 2 _ rfl)) ?_
         refine .m rfl rfl rfl rfl (.refl _) (.move rfl) ?_
         refine .m rfl rfl rfl rfl (.refl _) (.idxN sl_22_A (by assumption) rfl rfl (by omega)) ?_
         refine .m rfl rfl rfl rfl (.refl _) (.loadI on_2_A (by assumption) rfl (by omega)) ?_
         refine .m rfl rfl rfl rfl (.refl _) (.assign rfl) ?_
         refine .m rfl rfl rfl rfl (.refl _) (.assign rfl) ?_
         refine .done ?_
         refine hK20 _ _ ?_
         refine .regionD mixed_orders_B (.q 0 (.q 1 (.q 2 (.q 3 (.q 4 (.q 5 (.q 6 (.q 7 (.q 8 (.q 9 (.q 10 (.q 11 (.q 12 (.q 13 (.q 14 (.q 15 (.q 16 (.q 17 (.q 18 (.q 19 (.q 20 (.q 21 (.q 22 (.q 23 (.q 24 (.q 25 (.q 26 (.q 27 (.q 28 (.q 29 (.q 30 (.q 31 (.q 32 (.c 33 0 (.q 34 (.q 35 (.done))))))))))))))))))))))))))))))))))))) (by kernel_rfl) ?_
         refine .cut [(0, some _), (1, some _), (2, some _), (7, some _), (8, some _), (9, some _), (10, some _), (11, some _), (12, some _), (14, some _), (15, some _), (16, some _), (74, some _), (75, some _), (76, some _), (77, some _), (78, some _), (79, some _), (80, some _), (81, some _), (82, some _), (83, some _), (84, some _), (87, some _), (88, some _), (89, some _), (90, some _), (91, some _), (92, some _), (93, some _), (94, some _), (95, some _), (96, some _)] ⟨rfl, rfl, rfl, rfl, rfl, rfl, rfl, rfl, rfl, rfl, rfl, rfl, rfl, rfl, rfl, rfl, rfl, rfl, rfl, rfl, rfl, rfl, rfl, rfl, rfl, rfl, rfl, rfl, rfl, rfl, rfl, rfl, rfl, trivial⟩ (fun rest fr' H' => ∃ b' : Bool, Sub ((13, some (.bool b')) :: rest) fr' ∧ H9007 = H' ∧ b' = allN (a + 1) ((f.net k iso).fitAt (co.set x ((f.t.hom (f.ob.getD x 0) (k.ob.getD x 0)).getD j 0)) x)) ?_ ?_
         ·
          refine .m rfl rfl rfl rfl (.refl _) (.move rfl) ?_
          refine .m rfl rfl rfl rfl (.refl _) (.move rfl) ?_
          refine .m rfl rfl rfl rfl (.refl _) (.cmp rfl rfl rfl) ?_
          refine .m rfl rfl rfl rfl (.refl _) (.move rfl) ?_
          refine .split (fun h100 => ?_) (fun h100 => ?_)
          ·
           simp only [sps] at h100
           refine .mg rfl rfl rfl rfl rfl rfl (.refl _) (.move rfl) ?_
           refine .mg rfl rfl rfl rfl rfl rfl (.refl _) (.move rfl) ?_
           refine .mg rfl rfl rfl rfl rfl rfl (.refl _) (.cmp rfl rfl rfl) ?_
           refine .m rfl rfl rfl rfl (.refl _) (.pickT rfl rfl) ?_
           refine .m rfl rfl rfl rfl (.refl _) (.move rfl) ?_
           refine .split (fun h105 => ?_) (fun h105 => ?_)
           ·
            simp only [sps] at h105
            refine .sg rfl rfl rfl rfl rfl rfl ?_
            refine .sg rfl rfl rfl rfl rfl rfl ?_
            refine .sg rfl rfl rfl rfl rfl rfl ?_
            refine .sg rfl rfl rfl rfl rfl rfl ?_
            refine .sg rfl rfl rfl rfl rfl rfl ?_
            refine .m rfl rfl rfl rfl (.refl _) (.pickT rfl rfl) ?_
            refine .m rfl rfl rfl rfl (.refl _) (.move rfl) ?_
            refine .sg rfl rfl rfl rfl rfl rfl ?_
            refine .sg rfl rfl rfl rfl rfl rfl ?_
            refine .sg rfl rfl rfl rfl rfl rfl ?_
            refine .sg rfl rfl rfl rfl rfl rfl ?_
            refine .sg rfl rfl rfl rfl rfl rfl ?_
            refine .m rfl rfl rfl rfl (.refl _) (.pickT rfl rfl) ?_
            refine .m rfl rfl rfl rfl (.refl _) (.move rfl) ?_
            refine .sg rfl rfl rfl rfl rfl rfl ?_
            refine .sg rfl rfl rfl rfl rfl rfl ?_
            refine .sg rfl rfl rfl rfl rfl rfl ?_
            refine .sg rfl rfl rfl rfl rfl rfl ?_
            refine .sg rfl rfl rfl rfl rfl rfl ?_
            refine .sg rfl rfl rfl rfl rfl rfl ?_
            refine .sg rfl rfl rfl rfl rfl rfl ?_
            refine .sg rfl rfl rfl rfl rfl rfl ?_
            refine .sg rfl rfl rfl rfl rfl rfl ?_
            refine .sg rfl rfl rfl rfl rfl rfl ?_
            refine .sgc rfl rfl rfl rfl rfl rfl ?_
            refine .m rfl rfl rfl rfl (.refl _) (.pickT rfl rfl) ?_
            refine .m rfl rfl rfl rfl (.refl _) (.assign rfl) ?_
            refine .done ?_
            refine ⟨_, ⟨rfl, rfl, rfl, rfl, rfl, rfl, rfl, rfl, rfl, rfl, rfl, rfl, rfl, rfl, rfl, rfl, rfl, rfl, rfl, rfl, rfl, rfl, rfl, rfl, rfl, rfl, rfl, rfl, rfl, rfl, rfl, rfl, rfl, rfl, trivial⟩, rfl, ?_⟩
            rw [allN_succ, ← hb, h75, Bool.true_and]
            exact (Net.fit_1 (toNat_ne a1.1 h100) (toNat_ne a2.1 h105)).symm
           ·
            simp only [sps] at h105
            refine .mg rfl rfl rfl rfl rfl rfl (.refl _) (.move rfl) ?_
            refine .mg rfl rfl rfl rfl rfl rfl (.refl _) (.move rfl) ?_
            refine .mg rfl rfl rfl rfl rfl rfl (.refl _) (.idx1 sl_22_A (by first | assumption | exact SlA.of_row at9007 (by first | rfl | (simp; done) | (simp <;> omega))) rfl rfl (by omega) (by omega)) ?_
            refine .mg rfl rfl rfl rfl rfl rfl (.refl _) (.loadI on_2_A (by first | assumption | exact Ints.of_get at9007) rfl (by omega)) ?_
            refine .mg rfl rfl rfl rfl rfl rfl (.refl _) (.cmp rfl rfl rfl) ?_
            refine .m rfl rfl rfl rfl (.refl _) (.pickF rfl rfl) ?_
            refine .m rfl rfl rfl rfl (.refl _) (.move rfl) ?_
            refine .split (fun h112 => ?_) (fun h112 => ?_)
            ·
             simp only [sps] at h112
             refine .sg rfl rfl rfl rfl rfl rfl ?_
             refine .sg rfl rfl rfl rfl rfl rfl ?_
             refine .sg rfl rfl rfl rfl rfl rfl ?_
             refine .sg rfl rfl rfl rfl rfl rfl ?_
             refine .sg rfl rfl rfl rfl rfl rfl ?_
             refine .m rfl rfl rfl rfl (.refl _) (.pickT rfl rfl) ?_
             refine .m rfl rfl rfl rfl (.refl _) (.move rfl) ?_
             refine .sg rfl rfl rfl rfl rfl rfl ?_
             refine .sg rfl rfl rfl rfl rfl rfl ?_
             refine .sg rfl rfl rfl rfl rfl rfl ?_
             refine .sg rfl rfl rfl rfl rfl rfl ?_
             refine .sg rfl rfl rfl rfl rfl rfl ?_
             refine .sg rfl rfl rfl rfl rfl rfl ?_
             refine .sg rfl rfl rfl rfl rfl rfl ?_
             refine .sg rfl rfl rfl rfl rfl rfl ?_
             refine .sg rfl rfl rfl rfl rfl rfl ?_
             refine .sg rfl rfl rfl rfl rfl rfl ?_
             refine .sgc rfl rfl rfl rfl rfl rfl ?_
             refine .m rfl rfl rfl rfl (.refl _) (.pickT rfl rfl) ?_
             refine .m rfl rfl rfl rfl (.refl _) (.assign rfl) ?_
             refine .done ?_
             refine ⟨_, ⟨rfl, rfl, rfl, rfl, rfl, rfl, rfl, rfl, rfl, rfl, rfl, rfl, rfl, rfl, rfl, rfl, rfl, rfl, rfl, rfl, rfl, rfl, rfl, rfl, rfl, rfl, rfl, rfl, rfl, rfl, rfl, rfl, rfl, rfl, trivial⟩, rfl, ?_⟩
             rw [allN_succ, ← hb, h75, Bool.true_and]
             exact (Net.fit_2 h112).symm
            ·
             simp only [sps] at h112
             refine .mg rfl rfl rfl rfl rfl rfl (.refl _) (.move rfl) ?_
             refine .mg rfl rfl rfl rfl rfl rfl (.refl _) (.move rfl) ?_
             refine .mg rfl rfl rfl rfl rfl rfl (.refl _) (.idx1 sl_22_A (by first | assumption | exact SlA.of_row at9007 (by first | rfl | (simp; done) | (simp <;> omega))) rfl rfl (by omega) (by omega)) ?_
             refine .mg rfl rfl rfl rfl rfl rfl (.refl _) (.loadI on_2_A (by first | assumption | exact Ints.of_get at9007) rfl (by omega)) ?_
             refine .mg rfl rfl rfl rfl rfl rfl (.refl _) (.cmp rfl rfl rfl) ?_
             refine .m rfl rfl rfl rfl (.refl _) (.pickF rfl rfl) ?_
             refine .m rfl rfl rfl rfl (.refl _) (.move rfl) ?_
             refine .split (fun h119 => ?_) (fun h119 => ?_)
             ·
              simp only [sps] at h119
              refine .sg rfl rfl rfl rfl rfl rfl ?_
              refine .sg rfl rfl rfl rfl rfl rfl ?_
              refine .sg rfl rfl rfl rfl rfl rfl ?_
              refine .sg rfl rfl rfl rfl rfl rfl ?_
              refine .sg rfl rfl rfl rfl rfl rfl ?_
              refine .sg rfl rfl rfl rfl rfl rfl ?_
              refine .sg rfl rfl rfl rfl rfl rfl ?_
              refine .sg rfl rfl rfl rfl rfl rfl ?_
              refine .sg rfl rfl rfl rfl rfl rfl ?_
              refine .sg rfl rfl rfl rfl rfl rfl ?_
              refine .sgc rfl rfl rfl rfl rfl rfl ?_
              refine .m rfl rfl rfl rfl (.refl _) (.pickT rfl rfl) ?_
              refine .m rfl rfl rfl rfl (.refl _) (.assign rfl) ?_
              refine .done ?_
              refine ⟨_, ⟨rfl, rfl, rfl, rfl, rfl, rfl, rfl, rfl, rfl, rfl, rfl, rfl, rfl, rfl, rfl, rfl, rfl, rfl, rfl, rfl, rfl, rfl, rfl, rfl, rfl, rfl, rfl, rfl, rfl, rfl, rfl, rfl, rfl, rfl, trivial⟩, rfl, ?_⟩
              rw [allN_succ, ← hb, h75, Bool.true_and]
              exact (Net.fit_3 h119).symm
             ·
              simp only [sps] at h119
              refine .mg rfl rfl rfl rfl rfl rfl (.refl _) (.move rfl) ?_
              refine .mg rfl rfl rfl rfl rfl rfl (.refl _) (.nilCheck rfl) ?_
              refine .mg rfl rfl rfl rfl rfl rfl (.refl _) (.fieldAddr fo_89_0_Ha rfl) ?_
              refine .mg rfl rfl rfl rfl rfl rfl (.refl _) (.loadM ag_33_E rfl (by assumption)) ?_
              refine .mg rfl rfl rfl rfl rfl rfl (.refl _) (.move rfl) ?_
              refine .mg rfl rfl rfl rfl rfl rfl (.refl _) (.nilCheck rfl) ?_
              refine .mg rfl rfl rfl rfl rfl rfl (.refl _) (.fieldAddr fo_89_1_Ha rfl) ?_
              refine .mg rfl rfl rfl rfl rfl rfl (.refl _) (.loadM ag_33_E rfl (by assumption)) ?_
              refine .mg rfl rfl rfl rfl rfl rfl (.refl _) (.move rfl) ?_
              refine .mg rfl rfl rfl rfl rfl rfl (.refl _) (.move rfl) ?_
              have hcc := l07SquareP_c (iso := iso) (n := co.length) (hin := hif) (hin' := hig) (SlA.of_ints at9007 hls) hP (by omega) (a := a) (by omega) ⟨by omega, by omega⟩ ⟨by omega, by omega⟩
              refine .callQ0g rfl rfl rfl rfl rfl rfl rfl @Try.call102 rfl (hcc) ?_
              refine .m rfl rfl rfl rfl (.refl _) (.pickF rfl rfl) ?_
              refine .m rfl rfl rfl rfl (.refl _) (.assign rfl) ?_
              refine .done ?_
              refine ⟨_, ⟨rfl, rfl, rfl, rfl, rfl, rfl, rfl, rfl, rfl, rfl, rfl, rfl, rfl, rfl, rfl, rfl, rfl, rfl, rfl, rfl, rfl, rfl, rfl, rfl, rfl, rfl, rfl, rfl, rfl, rfl, rfl, rfl, rfl, rfl, trivial⟩, rfl, ?_⟩
              rw [allN_succ, ← hb, h75, Bool.true_and]
              exact (Net.fit_4 (.inr (by show (f.s.tgt.getD a 0).toNat = x; omega)) (Int.not_lt.2 h112) (Int.not_lt.2 h119)).symm
          ·
           simp only [sps] at h100
           refine .sg rfl rfl rfl rfl rfl rfl ?_
           refine .sg rfl rfl rfl rfl rfl rfl ?_
           refine .sg rfl rfl rfl rfl rfl rfl ?_
           refine .m rfl rfl rfl rfl (.refl _) (.pickF rfl rfl) ?_
           refine .m rfl rfl rfl rfl (.refl _) (.move rfl) ?_
           refine .mg rfl rfl rfl rfl rfl rfl (.refl _) (.move rfl) ?_
           refine .mg rfl rfl rfl rfl rfl rfl (.refl _) (.move rfl) ?_
           refine .mg rfl rfl rfl rfl rfl rfl (.refl _) (.idx1 sl_22_A (by first | assumption | exact SlA.of_row at9007 (by first | rfl | (simp; done) | (simp <;> omega))) rfl rfl (by omega) (by omega)) ?_
           refine .mg rfl rfl rfl rfl rfl rfl (.refl _) (.loadI on_2_A (by first | assumption | exact Ints.of_get at9007) rfl (by omega)) ?_
           refine .mg rfl rfl rfl rfl rfl rfl (.refl _) (.cmp rfl rfl rfl) ?_
           refine .m rfl rfl rfl rfl (.refl _) (.pickF rfl rfl) ?_
           refine .m rfl rfl rfl rfl (.refl _) (.move rfl) ?_
           refine .split (fun h112 => ?_) (fun h112 => ?_)
           ·
            simp only [sps] at h112
            refine .sg rfl rfl rfl rfl rfl rfl ?_
            refine .sg rfl rfl rfl rfl rfl rfl ?_
            refine .sg rfl rfl rfl rfl rfl rfl ?_
            refine .sg rfl rfl rfl rfl rfl rfl ?_
            refine .sg rfl rfl rfl rfl rfl rfl ?_
            refine .m rfl rfl rfl rfl (.refl _) (.pickT rfl rfl) ?_
            refine .m rfl rfl rfl rfl (.refl _) (.move rfl) ?_
            refine .sg rfl rfl rfl rfl rfl rfl ?_
            refine .sg rfl rfl rfl rfl rfl rfl ?_
            refine .sg rfl rfl rfl rfl rfl rfl ?_
            refine .sg rfl rfl rfl rfl rfl rfl ?_
            refine .sg rfl rfl rfl rfl rfl rfl ?_
            refine .sg rfl rfl rfl rfl rfl rfl ?_
            refine .sg rfl rfl rfl rfl rfl rfl ?_
            refine .sg rfl rfl rfl rfl rfl rfl ?_
            refine .sg rfl rfl rfl rfl rfl rfl ?_
            refine .sg rfl rfl rfl rfl rfl rfl ?_
            refine .sgc rfl rfl rfl rfl rfl rfl ?_
            refine .m rfl rfl rfl rfl (.refl _) (.pickT rfl rfl) ?_
            refine .m rfl rfl rfl rfl (.refl _) (.assign rfl) ?_
            refine .done ?_
            refine ⟨_, ⟨rfl, rfl, rfl, rfl, rfl, rfl, rfl, rfl, rfl, rfl, rfl, rfl, rfl, rfl, rfl, rfl, rfl, rfl, rfl, rfl, rfl, rfl, rfl, rfl, rfl, rfl, rfl, rfl, rfl, rfl, rfl, rfl, rfl, rfl, trivial⟩, rfl, ?_⟩
            rw [allN_succ, ← hb, h75, Bool.true_and]
            exact (Net.fit_2 h112).symm
           ·
            simp only [sps] at h112
            refine .mg rfl rfl rfl rfl rfl rfl (.refl _) (.move rfl) ?_
            refine .mg rfl rfl rfl rfl rfl rfl (.refl _) (.move rfl) ?_
            refine .mg rfl rfl rfl rfl rfl rfl (.refl _) (.idx1 sl_22_A (by first | assumption | exact SlA.of_row at9007 (by first | rfl | (simp; done) | (simp <;> omega))) rfl rfl (by omega) (by omega)) ?_
            refine .mg rfl rfl rfl rfl rfl rfl (.refl _) (.loadI on_2_A (by first | assumption | exact Ints.of_get at9007) rfl (by omega)) ?_
            refine .mg rfl rfl rfl rfl rfl rfl (.refl _) (.cmp rfl rfl rfl) ?_
            refine .m rfl rfl rfl rfl (.refl _) (.pickF rfl rfl) ?_
            refine .m rfl rfl rfl rfl (.refl _) (.move rfl) ?_
            refine .split (fun h119 => ?_) (fun h119 => ?_)
            ·
             simp only [sps] at h119
             refine .sg rfl rfl rfl rfl rfl rfl ?_
             refine .sg rfl rfl rfl rfl rfl rfl ?_
             refine .sg rfl rfl rfl rfl rfl rfl ?_
             refine .sg rfl rfl rfl rfl rfl rfl ?_
             refine .sg rfl rfl rfl rfl rfl rfl ?_
             refine .sg rfl rfl rfl rfl rfl rfl ?_
             refine .sg rfl rfl rfl rfl rfl rfl ?_
             refine .sg rfl rfl rfl rfl rfl rfl ?_
             refine .sg rfl rfl rfl rfl rfl rfl ?_
             refine .sg rfl rfl rfl rfl rfl rfl ?_
             refine .sgc rfl rfl rfl rfl rfl rfl ?_
             refine .m rfl rfl rfl rfl (.refl _) (.pickT rfl rfl) ?_
             refine .m rfl rfl rfl rfl (.refl _) (.assign rfl) ?_
             refine .done ?_
             refine ⟨_, ⟨rfl, rfl, rfl, rfl, rfl, rfl, rfl, rfl, rfl, rfl, rfl, rfl, rfl, rfl, rfl, rfl, rfl, rfl, rfl, rfl, rfl, rfl, rfl, rfl, rfl, rfl, rfl, rfl, rfl, rfl, rfl, rfl, rfl, rfl, trivial⟩, rfl, ?_⟩
             rw [allN_succ, ← hb, h75, Bool.true_and]
             exact (Net.fit_3 h119).symm
            ·
             simp only [sps] at h119
             refine .mg rfl rfl rfl rfl rfl rfl (.refl _) (.move rfl) ?_
             refine .mg rfl rfl rfl rfl rfl rfl (.refl _) (.nilCheck rfl) ?_
             refine .mg rfl rfl rfl rfl rfl rfl (.refl _) (.fieldAddr fo_89_0_Ha rfl) ?_
             refine .mg rfl rfl rfl rfl rfl rfl (.refl _) (.loadM ag_33_E rfl (by assumption)) ?_
             refine .mg rfl rfl rfl rfl rfl rfl (.refl _) (.move rfl) ?_
             refine .mg rfl rfl rfl rfl rfl rfl (.refl _) (.nilCheck rfl) ?_
             refine .mg rfl rfl rfl rfl rfl rfl (.refl _) (.fieldAddr fo_89_1_Ha rfl) ?_
             refine .mg rfl rfl rfl rfl rfl rfl (.refl _) (.loadM ag_33_E rfl (by assumption)) ?_
             refine .mg rfl rfl rfl rfl rfl rfl (.refl _) (.move rfl) ?_
             refine .mg rfl rfl rfl rfl rfl rfl (.refl _) (.move rfl) ?_
             have hcc := l07SquareP_c (iso := iso) (n := co.length) (hin := hif) (hin' := hig) (SlA.of_ints at9007 hls) hP (by omega) (a := a) (by omega) ⟨by omega, by omega⟩ ⟨by omega, by omega⟩
             refine .callQ0g rfl rfl rfl rfl rfl rfl rfl @Try.call102 rfl (hcc) ?_
             refine .m rfl rfl rfl rfl (.refl _) (.pickF rfl rfl) ?_
             refine .m rfl rfl rfl rfl (.refl _) (.assign rfl) ?_
             refine .done ?_
             refine ⟨_, ⟨rfl, rfl, rfl, rfl, rfl, rfl, rfl, rfl, rfl, rfl, rfl, rfl, rfl, rfl, rfl, rfl, rfl, rfl, rfl, rfl, rfl, rfl, rfl, rfl, rfl, rfl, rfl, rfl, rfl, rfl, rfl, rfl, rfl, rfl, trivial⟩, rfl, ?_⟩
             rw [allN_succ, ← hb, h75, Bool.true_and]
             exact (Net.fit_4 (.inl (by show (f.s.src.getD a 0).toNat = x; omega)) (Int.not_lt.2 h112) (Int.not_lt.2 h119)).symm
         ·
          rintro frJ15 _ ⟨b', hsubJ15, rfl, hJ15⟩
          refine hK19 _ _ ?_
          refine .forget hsubJ15 ?_
          refine .region ?_
          refine .m rfl rfl rfl (.move rfl) ?_
          refine .m rfl rfl rfl (.add rfl rfl rfl (by omega) (by omega)) ?_
          refine .m rfl rfl rfl (.assign rfl) ?_
          refine .nil ?_
          refine hKL2 ((a + 1, b')) _ _ ?_ ?_ ⟨rfl, rfl, rfl, rfl, rfl, rfl, rfl, rfl, rfl, rfl, rfl, trivial⟩
          ·
           refine ⟨rfl, ?_⟩
           exact ⟨by omega, hJ15⟩
          ·
           (dsimp only; omega)
        ·
         try simp only [sps] at h84
         refine .exit ?_
         refine hK15 _ _ ?_
         refine .seq (fun K21 hK21 => ?_)
         refine .region ?_
         have hfit : b = (f.net k iso).fits (co.set x ((f.t.hom (f.ob.getD x 0) (k.ob.getD x 0)).getD j 0)) x := by
           rw [Net.fits_eq]
           cases hbb : b with
           | false => exact (allN_early (hb.symm.trans hbb) (show a ≤ f.ar.length by omega)).symm
           | true =>
             first
             | exact absurd hbb h75
             | exact absurd (show true = false from hbb.symm.trans h75) Bool.noConfusion
             | (obtain rfl : a = f.ar.length := by omega
                exact hbb.symm.trans hb)
         refine .m rfl rfl rfl (.move rfl) ?_
         refine .nil ?_
         refine hK21 _ _ ?_
         refine .cond rfl (fun h132 => ?_) (fun h132 => ?_)
         ·
          have hP1 := (hgo.trans hfit.symm).trans h132
          refine .region ?_
          refine .m rfl rfl rfl (.move rfl) ?_
          refine .m rfl rfl rfl (.move rfl) ?_
          refine .m rfl rfl rfl (.move rfl) ?_
          refine .m rfl rfl rfl (.idxN sl_22_A (by first | assumption | exact SlA.of_row at44 (by first | rfl | (simp; done) | (simp <;> omega))) rfl rfl (by omega)) ?_
          refine .m rfl rfl rfl (.loadI on_2_A (by first | assumption | exact Ints.of_get at44) rfl (by omega)) ?_
          refine .r rfl rfl rfl (.litR rfl sl_22_A ze_2_E rfl rfl (by omega) (by omega) rfl rfl) ?_
          rintro _ H138 ⟨g138, rfl, le138, ge138, at138⟩
          have nx_H138 := le138.1
          replace hle := hle.trans le138
          replace lst1 := lst1.le le138
          replace at7 := le138.2 _ _ at7
          replace at8 := le138.2 _ _ at8
          replace at44 := le138.2 _ _ at44
          replace at_L10 := le138.2 _ _ at_L10
          replace at9007 := le138.2 _ _ at9007
          have lt_at138 := GHeap.lt_of_get at138
          replace hS := base_hS.mono hle
          replace hin := base_hin.mono hle
          replace hin1 := base_hin1.mono hle
          replace hd := base_hd.mono hle
          clear hF hG kiso fsf ftf c10f c11f j1f j2f hmf hif hmsf hisf hmtf hitf fsg ftg c10g c11g j1g j2g hmg hig hmsg hisg hmtg hitg
          have hF : Fun.At _ gs (0 + 0) f p := ⟨hS.left, hin⟩
          have hG : Fun.At _ gs (0 + 12) k q := ⟨(hS.right (n := 12) rfl).left, hin1⟩
          have kiso : GHeap.cell _ gs (0 + 24) = some (.bool iso) := ((hS.right (n := 12) rfl).right (n := 12) rfl) 0 _ rfl
          obtain ⟨fsf, ftf, c10f, c11f, j1f, j2f⟩ := hF.get
          have hmf : MemN _ _ _ _ _ := ⟨rfl, hF.1⟩
          have hif := hF.2
          have hmsf : MemN _ _ _ _ _ := ⟨rfl, fsf.1⟩
          have hisf := fsf.2
          have hmtf : MemN _ _ _ _ _ := ⟨rfl, ftf.1⟩
          have hitf := ftf.2
          obtain ⟨fsg, ftg, c10g, c11g, j1g, j2g⟩ := hG.get
          have hmg : MemN _ _ _ _ _ := ⟨rfl, hG.1⟩
          have hig := hG.2
          have hmsg : MemN _ _ _ _ _ := ⟨rfl, fsg.1⟩
          have hisg := fsg.2
          have hmtg : MemN _ _ _ _ _ := ⟨rfl, ftg.1⟩
          have hitg := ftg.2
          clear hb7 c07 c17 c27 c37 c47 i17 i27 i37 i47 hm7 hi7
          have hb7 : Cat.At _ g7 0 f.s p.s := ⟨Mem.of_get at7, hin.1⟩
          obtain ⟨c07, c17, c27, c37, c47, i17, i27, i37, i47⟩ := hb7.get
          have hm7 : MemN _ _ _ _ _ := ⟨rfl, hb7.1⟩
          have hi7 := hb7.2
          clear hb8 c08 c18 c28 c38 c48 i18 i28 i38 i48 hm8 hi8
          have hb8 : Cat.At _ g8 0 f.t p.t := ⟨Mem.of_get at8, hin.2.1⟩
          obtain ⟨c08, c18, c28, c38, c48, i18, i28, i38, i48⟩ := hb8.get
          have hm8 : MemN _ _ _ _ _ := ⟨rfl, hb8.1⟩
          have hi8 := hb8.2
          clear i44
          have i44 := Ints.of_get at44
          clear i66
          have i66 := Ints.of_get at66
          refine .r rfl rfl rfl (.appendI rfl sl_22_A ze_2_E rfl by_2_E sl_22_A rfl rfl (by assumption) (by assumption) (by first | omega | (simp <;> omega)) (by omega) (by omega)) ?_
          rintro _ H139 ⟨g139, rfl, st139, ge139, at139⟩
          have nx_H139 := st139.nx
          replace hle := hle.st st139 (fun k hk => ⟨by omega, trivial⟩)
          replace lst1 := lst1.st st139 (fun k hk ho => by simp only [out, and_true] at ho ⊢ <;> omega)
          replace at7 := st139.same _ _ ⟨by omega, trivial⟩ at7
          replace at8 := st139.same _ _ ⟨by omega, trivial⟩ at8
          replace at44 := st139.same _ _ ⟨by omega, trivial⟩ at44
          replace at9007 := st139.same _ _ ⟨by omega, trivial⟩ at9007
          replace at138 := st139.same _ _ ⟨by omega, trivial⟩ at138
          have lt_at139 := GHeap.lt_of_get at139
          replace hS := base_hS.mono hle
          replace hin := base_hin.mono hle
          replace hin1 := base_hin1.mono hle
          replace hd := base_hd.mono hle
          clear hF hG kiso fsf ftf c10f c11f j1f j2f hmf hif hmsf hisf hmtf hitf fsg ftg c10g c11g j1g j2g hmg hig hmsg hisg hmtg hitg
          have hF : Fun.At _ gs (0 + 0) f p := ⟨hS.left, hin⟩
          have hG : Fun.At _ gs (0 + 12) k q := ⟨(hS.right (n := 12) rfl).left, hin1⟩
          have kiso : GHeap.cell _ gs (0 + 24) = some (.bool iso) := ((hS.right (n := 12) rfl).right (n := 12) rfl) 0 _ rfl
          obtain ⟨fsf, ftf, c10f, c11f, j1f, j2f⟩ := hF.get
          have hmf : MemN _ _ _ _ _ := ⟨rfl, hF.1⟩
          have hif := hF.2
          have hmsf : MemN _ _ _ _ _ := ⟨rfl, fsf.1⟩
          have hisf := fsf.2
          have hmtf : MemN _ _ _ _ _ := ⟨rfl, ftf.1⟩
          have hitf := ftf.2
          obtain ⟨fsg, ftg, c10g, c11g, j1g, j2g⟩ := hG.get
          have hmg : MemN _ _ _ _ _ := ⟨rfl, hG.1⟩
          have hig := hG.2
          have hmsg : MemN _ _ _ _ _ := ⟨rfl, fsg.1⟩
          have hisg := fsg.2
          have hmtg : MemN _ _ _ _ _ := ⟨rfl, ftg.1⟩
          have hitg := ftg.2
          clear hb7 c07 c17 c27 c37 c47 i17 i27 i37 i47 hm7 hi7
          have hb7 : Cat.At _ g7 0 f.s p.s := ⟨Mem.of_get at7, hin.1⟩
          obtain ⟨c07, c17, c27, c37, c47, i17, i27, i37, i47⟩ := hb7.get
          have hm7 : MemN _ _ _ _ _ := ⟨rfl, hb7.1⟩
          have hi7 := hb7.2
          clear hb8 c08 c18 c28 c38 c48 i18 i28 i38 i48 hm8 hi8
          have hb8 : Cat.At _ g8 0 f.t p.t := ⟨Mem.of_get at8, hin.2.1⟩
          obtain ⟨c08, c18, c28, c38, c48, i18, i28, i38, i48⟩ := hb8.get
          have hm8 : MemN _ _ _ _ _ := ⟨rfl, hb8.1⟩
          have hi8 := hb8.2
          clear i44
          have i44 := Ints.of_get at44
          clear i66
          have i66 := Ints.of_get at66
          refine .m rfl rfl rfl (.assign rfl) ?_
          refine .nil ?_
          refine hK9 _ _ ?_
          refine .region ?_
          refine .m rfl rfl rfl (.move rfl) ?_
          refine .m rfl rfl rfl (.add rfl rfl rfl (by omega) (by omega)) ?_
          refine .m rfl rfl rfl (.assign rfl) ?_
          refine .nil ?_
          refine hKL1 ((j + 1, _, _)) _ _ ?_ ?_ ⟨rfl, rfl, rfl, rfl, rfl, rfl, rfl, rfl, trivial⟩
          ·
           refine ⟨lst1, by first | assumption | (rw [filtTake_T (by omega) hP1]; assumption) | (rw [filtTake_F (by omega) hP1]; assumption), by omega, by first | omega | (simp only [List.length_append, List.length_cons, List.length_nil] <;> omega) | (rw [filtTake_T (by omega) hP1] <;> (first | omega | (simp only [List.length_append, List.length_cons, List.length_nil] <;> omega))) | (rw [filtTake_F (by omega) hP1] <;> (first | omega | (simp only [List.length_append, List.length_cons, List.length_nil] <;> omega))), ?_⟩
           omega
          ·
           (dsimp only; omega)
         ·
          have hP1 := (hgo.trans hfit.symm).trans (by simpa using h132)
          refine .skip ?_
          refine hK9 _ _ ?_
          refine .region ?_
          refine .m rfl rfl rfl (.move rfl) ?_
          refine .m rfl rfl rfl (.add rfl rfl rfl (by omega) (by omega)) ?_
          refine .m rfl rfl rfl (.assign rfl) ?_
          refine .nil ?_
          refine hKL1 ((j + 1, _, _)) _ _ ?_ ?_ ⟨rfl, rfl, rfl, rfl, rfl, rfl, rfl, rfl, trivial⟩
          ·
           refine ⟨lst1, by first | assumption | (rw [filtTake_T (by omega) hP1]; assumption) | (rw [filtTake_F (by omega) hP1]; assumption), by omega, by first | omega | (simp only [List.length_append, List.length_cons, List.length_nil] <;> omega) | (rw [filtTake_T (by omega) hP1] <;> (first | omega | (simp only [List.length_append, List.length_cons, List.length_nil] <;> omega))) | (rw [filtTake_F (by omega) hP1] <;> (first | omega | (simp only [List.length_append, List.length_cons, List.length_nil] <;> omega))), ?_⟩
           omega
          ·
           (dsimp only; omega)
       ·
        refine .sg rfl rfl rfl rfl rfl ?_
        refine .sg rfl rfl rfl rfl rfl ?_
        refine .sg rfl rfl rfl rfl rfl ?_
        refine .sg rfl rfl rfl rfl rfl ?_
        refine .sg rfl rfl rfl rfl rfl ?_
        refine .sg rfl rfl rfl rfl rfl ?_
        refine .sg rfl rfl rfl rfl rfl ?_
        refine .sg rfl rfl rfl rfl rfl ?_
        refine .m rfl rfl rfl (.pickF rfl rfl) ?_
        refine .nil ?_
        refine hK18 _ _ ?_
        refine .condF rfl ?_
        refine .exit ?_
        refine hK15 _ _ ?_
        refine .seq (fun K22 hK22 => ?_)
        refine .region ?_
        have hfit : b = (f.net k iso).fits (co.set x ((f.t.hom (f.ob.getD x 0) (k.ob.getD x 0)).getD j 0)) x := by
          rw [Net.fits_eq]
          cases hbb : b with
          | false => exact (allN_early (hb.symm.trans hbb) (show a ≤ f.ar.length by omega)).symm
          | true =>
            first
            | exact absurd hbb h75
            | exact absurd (show true = false from hbb.symm.trans h75) Bool.noConfusion
            | (obtain rfl : a = f.ar.length := by omega
               exact hbb.symm.trans hb)
        refine .m rfl rfl rfl (.move rfl) ?_
        refine .nil ?_
        refine hK22 _ _ ?_
        refine .cond rfl (fun h132 => ?_) (fun h132 => ?_)
        ·
         have hP1 := (hgo.trans hfit.symm).trans h132
         refine .region ?_
         refine .m rfl rfl rfl (.move rfl) ?_
         refine .m rfl rfl rfl (.move rfl) ?_
         refine .m rfl rfl rfl (.move rfl) ?_
         refine .m rfl rfl rfl (.idxN sl_22_A (by first | assumption | exact SlA.of_row at44 (by first | rfl | (simp; done) | (simp <;> omega))) rfl rfl (by omega)) ?_
         refine .m rfl rfl rfl (.loadI on_2_A (by first | assumption | exact Ints.of_get at44) rfl (by omega)) ?_
         refine .r rfl rfl rfl (.litR rfl sl_22_A ze_2_E rfl rfl (by omega) (by omega) rfl rfl) ?_
         rintro _ H138x2 ⟨g138x2, rfl, le138x2, ge138x2, at138x2⟩
         have nx_H138x2 := le138x2.1
         replace hle := hle.trans le138x2
         replace lst1 := lst1.le le138x2
         replace at7 := le138x2.2 _ _ at7
         replace at8 := le138x2.2 _ _ at8
         replace at44 := le138x2.2 _ _ at44
         replace at_L10 := le138x2.2 _ _ at_L10
         replace at9007 := le138x2.2 _ _ at9007
         have lt_at138x2 := GHeap.lt_of_get at138x2
         replace hS := base_hS.mono hle
         replace hin := base_hin.mono hle
         replace hin1 := base_hin1.mono hle
         replace hd := base_hd.mono hle
         clear hF hG kiso fsf ftf c10f c11f j1f j2f hmf hif hmsf hisf hmtf hitf fsg ftg c10g c11g j1g j2g hmg hig hmsg hisg hmtg hitg
         have hF : Fun.At _ gs (0 + 0) f p := ⟨hS.left, hin⟩
         have hG : Fun.At _ gs (0 + 12) k q := ⟨(hS.right (n := 12) rfl).left, hin1⟩
         have kiso : GHeap.cell _ gs (0 + 24) = some (.bool iso) := ((hS.right (n := 12) rfl).right (n := 12) rfl) 0 _ rfl
         obtain ⟨fsf, ftf, c10f, c11f, j1f, j2f⟩ := hF.get
         have hmf : MemN _ _ _ _ _ := ⟨rfl, hF.1⟩
         have hif := hF.2
         have hmsf : MemN _ _ _ _ _ := ⟨rfl, fsf.1⟩
         have hisf := fsf.2
         have hmtf : MemN _ _ _ _ _ := ⟨rfl, ftf.1⟩
         have hitf := ftf.2
         obtain ⟨fsg, ftg, c10g, c11g, j1g, j2g⟩ := hG.get
         have hmg : MemN _ _ _ _ _ := ⟨rfl, hG.1⟩
         have hig := hG.2
         have hmsg : MemN _ _ _ _ _ := ⟨rfl, fsg.1⟩
         have hisg := fsg.2
         have hmtg : MemN _ _ _ _ _ := ⟨rfl, ftg.1⟩
         have hitg := ftg.2
         clear hb7 c07 c17 c27 c37 c47 i17 i27 i37 i47 hm7 hi7
         have hb7 : Cat.At _ g7 0 f.s p.s := ⟨Mem.of_get at7, hin.1⟩
         obtain ⟨c07, c17, c27, c37, c47, i17, i27, i37, i47⟩ := hb7.get
         have hm7 : MemN _ _ _ _ _ := ⟨rfl, hb7.1⟩
         have hi7 := hb7.2
         clear hb8 c08 c18 c28 c38 c48 i18 i28 i38 i48 hm8 hi8
         have hb8 : Cat.At _ g8 0 f.t p.t := ⟨Mem.of_get at8, hin.2.1⟩
         obtain ⟨c08, c18, c28, c38, c48, i18, i28, i38, i48⟩ := hb8.get
         have hm8 : MemN _ _ _ _ _ := ⟨rfl, hb8.1⟩
         have hi8 := hb8.2
         clear i44
         have i44 := Ints.of_get at44
         clear i66
         have i66 := Ints.of_get at66
         refine .r rfl rfl rfl (.appendI rfl sl_22_A ze_2_E rfl by_2_E sl_22_A rfl rfl (by assumption) (by assumption) (by first | omega | (simp <;> omega)) (by omega) (by omega)) ?_
         rintro _ H139x2 ⟨g139x2, rfl, st139x2, ge139x2, at139x2⟩
         have nx_H139x2 := st139x2.nx
         replace hle := hle.st st139x2 (fun k hk => ⟨by omega, trivial⟩)
         replace lst1 := lst1.st st139x2 (fun k hk ho => by simp only [out, and_true] at ho ⊢ <;> omega)
         replace at7 := st139x2.same _ _ ⟨by omega, trivial⟩ at7
         replace at8 := st139x2.same _ _ ⟨by omega, trivial⟩ at8
         replace at44 := st139x2.same _ _ ⟨by omega, trivial⟩ at44
         replace at9007 := st139x2.same _ _ ⟨by omega, trivial⟩ at9007
         replace at138x2 := st139x2.same _ _ ⟨by omega, trivial⟩ at138x2
         have lt_at139x2 := GHeap.lt_of_get at139x2
         replace hS := base_hS.mono hle
         replace hin := base_hin.mono hle
         replace hin1 := base_hin1.mono hle
         replace hd := base_hd.mono hle
         clear hF hG kiso fsf ftf c10f c11f j1f j2f hmf hif hmsf hisf hmtf hitf fsg ftg c10g c11g j1g j2g hmg hig hmsg hisg hmtg hitg
         have hF : Fun.At _ gs (0 + 0) f p := ⟨hS.left, hin⟩
         have hG : Fun.At _ gs (0 + 12) k q := ⟨(hS.right (n := 12) rfl).left, hin1⟩
         have kiso : GHeap.cell _ gs (0 + 24) = some (.bool iso) := ((hS.right (n := 12) rfl).right (n := 12) rfl) 0 _ rfl
         obtain ⟨fsf, ftf, c10f, c11f, j1f, j2f⟩ := hF.get
         have hmf : MemN _ _ _ _ _ := ⟨rfl, hF.1⟩
         have hif := hF.2
         have hmsf : MemN _ _ _ _ _ := ⟨rfl, fsf.1⟩
         have hisf := fsf.2
         have hmtf : MemN _ _ _ _ _ := ⟨rfl, ftf.1⟩
         have hitf := ftf.2
         obtain ⟨fsg, ftg, c10g, c11g, j1g, j2g⟩ := hG.get
         have hmg : MemN _ _ _ _ _ := ⟨rfl, hG.1⟩
         have hig := hG.2
         have hmsg : MemN _ _ _ _ _ := ⟨rfl, fsg.1⟩
         have hisg := fsg.2
         have hmtg : MemN _ _ _ _ _ := ⟨rfl, ftg.1⟩
         have hitg := ftg.2
         clear hb7 c07 c17 c27 c37 c47 i17 i27 i37 i47 hm7 hi7
         have hb7 : Cat.At _ g7 0 f.s p.s := ⟨Mem.of_get at7, hin.1⟩
         obtain ⟨c07, c17, c27, c37, c47, i17, i27, i37, i47⟩ := hb7.get
         have hm7 : MemN _ _ _ _ _ := ⟨rfl, hb7.1⟩
         have hi7 := hb7.2
         clear hb8 c08 c18 c28 c38 c48 i18 i28 i38 i48 hm8 hi8
         have hb8 : Cat.At _ g8 0 f.t p.t := ⟨Mem.of_get at8, hin.2.1⟩
         obtain ⟨c08, c18, c28, c38, c48, i18, i28, i38, i48⟩ := hb8.get
         have hm8 : MemN _ _ _ _ _ := ⟨rfl, hb8.1⟩
         have hi8 := hb8.2
         clear i44
         have i44 := Ints.of_get at44
         clear i66
         have i66 := Ints.of_get at66
         refine .m rfl rfl rfl (.assign rfl) ?_
         refine .nil ?_
         refine hK9 _ _ ?_
         refine .region ?_
         refine .m rfl rfl rfl (.move rfl) ?_
         refine .m rfl rfl rfl (.add rfl rfl rfl (by omega) (by omega)) ?_
         refine .m rfl rfl rfl (.assign rfl) ?_
         refine .nil ?_
         refine hKL1 ((j + 1, _, _)) _ _ ?_ ?_ ⟨rfl, rfl, rfl, rfl, rfl, rfl, rfl, rfl, trivial⟩
         ·
          refine ⟨lst1, by first | assumption | (rw [filtTake_T (by omega) hP1]; assumption) | (rw [filtTake_F (by omega) hP1]; assumption), by omega, by first | omega | (simp only [List.length_append, List.length_cons, List.length_nil] <;> omega) | (rw [filtTake_T (by omega) hP1] <;> (first | omega | (simp only [List.length_append, List.length_cons, List.length_nil] <;> omega))) | (rw [filtTake_F (by omega) hP1] <;> (first | omega | (simp only [List.length_append, List.length_cons, List.length_nil] <;> omega))), ?_⟩
          omega
         ·
          (dsimp only; omega)
        ·
         have hP1 := (hgo.trans hfit.symm).trans (by simpa using h132)
         refine .skip ?_
         refine hK9 _ _ ?_
         refine .region ?_
         refine .m rfl rfl rfl (.move rfl) ?_
         refine .m rfl rfl rfl (.add rfl rfl rfl (by omega) (by omega)) ?_
         refine .m rfl rfl rfl (.assign rfl) ?_
         refine .nil ?_
         refine hKL1 ((j + 1, _, _)) _ _ ?_ ?_ ⟨rfl, rfl, rfl, rfl, rfl, rfl, rfl, rfl, trivial⟩
         ·
          refine ⟨lst1, by first | assumption | (rw [filtTake_T (by omega) hP1]; assumption) | (rw [filtTake_F (by omega) hP1]; assumption), by omega, by first | omega | (simp only [List.length_append, List.length_cons, List.length_nil] <;> omega) | (rw [filtTake_T (by omega) hP1] <;> (first | omega | (simp only [List.length_append, List.length_cons, List.length_nil] <;> omega))) | (rw [filtTake_F (by omega) hP1] <;> (first | omega | (simp only [List.length_append, List.length_cons, List.length_nil] <;> omega))), ?_⟩
          omega
         ·
          (dsimp only; omega)
   ·
    try simp only [sps] at h49
    refine .exit ?_
    refine hK5 _ _ ?_
    refine .seq (fun K23 hK23 => ?_)
    refine .region ?_
    refine .m rfl rfl rfl (.move rfl) ?_
    refine .m rfl rfl rfl (.assign rfl) ?_
    refine .nil ?_
    refine hK23 _ _ ?_
    refine .ret ?_
    -- leaf e1
    refine hret _ _ ?_
    refine ⟨_, rfl, ?_⟩
    obtain rfl : j = (f.t.hom (f.ob.getD x 0) (k.ob.getD x 0)).length := by omega
    rw [List.take_length, ← Fun.choices_eq] at at_L10 ln_L10
    exact ⟨hle, gL10, by rw [ln_L10], at_L10, by omega⟩
end Go.Proofs.Ytnohkokoimmclaa
/- A search that gathers what it finds: its steps, plain. No condition. -/
namespace Go.GL
/-- A list that may be nil. -/
def SlO (b : Nat) (H : GHeap) (a : Option Addr) (g : Nat) (cs : List Value) (e : TypeId) (k : Nat) : Prop := (a = none ∧ k = 0 ∧ cs = []) ∨ (a = some ⟨g, 0, none⟩ ∧ b ≤ g ∧ H.get g = some (.row cs e true))
theorem SlO.mono {b g k : Nat} {H H' : GHeap} {a : Option Addr} {cs : List Value} {e : TypeId} (h : SlO b H a g cs e k) (s : H.Le H') : SlO b H' a g cs e k := h.imp id fun ⟨h1, h2, h3⟩ => ⟨h1, h2, s.2 _ _ h3⟩
theorem SlO.st {b g k : Nat} {bs : List Nat} {H H' : GHeap} {a : Option Addr} {cs : List Value} {e : TypeId} (h : SlO b H a g cs e k) (s : St bs H H') (ho : out bs g) : SlO b H' a g cs e k := h.imp id fun ⟨h1, h2, h3⟩ => ⟨h1, h2, s.same _ _ ho h3⟩
section
variable {P : Program} {o : Oper} {fr : Slots} {H : GHeap}
theorem CDo.appendVO {t tx e e' : TypeId} {s x : Operand} {a : Option Addr} {b g g1 n sz bytes : Nat} {z cs vs : List Value} (ho : o.op = .call { callee := .builtin .append, args := #[s, x], argTypes := #[t, tx] }) (ht : sliceT P t = some (e, sz)) (hz : zeroT P e = some (z, sz)) (hzn : z.length = sz)
    (hb : (P.info? e).map (·.bytes) = some bytes) (htx : sliceT P tx = some (e', sz)) (hsv : ev fr s = some (.slice a n n)) (hx : ev fr x = some (.slice (some ⟨g1, 0, none⟩) 1 1)) (hA : SlO b H a g cs e n) (hg1 : H.get g1 = some (.row vs e' true)) (hend : n * sz = cs.length)
    (hs0 : 0 < sz) (hv : vs.length = sz) (hone : vs.all (·.oneCell') = true) (hN : n + 1 ≤ 16777216) (hB : (n + 1) * bytes ≤ 140737488355328) :
    CDo P o fr H (fun r H' => ∃ g', r = some (.slice (some ⟨g', 0, none⟩) (n + 1) (n + 1)) ∧ St [g] H H' ∧ H.next ≤ g' ∧ H'.get g' = some (.row (cs ++ vs) e true)) := by
  have hsrc : SrcG P fr H sz tx x 1 vs := .slice htx hx (by omega) (fun i v hv => by rw [GHeap.cell_of hg1, Nat.zero_add]; exact hv) (fun v hv => List.all_eq_true.1 hone v hv)
  rcases hA with ⟨rfl, rfl, rfl⟩ | ⟨rfl, h1, h2⟩
  · exact .appendNil ho ht hz hzn hb hsv hsrc (by omega) (by unfold maxLen; omega) (by omega) ⟨_, rfl, .push (.refl _ _), Nat.le_refl _, GHeap.get_push_new _ _⟩
  · exact .appendR (cs := cs) (news := vs) ho ht hz hzn hb hsv h2 (by omega) hsrc hN hB
end
/-- What has been found lies in the state's last cell. -/
structure FoundAt (T e e' : TypeId) (b : Nat) (H : GHeap) (gs gF : Nat) (f : Fun) (p : FunP) (k : Fun) (q : FunP) (iso : Bool) (M : Nat) (fs : List (List Int)) : Prop where
  ex : ∃ a r, H.get gs = some (.row (stCells f p k q iso (M : Int) a fs.length) T true) ∧ SlO b H a gF (slsL r fs) e fs.length ∧ OwnL b H e' r fs
theorem OwnL.mono {b : Nat} {H H' : GHeap} {e : TypeId} {r : Nat → Option Addr} {xss : List (List Int)} (h : OwnL b H e r xss) (s : H.Le H') : OwnL b H' e r xss := h.keep fun x xs hx => s.2 x _ hx
theorem FoundAt.mono {T e e' : TypeId} {b gs gF : Nat} {H H' : GHeap} {f k : Fun} {p q : FunP} {iso : Bool} {M : Nat} {fs : List (List Int)} (h : FoundAt T e e' b H gs gF f p k q iso M fs) (s : H.Le H') : FoundAt T e e' b H' gs gF f p k q iso M fs := by
  obtain ⟨a, r, h1, h2, h3⟩ := h.ex
  exact ⟨a, r, s.2 _ _ h1, h2.mono s, h3.mono s⟩
theorem St.le_of_nil {H H' : GHeap} (s : St [] H H') : H.Le H' := ⟨s.nx, fun k o hk => s.same k o trivial hk⟩
theorem take_more {α : Type} {l r : List α} {M : Nat} (h : (l.take M).length < M) : (l.take M ++ r).take M = (l ++ r).take M := by
  rw [List.length_take] at h
  rw [List.take_of_length_le (l := l) (by omega)]
theorem take_full {α : Type} {l r : List α} {M : Nat} (h : ¬ (l.take M).length < M) : (l ++ r).take M = l.take M := by
  rw [List.length_take] at h
  exact List.take_append_of_le_length (by omega)
theorem take_less {α : Type} {l : List α} {M : Nat} (h : l.length < M) : (l ++ []).take M = l := by rw [List.append_nil]; exact List.take_of_length_le (by omega)
theorem take_one {α : Type} {l : List α} {x : α} {M : Nat} (h : l.length < M) : (l ++ [x]).take M = l ++ [x] := List.take_of_length_le (by simp; omega)
/-- The places from y on have been seen; x: the first unknown one among them. -/
structure SeenU (n : Net) (co : List Int) (y : Nat) (x : Int) : Prop where
  fst : (x = -1 ∧ ∀ j, y ≤ j → j < co.length → ¬ co.getD j 0 = -1) ∨ (∃ m : Nat, x = m ∧ y ≤ m ∧ m < co.length ∧ co.getD m 0 = -1 ∧ ∀ j, y ≤ j → j < m → ¬ co.getD j 0 = -1)
  cho : ∀ j, y ≤ j → j < co.length → co.getD j 0 = -1 → n.choices co j ≠ []
theorem SeenU.start (n : Net) (co : List Int) : SeenU n co co.length (-1) := ⟨.inl ⟨rfl, fun j h1 h2 => by omega⟩, fun j h1 h2 => by omega⟩
theorem SeenU.hit {n : Net} {co : List Int} {y : Nat} {x : Int} (h : SeenU n co (y + 1) x) (hy : y < co.length) (hu : co.getD y 0 = -1) (hc : ¬ (n.choices co y).length = 0) : SeenU n co y y :=
  ⟨.inr ⟨y, rfl, Nat.le_refl _, hy, hu, fun j h1 h2 => by omega⟩, fun j h1 h2 h3 => by
    by_cases e : j = y
    · subst e; intro hn; rw [hn] at hc; exact hc rfl
    · exact h.cho j (by omega) h2 h3⟩
theorem SeenU.miss {n : Net} {co : List Int} {y : Nat} {x : Int} (h : SeenU n co (y + 1) x) (hu : ¬ co.getD y 0 = -1) : SeenU n co y x := by
  have hj : ∀ j, y ≤ j → (j = y ∨ y + 1 ≤ j) := fun j hj => by omega
  refine ⟨?_, fun j h1 h2 h3 => ?_⟩
  · rcases h.fst with ⟨h1, h2⟩ | ⟨m, h1, h2, h3, h4, h5⟩
    · refine .inl ⟨h1, fun j k1 k2 => ?_⟩
      rcases hj j k1 with e | e
      · subst e; exact hu
      · exact h2 j e k2
    · refine .inr ⟨m, h1, by omega, h3, h4, fun j k1 k2 => ?_⟩
      rcases hj j k1 with e | e
      · subst e; exact hu
      · exact h5 j e k2
  · rcases hj j h1 with e | e
    · subst e; exact absurd h3 hu
    · exact h.cho j e h2 h3
theorem SeenU.none {n : Net} {co : List Int} {x : Int} (h : SeenU n co 0 x) (hx : x < 0) (hc : ∀ x, ∀ h ∈ n.cand x, 0 ≤ h) : n.go co = [co] := by
  rcases h.fst with ⟨_, h2⟩ | ⟨m, h1, _⟩
  · rw [Net.go_eq hc, firstU_no fun j hj => h2 j (Nat.zero_le _) hj]
  · omega
theorem SeenU.some {n : Net} {co : List Int} {x : Int} (h : SeenU n co 0 x) (hx : ¬ x < 0) (hc : ∀ x, ∀ h ∈ n.cand x, 0 ≤ h) : ∃ m : Nat, x = m ∧ m < co.length ∧ co.getD m 0 = -1 ∧ n.go co = (n.choices co m).flatMap fun h => n.go (co.set m h) := by
  rcases h.fst with ⟨h1, _⟩ | ⟨m, h1, _, h3, h4, h5⟩
  · omega
  · refine ⟨m, h1, h3, h4, ?_⟩
    have hs : n.stuck co = false := by
      rw [← Bool.not_eq_true, Net.stuck_iff]
      rintro ⟨y, y1, y2, y3⟩
      exact h.cho y (Nat.zero_le _) y1 y2 y3
    rw [Net.go_eq hc, firstU_of h3 h4 fun j hj => h5 j (Nat.zero_le _) hj]
    simp only [hs, cond_false]
theorem Net.go_stuck {n : Net} {co : List Int} {y : Nat} (hy : y < co.length) (hu : co.getD y 0 = -1) (h : (n.choices co y).length = 0) (hc : ∀ x, ∀ h ∈ n.cand x, 0 ≤ h) : n.go co = [] := by
  have hs : n.stuck co = true := Net.stuck_iff.2 ⟨y, hy, hu, List.eq_nil_of_length_eq_zero h⟩
  rw [Net.go_eq hc]
  cases e : firstU co with
  | none => exact absurd hu (firstU_none e y hy)
  | some x => simp only [hs, cond_true]
theorem GT.regionDB {P : Program} {N : Nat} {Q : Exit → Slots → GHeap → Prop} {fr : Slots} {Hb H : GHeap} {id : Nat} {ops : Array Oper} (hm : P.follows .mixedOrders = true) (t : Tree) (hok : (ctxOf ops).ok [] false t = true) (hb : Hb.Le H) (h : GTree P N ops (fun fr' H' => Q .normal fr' H') t fr Hb H) :
    GT P N (.region id ops true) Q fr H := fun B w0 ρ a w hs hf => by
  refine wp_region_any hm ?_
  refine tree_sound (ρ0 := ρ) (fun ρ' fr' H' a' w' hQ he hs' hf' => ⟨ρ', fr', H', hQ, he, hs', hf'⟩) ops.size t [] fr Hb H ρ _ a _ ⟨hok, h, hb, .refl ρ, hs.drew, hf.1, hf.2.1, by simp, fun i hi => ?_, fun i hi => ?_, .nil, (fun i hi => by cases hi), (fun i hi => by cases hi), fun s v hv _ => hf.2.2 s v hv, (fun j hj => by cases hj)⟩ ?_
  · unfold lis at hi
    simp [Array.getD_eq_getD_getElem?, Array.getElem?_replicate] at hi
    split at hi <;> simp at hi
  · unfold lis at hi
    simp [Array.getD_eq_getD_getElem?, Array.getElem?_replicate] at hi
    split at hi <;> simp at hi
  · unfold left
    exact Nat.le_trans (List.length_filter_le _ _) (by simp)
theorem GHeap.get_erase {H : GHeap} {g k : Nat} {o : GObj} (h : (H.set g none).get k = some o) : k ≠ g ∧ H.get k = some o := by
  by_cases e : g = k
  · subst e
    by_cases hl : g < H.next
    · rw [GHeap.get_set_eq hl] at h; cases h
    · have := GHeap.lt_of_get h
      rw [GHeap.next_set] at this
      exact absurd this hl
  · rw [GHeap.get_set_ne e] at h
    exact ⟨Ne.symm e, h⟩
theorem GHeap.le_erase (H : GHeap) (g : Nat) : (H.set g none).Le H := ⟨by rw [GHeap.next_set]; exact Nat.le_refl _, fun _ _ h => (GHeap.get_erase h).2⟩
theorem GHeap.Le.erase_st {H0 H1 H2 : GHeap} {g : Nat} (h : (H0.set g none).Le H1) (s : St [g] H1 H2) : (H0.set g none).Le H2 := ⟨Nat.le_trans h.1 s.nx, fun k o hk => s.same k o ⟨(GHeap.get_erase hk).1, trivial⟩ (h.2 k o hk)⟩
theorem GHeap.get_erase_of {H : GHeap} {g k : Nat} {o : GObj} (h : H.get k = some o) (hk : k ≠ g) : (H.set g none).get k = some o := by rw [GHeap.get_set_ne (Ne.symm hk)]; exact h
theorem stCells_set {f k : Fun} {p : FunP} {q : FunP} {iso : Bool} {most : Int} {a a' : Option Addr} {n n' : Nat} : (stCells f p k q iso most a n).set 26 (.slice a' n' n') = stCells f p k q iso most a' n' := rfl
theorem SlO.neR {b gF : Nat} {H : GHeap} {a : Option Addr} {cs : List Value} {e e' : TypeId} {r : Nat → Option Addr} {fs : List (List Int)} (h : SlO b H a gF cs e fs.length) (ho : OwnL b H e' r fs) (hne : (e' != e) = true) : ∀ i, i < fs.length → r i ≠ some ⟨gF, 0, none⟩ := by
  rcases h with ⟨_, h, _⟩ | ⟨_, _, h⟩
  · intro i hi; omega
  · exact ho.neT h hne
theorem foldG_more {α β : Type} {fs : List β} {C : List α} {G : α → List β} {k M : Nat} {d : α} (hk : k < C.length) (h : ((fs ++ (C.take k).flatMap G).take M).length < M) : ((fs ++ (C.take k).flatMap G).take M ++ G (C.getD k d)).take M = (fs ++ (C.take (k + 1)).flatMap G).take M := by
  have e : (C.take (k + 1)).flatMap G = (C.take k).flatMap G ++ G (C.getD k d) := by
    rw [List.take_add_one, List.getElem?_eq_getElem hk, List.flatMap_append, List.getD_eq_getElem?_getD, List.getElem?_eq_getElem hk]
    simp
  rw [take_more h, e, List.append_assoc]
theorem foldG_done {α β : Type} {fs : List β} {C : List α} {G : α → List β} {k M : Nat} (h : k = C.length ∨ ¬ ((fs ++ (C.take k).flatMap G).take M).length < M) : (fs ++ (C.take k).flatMap G).take M = (fs ++ C.flatMap G).take M := by
  rcases h with h | h
  · subst h; rw [List.take_length]
  · have e : C.flatMap G = (C.take k).flatMap G ++ (C.drop k).flatMap G := by rw [← List.flatMap_append, List.take_append_drop]
    rw [e, ← List.append_assoc, take_full h]
theorem rangeS {α : Type} {f : Nat → α} {n : Nat} : (List.range (n + 1)).map f = (List.range n).map f ++ [f n] := by rw [List.range_succ, List.map_append]; rfl
/-- The ends of the arrows. -/
def Cat.endL (c : Cat) (n : Nat) : List (List Int) := (List.range n).map fun a => [c.src.getD a 0, c.tgt.getD a 0]
@[simp] theorem Cat.length_endL (c : Cat) (n : Nat) : (c.endL n).length = n := by simp [endL]
theorem Cat.endL_succ {c : Cat} {n : Nat} : c.endL (n + 1) = c.endL n ++ [[c.src.getD n 0, c.tgt.getD n 0]] := rangeS
theorem Cat.endL_get {c : Cat} {n i : Nat} (h : i < n) : (c.endL n).getD i [] = [c.src.getD i 0, c.tgt.getD i 0] := by simp [endL, List.getD_eq_getElem?_getD, h]
/-- Where a search for one component begins. -/
def startL (cls : List Int) (x y : Nat) : List Int := (List.range y).map fun i => if cls.getD i 0 = (x : Int) then -1 else -2
@[simp] theorem length_startL (cls : List Int) (x y : Nat) : (startL cls x y).length = y := by simp [startL]
theorem startL_T {cls : List Int} {x y : Nat} (h : cls.getD y 0 = (x : Int)) : startL cls x (y + 1) = startL cls x y ++ [-1] := by unfold startL; rw [rangeS, if_pos h]
theorem startL_F {cls : List Int} {x y : Nat} (h : ¬ cls.getD y 0 = (x : Int)) : startL cls x (y + 1) = startL cls x y ++ [-2] := by unfold startL; rw [rangeS, if_neg h]
theorem startL_get {cls : List Int} {x n y : Nat} (h : y < n) : (startL cls x n).getD y 0 = -1 ∨ (startL cls x n).getD y 0 < 0 := by
  have : (startL cls x n).getD y 0 = if cls.getD y 0 = (x : Int) then -1 else -2 := by simp [startL, List.getD_eq_getElem?_getD, h]
  rw [this]
  split
  · exact .inl rfl
  · exact .inr (by omega)
theorem startL_neg {cls : List Int} {x n i : Nat} {m : Nat} : (startL cls x n).getD i 0 < (m : Int) ∨ n ≤ i := by
  by_cases h : i < n
  · rcases startL_get (cls := cls) (x := x) h with h | h
    · exact .inl (by omega)
    · exact .inl (by omega)
  · exact .inr (by omega)
theorem Net.sols_nil {n : Net} {N x : Nat} (g : n.Good N) {cls : List Int} (h : n.go (startL cls x N) = []) : n.sols N = [] := by
  cases e : n.sols N with
  | nil => rfl
  | cons q l =>
    have hq : q ∈ n.sols N := by rw [e]; simp
    obtain ⟨h1, h2, h3⟩ := (Net.mem_sols g).1 hq
    exact absurd h (Net.go_some g h2 h3 rfl (length_startL _ _ _) fun y hy => (startL_get hy).imp id fun h => .inl h)
theorem SlO.intssr {b gF : Nat} {H : GHeap} {a : Option Addr} {e e' : TypeId} {r : Nat → Option Addr} {fs : List (List Int)} (h : SlO b H a gF (slsL r fs) e fs.length) (ho : OwnL b H e' r fs) : IntssR b H a fs r := by
  rcases h with ⟨rfl, h, _⟩ | ⟨rfl, h1, h2⟩
  · rw [List.eq_nil_of_length_eq_zero h]; exact .nil _ _ _
  · exact ho.done h2 h1
theorem take_one_nil {α : Type} {l : List α} (h : (l.take 1).length = 0) : l = [] := by
  cases l with
  | nil => rfl
  | cons a l => simp at h
theorem startL_lt {cls : List Int} {x n i m : Nat} (h : i < n) : (startL cls x n).getD i 0 < (m : Int) := by
  rcases startL_get (cls := cls) (x := x) h with h | h <;> omega
theorem repl_lt {n i m : Nat} (h : i < n) : (List.replicate n (-1 : Int)).getD i 0 < (m : Int) := by
  rw [List.getD_eq_getElem?_getD, List.getElem?_replicate, if_pos h]
  show (-1 : Int) < m
  omega
end Go.GL
/- Searches that tell a function of each list they find. No condition. -/
namespace Go.GL
/-- A function that is told of lists. A: what it has gathered; its first block is g1, its second one changes. -/
structure Hears (P : Program) (fn : Nat) (cap : Array Value) (e0 g1 most : Nat) (T : TypeId) (A : Nat → List (List Int) → Nat → GHeap → Prop) : Prop where
  code : ∀ (xs : Array Value) (w : World), (callFunc fn xs).run P w = .ok (.enter fn xs) w
  le : ∀ {b : Nat} {fs : List (List Int)} {gF : Nat} {H H' : GHeap}, A b fs gF H → H.Le H' → A b fs gF H'
  st : ∀ {b : Nat} {fs : List (List Int)} {gF gc : Nat} {H H' : GHeap}, A b fs gF H → e0 ≤ gc → gc < b → gc ≠ gF → St [gc] H H' → A b fs gF H'
  run : ∀ {b : Nat} {fs : List (List Int)} {gF gc : Nat} {q : List Int} {H : GHeap}, A b fs gF H → e0 ≤ gc → gc < b → gc ≠ gF → b ≤ H.next → H.get gc = some (.row (ints q) T true) → fs.length ≤ most → q.length ≤ 8 → gF < H.next →
    GCalls P fn ([.slice (some ⟨gc, 0, none⟩) q.length q.length] ++ cap.toList) H (fun v H' => v = .bool (decide (fs.length + 1 ≤ most)) ∧ ∃ gF', (gF' = gF ∨ H.next ≤ gF') ∧ gF' < H'.next ∧ St [g1, gF] H H' ∧ A b (fs ++ [q]) gF' H')
def Net.okAt (n : Net) (q : List Int) (x a : Nat) : Bool := !(max (n.sr a) (n.tg a) == x) || n.sq a (q.getD (n.sr a) 0) (q.getD (n.tg a) 0)
theorem Net.ok_eq (n : Net) (x : Nat) (q : List Int) : n.ok x q = allN n.A (n.okAt q x) := rfl
theorem Net.okAt_1 {n : Net} {q : List Int} {x a : Nat} (h : ¬ max (n.sr a) (n.tg a) = x) : n.okAt q x a = true := by simp [okAt, h]
theorem Net.okAt_2 {n : Net} {q : List Int} {x a : Nat} (h : max (n.sr a) (n.tg a) = x) : n.okAt q x a = n.sq a (q.getD (n.sr a) 0) (q.getD (n.tg a) 0) := by simp [okAt, h]
/-- What one candidate brings. -/
def chG (n : Net) (al : Int → Bool) (r : Nat) (p : List Int) (h : Int) : List (List Int) := bif al h then (bif n.ok p.length (p ++ [h]) then searchL n.cand n.ok r (p ++ [h]) else []) else []
theorem filter_flatMap {α β : Type} {l : List α} {P : α → Bool} {G : α → List β} : (l.filter P).flatMap G = l.flatMap fun h => bif P h then G h else [] := by
  induction l with
  | nil => rfl
  | cons a l ih =>
    rw [List.filter_cons, List.flatMap_cons, ← ih]
    cases P a <;> simp
theorem searchL_succ {n : Net} {hs : List Int} {al : Int → Bool} {r : Nat} {p : List Int} (h : n.cand p.length = hs.filter al) : searchL n.cand n.ok (r + 1) p = hs.flatMap (chG n al r p) := by
  conv => lhs; unfold searchL
  rw [h, filter_flatMap]
  rfl
theorem flatMap_snoc {α β : Type} {C : List α} {G : α → List β} {k : Nat} {d : α} (hk : k < C.length) : (C.take (k + 1)).flatMap G = (C.take k).flatMap G ++ G (C.getD k d) := by
  rw [List.take_add_one, List.getElem?_eq_getElem hk, List.flatMap_append, List.getD_eq_getElem?_getD, List.getElem?_eq_getElem hk]
  simp
theorem flatMap_split {α β : Type} {C : List α} {G : α → List β} {k : Nat} {d : α} (hk : k < C.length) : C.flatMap G = (C.take k).flatMap G ++ (G (C.getD k d) ++ (C.drop (k + 1)).flatMap G) := by
  rw [← List.append_assoc, ← flatMap_snoc hk, ← List.flatMap_append, List.take_append_drop]
theorem take_set_getD {co : List Int} {x i : Nat} {h : Int} (hx : x < co.length) (hi : i ≤ x) : (co.set x h).getD i 0 = (co.take x ++ [h]).getD i 0 := by
  rw [getD_set hx]
  by_cases e : i = x
  · subst e
    rw [if_pos rfl, List.getD_eq_getElem?_getD, List.getElem?_append_right (by rw [List.length_take]; omega), List.length_take]
    rw [show i - min i co.length = 0 by omega]; rfl
  · rw [if_neg e, getD_app_left (by rw [List.length_take]; omega), getD_take (by omega)]
theorem take_set_lt {co : List Int} {x : Nat} {h : Int} : (co.set x h).take x = co.take x := by
  apply List.ext_getElem?
  intro i
  by_cases hi : i < x
  · rw [List.getElem?_take_of_lt hi, List.getElem?_take_of_lt hi, List.getElem?_set_ne (by omega)]
  · rw [List.getElem?_eq_none (by rw [List.length_take]; omega), List.getElem?_eq_none (by rw [List.length_take]; omega)]
theorem take_set_succ {co : List Int} {x : Nat} {h : Int} (hx : x < co.length) : (co.set x h).take (x + 1) = co.take x ++ [h] := by
  rw [List.take_succ_eq_append_getElem (by simpa using hx), take_set_lt]
  simp
theorem take_le_eq {co co' : List Int} {x y : Nat} (h : co'.take y = co.take y) (hx : x ≤ y) : co'.take x = co.take x := by
  have := congrArg (List.take x) h
  rwa [List.take_take, List.take_take, show min x y = x by omega] at this
theorem takeD {co co' : List Int} {x i : Nat} (h : co'.take x = co.take x) (hi : i < x) : co'.getD i 0 = co.getD i 0 := by
  rw [← getD_take hi, h, getD_take hi]
def Fun.alB (f : Fun) (iso : Bool) (h : Int) : Bool := !iso || decide (0 ≤ f.t.inv h)
/-- What the first candidates bring. -/
def chP (n : Net) (al : Int → Bool) (r : Nat) (p : List Int) (hs : List Int) (j : Nat) : List (List Int) := (hs.take j).flatMap (chG n al r p)
theorem chP_zero (n : Net) (al : Int → Bool) (r : Nat) (p hs : List Int) : chP n al r p hs 0 = [] := by simp [chP]
theorem chP_succ {n : Net} {al : Int → Bool} {r : Nat} {p hs : List Int} {j : Nat} (h : j < hs.length) : chP n al r p hs (j + 1) = chP n al r p hs j ++ chG n al r p (hs.getD j 0) := flatMap_snoc h
theorem chP_no {n : Net} {al : Int → Bool} {r : Nat} {p hs : List Int} {j : Nat} (h : j < hs.length) (h0 : chG n al r p (hs.getD j 0) = []) : chP n al r p hs (j + 1) = chP n al r p hs j := by rw [chP_succ h, h0, List.append_nil]
theorem chG_no {n : Net} {al : Int → Bool} {r : Nat} {p : List Int} {h : Int} (h0 : al h = false) : chG n al r p h = [] := by unfold chG; rw [h0]; rfl
theorem chG_bad {n : Net} {al : Int → Bool} {r : Nat} {p : List Int} {h : Int} (h0 : n.ok p.length (p ++ [h]) = false) : chG n al r p h = [] := by unfold chG; rw [h0]; cases al h <;> rfl
theorem chG_yes {n : Net} {al : Int → Bool} {r : Nat} {p : List Int} {h : Int} (h0 : al h = true) (h1 : n.ok p.length (p ++ [h]) = true) : chG n al r p h = searchL n.cand n.ok r (p ++ [h]) := by unfold chG; rw [h0, h1]; rfl
theorem chP_all {n : Net} {al : Int → Bool} {r : Nat} {p hs : List Int} (h : n.cand p.length = hs.filter al) : searchL n.cand n.ok (r + 1) p = chP n al r p hs hs.length := by unfold chP; rw [List.take_length, searchL_succ h]
theorem chP_full {n : Net} {al : Int → Bool} {r M : Nat} {p hs : List Int} {fs : List (List Int)} {j : Nat} (h : n.cand p.length = hs.filter al) (hj : j < hs.length) (hM : M ≤ (fs ++ chP n al r p hs (j + 1)).length) :
    (fs ++ searchL n.cand n.ok (r + 1) p).take M = (fs ++ chP n al r p hs (j + 1)).take M ∧ M ≤ fs.length + (searchL n.cand n.ok (r + 1) p).length := by
  have e : searchL n.cand n.ok (r + 1) p = chP n al r p hs (j + 1) ++ (hs.drop (j + 1)).flatMap (chG n al r p) := by
    rw [searchL_succ h]
    unfold chP
    rw [← List.flatMap_append, List.take_append_drop]
  rw [List.length_append] at hM
  rw [e, ← List.append_assoc, List.take_append_of_le_length (by rw [List.length_append]; exact hM), List.length_append]
  exact ⟨rfl, by omega⟩
theorem bnot_T {b : Bool} (h : (!b) = true) : b = false := by cases b <;> simp_all
theorem bnot_f {b : Bool} (h : (!b) = false) : b = true := by cases b <;> simp_all
theorem bnot_F {b : Bool} (h : ¬ (!b) = true) : b = true := by cases b <;> simp_all
end Go.GL
/- The program's search for transformations. No condition but those of each statement. -/
namespace Go.Proofs.Ytnohkokoimmclaa
open Go Go.GL Go.RowKit Go.Proofs
theorem on_85_Hd : oneT Try.prog 85 = true := by kernel_rfl
theorem on_84_Hd : oneT Try.prog 84 = true := by kernel_rfl
/-- The variables that the search's function holds. -/
structure ChBox (gf of gk ok gc N fn fa fc : Nat) (cap capA : Array Value) (b1 b2 b3 b4 b5 b6 b7 b8 : Nat) (H : GHeap) : Prop where
  k1 : H.get b1 = some (.row [.pointer (some ⟨gf, of + 0, none⟩)] 96 true)
  k2 : H.get b2 = some (.row [.func (.func fn) #[] cap] 85 true)
  k3 : H.get b3 = some (.row [.slice (some ⟨gc, 0, none⟩) N N] 22 true)
  k4 : H.get b4 = some (.row [.pointer (some ⟨gf, of + 5, none⟩)] 96 true)
  k5 : H.get b5 = some (.row [.pointer (some ⟨gf, of, none⟩)] 65 true)
  k6 : H.get b6 = some (.row [.pointer (some ⟨gk, ok, none⟩)] 65 true)
  k7 : H.get b7 = some (.row [.func (.func fa) #[] capA] 84 true)
  k8 : H.get b8 = some (.row [.func (.func fc) #[] #[.pointer (some ⟨b1, 0, none⟩), .pointer (some ⟨b2, 0, none⟩), .pointer (some ⟨b3, 0, none⟩), .pointer (some ⟨b4, 0, none⟩), .pointer (some ⟨b5, 0, none⟩), .pointer (some ⟨b6, 0, none⟩), .pointer (some ⟨b7, 0, none⟩), .pointer (some ⟨b8, 0, none⟩)]] 84 true)
def chCap (b1 b2 b3 b4 b5 b6 b7 b8 : Nat) : List Value := [.pointer (some ⟨b1, 0, none⟩), .pointer (some ⟨b2, 0, none⟩), .pointer (some ⟨b3, 0, none⟩), .pointer (some ⟨b4, 0, none⟩), .pointer (some ⟨b5, 0, none⟩), .pointer (some ⟨b6, 0, none⟩), .pointer (some ⟨b7, 0, none⟩), .pointer (some ⟨b8, 0, none⟩)]
def ChSpec (f k : Fun) (iso : Bool) (A : Nat → List (List Int) → Nat → GHeap → Prop) (most e0 g1 b gf of gk ok gc fn fa : Nat) (cap capA : Array Value) (b1 b2 b3 b4 b5 b6 b7 b8 : Nat) (H0 : GHeap) (r : Nat) : Prop :=
  ∀ (x gF : Nat) (co : List Int) (fs : List (List Int)) (H : GHeap), x + r = f.ob.length → H0.Le H → ChBox gf of gk ok gc f.ob.length fn fa 76 cap capA b1 b2 b3 b4 b5 b6 b7 b8 H → H.get gc = some (.row (ints co) 2 true) → co.length = f.ob.length →
    (∀ i, i < x → 0 ≤ co.getD i 0 ∧ co.getD i 0 < f.t.src.length) → A b fs gF H → fs.length ≤ most → gF < H.next → H0.next ≤ gF → (gF < e0 ∨ b ≤ gF) → b ≤ H.next →
    GCalls Try.prog 76 (.int .i64 (x : Int) :: chCap b1 b2 b3 b4 b5 b6 b7 b8) H (fun v H' => ∃ gF' co', v = .bool (decide (fs.length + (searchL (f.net k iso).cand (f.net k iso).ok r (co.take x)).length ≤ most)) ∧ (gF' = gF ∨ H.next ≤ gF') ∧ gF' < H'.next ∧ St [gc, g1, gF] H H' ∧
      H'.get gc = some (.row (ints co') 2 true) ∧ co'.length = f.ob.length ∧ co'.take x = co.take x ∧ A b ((fs ++ searchL (f.net k iso).cand (f.net k iso).ok r (co.take x)).take (most + 1)) gF' H')
set_option maxHeartbeats 4000000 in
theorem choose0_c {f k : Fun} {p q : FunP} {iso : Bool} {A : Nat → List (List Int) → Nat → GHeap → Prop} {most e0 g1 b gf of gk ok gc fn fa : Nat} {cap capA : Array Value} {b1 b2 b3 b4 b5 b6 b7 b8 : Nat} {H0 : GHeap} (hf : Fun.At H0 gf of f p) (hk : Fun.At H0 gk ok k q) (hP : f.Par k)
    (hH : Hears Try.prog fn cap e0 g1 most 2 A) (hac : ∀ (xs : Array Value) (w : World), (callFunc fa xs).run Try.prog w = .ok (.enter fa xs) w)
    (hal : ∀ H', H0.Le H' → ∀ h : Int, 0 ≤ h → h < f.t.src.length → GCalls Try.prog fa ([.int .i64 h] ++ capA.toList) H' (Ret (.bool (f.alB iso h)) H'))
    (he0 : H0.next ≤ e0) (hg1 : H0.next ≤ g1) (hg2 : g1 < e0) (c0 : e0 ≤ gc ∧ gc < b) (c1 : e0 ≤ b1 ∧ b1 < b ∧ b1 ≠ gc) (c2 : e0 ≤ b2 ∧ b2 < b ∧ b2 ≠ gc) (c3 : e0 ≤ b3 ∧ b3 < b ∧ b3 ≠ gc) (c4 : e0 ≤ b4 ∧ b4 < b ∧ b4 ≠ gc) (c5 : e0 ≤ b5 ∧ b5 < b ∧ b5 ≠ gc) (c6 : e0 ≤ b6 ∧ b6 < b ∧ b6 ≠ gc) (c7 : e0 ≤ b7 ∧ b7 < b ∧ b7 ≠ gc) (c8 : e0 ≤ b8 ∧ b8 < b ∧ b8 ≠ gc) :
    ChSpec f k iso A most e0 g1 b gf of gk ok gc fn fa cap capA b1 b2 b3 b4 b5 b6 b7 b8 H0 0 := by
  have hs := hP.fi.1.1
  have n40 := hs.n40
  have hol := hP.fi.2.2.ol
  have hob := hs.obj
  have htl := hs.tl
  have hal2 := hP.fi.2.2.al
  have hkl := hP.gi.2.2.ol
  rw [← hP.ps] at hkl
  have ht40 := hP.fi.2.1.1.n40
  have hTS := hP.fi.2.1.1
  intro x gF co fs H hx hle0 hB hgc hl hr hA hfs hF hF0 hF1 hb
  obtain ⟨k1, k2, k3, k4, k5, k6, k7, k8⟩ := hB
  refine GCalls.body (N := 92) (rs := [.tmp 10]) Try.func76 rfl rfl rfl rfl (fun Qx hret hend => ?_)
  refine .forget (fr' := [(0, some _), (1, some _), (2, some _), (3, some _), (4, some _), (5, some _), (6, some _), (7, some _), (8, some _)]) ⟨rfl, rfl, rfl, rfl, rfl, rfl, rfl, rfl, rfl, trivial⟩ ?_
  have lt_k1 := GHeap.lt_of_get k1
  have lt_k2 := GHeap.lt_of_get k2
  have lt_k3 := GHeap.lt_of_get k3
  have lt_k4 := GHeap.lt_of_get k4
  have lt_k5 := GHeap.lt_of_get k5
  have lt_k6 := GHeap.lt_of_get k6
  have lt_k7 := GHeap.lt_of_get k7
  have lt_k8 := GHeap.lt_of_get k8
  have lt_hgc := GHeap.lt_of_get hgc
  have hfo := St.refl [gc, g1, gF] H
  have hz := hle0.st hfo (fun k hk => ⟨by omega, by omega, by omega, trivial⟩)
  have hF2 := hf.mono hz
  have hK2 := hk.mono hz
  obtain ⟨fsf, ftf, c10f, c11f, j1f, j2f⟩ := hF2.get
  have hmf : MemN _ _ _ _ _ := ⟨rfl, hF2.1⟩
  have hif := hF2.2
  have hmsf : MemN _ _ _ _ _ := ⟨rfl, fsf.1⟩
  have hisf := fsf.2
  have hmtf : MemN _ _ _ _ _ := ⟨rfl, ftf.1⟩
  have hitf := ftf.2
  obtain ⟨fsg, ftg, c10g, c11g, j1g, j2g⟩ := hK2.get
  have hmg : MemN _ _ _ _ _ := ⟨rfl, hK2.1⟩
  have hig := hK2.2
  have hmsg : MemN _ _ _ _ _ := ⟨rfl, fsg.1⟩
  have hisg := fsg.2
  have hmtg : MemN _ _ _ _ _ := ⟨rfl, ftg.1⟩
  have hitg := ftg.2
  obtain ⟨s0, s1, s2, s3, s4, u1, u2, u3, u4⟩ := fsf.get
  refine .seq (fun K1 hK1 => ?_)
  refine .region ?_
  refine .m rfl rfl rfl (.assign rfl) ?_
  refine .nil ?_
  refine hK1 _ _ ?_
  refine .scope ?_
  refine .seq (fun K2 hK2 => ?_)
  refine .seq (fun K3 hK3 => ?_)
  refine .region ?_
  refine .m rfl rfl rfl (.move rfl) ?_
  refine .m rfl rfl rfl (.load on_96_F rfl (by first | assumption | exact Mem.of_get k1 0 _ rfl)) ?_
  refine .m rfl rfl rfl (.nilCheck rfl) ?_
  refine .m rfl rfl rfl (.fieldAddr fo_31_0_B rfl) ?_
  refine .m rfl rfl rfl (.load on_2_A rfl (by assumption)) ?_
  refine .m rfl rfl rfl (.cmp rfl rfl rfl) ?_
  refine .nil ?_
  refine hK3 _ _ ?_
  refine .cond rfl (fun h19 => ?_) (fun h19 => ?_)
  ·
   try simp only [sps] at h19
   refine .seq (fun K4 hK4 => ?_)
   refine .region ?_
   refine .m rfl rfl rfl (.load on_85_Hd rfl (by first | assumption | exact Mem.of_get k2 0 _ rfl)) ?_
   refine .m rfl rfl rfl (.load on_22_B rfl (by first | assumption | exact Mem.of_get k3 0 _ rfl)) ?_
   refine .callV rfl rfl rfl rfl rfl hH.code rfl ((show GCalls _ fn ([.slice (some ⟨gc, 0, none⟩) f.ob.length f.ob.length] ++ cap.toList) _ _ from hl ▸ hH.run hA c0.1 c0.2 (by omega) hb hgc hfs (by omega) hF)) ?_
   rintro _ H22 ⟨rfl, gF22, hg22, hl22, st22, hA22⟩
   have nx_H22 := st22.nx
   replace hfo := hfo.st st22 (fun k hk ho => by simp only [out, and_true] at ho ⊢ <;> omega)
   replace k1 := st22.same _ _ ⟨by omega, by omega, trivial⟩ k1
   replace k2 := st22.same _ _ ⟨by omega, by omega, trivial⟩ k2
   replace k3 := st22.same _ _ ⟨by omega, by omega, trivial⟩ k3
   replace k4 := st22.same _ _ ⟨by omega, by omega, trivial⟩ k4
   replace k5 := st22.same _ _ ⟨by omega, by omega, trivial⟩ k5
   replace k6 := st22.same _ _ ⟨by omega, by omega, trivial⟩ k6
   replace k7 := st22.same _ _ ⟨by omega, by omega, trivial⟩ k7
   replace k8 := st22.same _ _ ⟨by omega, by omega, trivial⟩ k8
   replace hgc := st22.same _ _ ⟨by omega, by omega, trivial⟩ hgc
   clear hz hF2 hK2 fsf ftf c10f c11f j1f j2f hmf hif hmsf hisf hmtf hitf fsg ftg c10g c11g j1g j2g hmg hig hmsg hisg hmtg hitg s0 s1 s2 s3 s4 u1 u2 u3 u4
   have hz := hle0.st hfo (fun k hk => ⟨by omega, by omega, by omega, trivial⟩)
   have hF2 := hf.mono hz
   have hK2 := hk.mono hz
   obtain ⟨fsf, ftf, c10f, c11f, j1f, j2f⟩ := hF2.get
   have hmf : MemN _ _ _ _ _ := ⟨rfl, hF2.1⟩
   have hif := hF2.2
   have hmsf : MemN _ _ _ _ _ := ⟨rfl, fsf.1⟩
   have hisf := fsf.2
   have hmtf : MemN _ _ _ _ _ := ⟨rfl, ftf.1⟩
   have hitf := ftf.2
   obtain ⟨fsg, ftg, c10g, c11g, j1g, j2g⟩ := hK2.get
   have hmg : MemN _ _ _ _ _ := ⟨rfl, hK2.1⟩
   have hig := hK2.2
   have hmsg : MemN _ _ _ _ _ := ⟨rfl, fsg.1⟩
   have hisg := fsg.2
   have hmtg : MemN _ _ _ _ _ := ⟨rfl, ftg.1⟩
   have hitg := ftg.2
   obtain ⟨s0, s1, s2, s3, s4, u1, u2, u3, u4⟩ := fsf.get
   refine .m rfl rfl rfl (.assign rfl) ?_
   refine .nil ?_
   refine hK4 _ _ ?_
   refine .ret ?_
   -- leaf e1
   refine hret _ _ ?_
   refine ⟨_, rfl, ?_⟩
   have hx0 : co.take x = co := List.take_of_length_le (by omega)
   refine ⟨gF22, co, ?_, hg22, hl22, hfo, hgc, hl, rfl, ?_⟩
   · rw [hx0]; rfl
   · rw [hx0, show searchL (f.net k iso).cand (f.net k iso).ok 0 co = [co] from rfl, List.take_of_length_le (by simp; omega)]
     exact hA22
  ·
   simp only [sps] at h19; omega
set_option maxHeartbeats 4000000 in
theorem chooseS_c {f k : Fun} {p q : FunP} {iso : Bool} {A : Nat → List (List Int) → Nat → GHeap → Prop} {most e0 g1 b gf of gk ok gc fn fa : Nat} {cap capA : Array Value} {b1 b2 b3 b4 b5 b6 b7 b8 : Nat} {H0 : GHeap} (hf : Fun.At H0 gf of f p) (hk : Fun.At H0 gk ok k q) (hP : f.Par k)
    (hH : Hears Try.prog fn cap e0 g1 most 2 A) (hac : ∀ (xs : Array Value) (w : World), (callFunc fa xs).run Try.prog w = .ok (.enter fa xs) w)
    (hal : ∀ H', H0.Le H' → ∀ h : Int, 0 ≤ h → h < f.t.src.length → GCalls Try.prog fa ([.int .i64 h] ++ capA.toList) H' (Ret (.bool (f.alB iso h)) H'))
    (he0 : H0.next ≤ e0) (hg1 : H0.next ≤ g1) (hg2 : g1 < e0) (c0 : e0 ≤ gc ∧ gc < b) (c1 : e0 ≤ b1 ∧ b1 < b ∧ b1 ≠ gc) (c2 : e0 ≤ b2 ∧ b2 < b ∧ b2 ≠ gc) (c3 : e0 ≤ b3 ∧ b3 < b ∧ b3 ≠ gc) (c4 : e0 ≤ b4 ∧ b4 < b ∧ b4 ≠ gc) (c5 : e0 ≤ b5 ∧ b5 < b ∧ b5 ≠ gc) (c6 : e0 ≤ b6 ∧ b6 < b ∧ b6 ≠ gc) (c7 : e0 ≤ b7 ∧ b7 < b ∧ b7 ≠ gc) (c8 : e0 ≤ b8 ∧ b8 < b ∧ b8 ≠ gc) {r : Nat} (ih : ChSpec f k iso A most e0 g1 b gf of gk ok gc fn fa cap capA b1 b2 b3 b4 b5 b6 b7 b8 H0 r) :
    ChSpec f k iso A most e0 g1 b gf of gk ok gc fn fa cap capA b1 b2 b3 b4 b5 b6 b7 b8 H0 (r + 1) := by
  have hs := hP.fi.1.1
  have n40 := hs.n40
  have hol := hP.fi.2.2.ol
  have hob := hs.obj
  have htl := hs.tl
  have hal2 := hP.fi.2.2.al
  have hkl := hP.gi.2.2.ol
  rw [← hP.ps] at hkl
  have ht40 := hP.fi.2.1.1.n40
  have hTS := hP.fi.2.1.1
  intro x gF co fs H hx hle0 hB hgc hl hr hA hfs hF hF0 hF1 hb
  obtain ⟨k1, k2, k3, k4, k5, k6, k7, k8⟩ := hB
  refine GCalls.body (N := 92) (rs := [.tmp 10]) Try.func76 rfl rfl rfl rfl (fun Qx hret hend => ?_)
  refine .forget (fr' := [(0, some _), (1, some _), (2, some _), (3, some _), (4, some _), (5, some _), (6, some _), (7, some _), (8, some _)]) ⟨rfl, rfl, rfl, rfl, rfl, rfl, rfl, rfl, rfl, trivial⟩ ?_
  have lt_k1 := GHeap.lt_of_get k1
  have lt_k2 := GHeap.lt_of_get k2
  have lt_k3 := GHeap.lt_of_get k3
  have lt_k4 := GHeap.lt_of_get k4
  have lt_k5 := GHeap.lt_of_get k5
  have lt_k6 := GHeap.lt_of_get k6
  have lt_k7 := GHeap.lt_of_get k7
  have lt_k8 := GHeap.lt_of_get k8
  have lt_hgc := GHeap.lt_of_get hgc
  have hfo := St.refl [gc, g1, gF] H
  have hz := hle0.st hfo (fun k hk => ⟨by omega, by omega, by omega, trivial⟩)
  have hF2 := hf.mono hz
  have hK2 := hk.mono hz
  obtain ⟨fsf, ftf, c10f, c11f, j1f, j2f⟩ := hF2.get
  have hmf : MemN _ _ _ _ _ := ⟨rfl, hF2.1⟩
  have hif := hF2.2
  have hmsf : MemN _ _ _ _ _ := ⟨rfl, fsf.1⟩
  have hisf := fsf.2
  have hmtf : MemN _ _ _ _ _ := ⟨rfl, ftf.1⟩
  have hitf := ftf.2
  obtain ⟨fsg, ftg, c10g, c11g, j1g, j2g⟩ := hK2.get
  have hmg : MemN _ _ _ _ _ := ⟨rfl, hK2.1⟩
  have hig := hK2.2
  have hmsg : MemN _ _ _ _ _ := ⟨rfl, fsg.1⟩
  have hisg := fsg.2
  have hmtg : MemN _ _ _ _ _ := ⟨rfl, ftg.1⟩
  have hitg := ftg.2
  obtain ⟨s0, s1, s2, s3, s4, u1, u2, u3, u4⟩ := fsf.get
  refine .seq (fun K1 hK1 => ?_)
  refine .region ?_
  refine .m rfl rfl rfl (.assign rfl) ?_
  refine .nil ?_
  refine hK1 _ _ ?_
  refine .scope ?_
  refine .seq (fun K2 hK2 => ?_)
  refine .seq (fun K3 hK3 => ?_)
  refine .region ?_
  refine .m rfl rfl rfl (.move rfl) ?_
  refine .m rfl rfl rfl (.load on_96_F rfl (by first | assumption | exact Mem.of_get k1 0 _ rfl)) ?_
  refine .m rfl rfl rfl (.nilCheck rfl) ?_
  refine .m rfl rfl rfl (.fieldAddr fo_31_0_B rfl) ?_
  refine .m rfl rfl rfl (.load on_2_A rfl (by assumption)) ?_
  refine .m rfl rfl rfl (.cmp rfl rfl rfl) ?_
  refine .nil ?_
  refine hK3 _ _ ?_
  refine .cond rfl (fun h19 => ?_) (fun h19 => ?_)
  ·
   simp only [sps] at h19; omega
  ·
   try simp only [sps] at h19
   refine .skip ?_
   refine hK2 _ _ ?_
   refine .seq (fun K4 hK4 => ?_)
   refine .label ?_
   refine hK4 _ _ ?_
   refine .seq (fun K5 hK5 => ?_)
   refine .seq (fun K6 hK6 => ?_)
   refine .regionD mixed_orders_B (.q 0 (.q 1 (.q 2 (.q 3 (.q 4 (.q 5 (.q 6 (.q 7 (.q 8 (.q 9 (.q 10 (.q 11 (.q 12 (.q 13 (.q 14 (.q 17 (.c 15 1 (.q 16 (.done))))))))))))))))))) (by kernel_rfl) ?_
   refine .m rfl rfl rfl rfl (.refl _) (.load on_96_F rfl (by first | assumption | exact Mem.of_get k4 0 _ rfl)) ?_
   refine .m rfl rfl rfl rfl (.refl _) (.load on_65_G rfl (by first | assumption | exact Mem.of_get k5 0 _ rfl)) ?_
   refine .m rfl rfl rfl rfl (.refl _) (.nilCheck rfl) ?_
   refine .m rfl rfl rfl rfl (.refl _) (.fieldAddr fo_33_2_E rfl) ?_
   refine .m rfl rfl rfl rfl (.refl _) (.load on_22_B rfl (by assumption)) ?_
   refine .m rfl rfl rfl rfl (.refl _) (.move rfl) ?_
   refine .m rfl rfl rfl rfl (.refl _) (.idxN sl_22_A (by assumption) rfl rfl (by omega)) ?_
   refine .m rfl rfl rfl rfl (.refl _) (.loadI on_2_A (by assumption) rfl (by omega)) ?_
   refine .m rfl rfl rfl rfl (.refl _) (.load on_65_G rfl (by first | assumption | exact Mem.of_get k6 0 _ rfl)) ?_
   refine .m rfl rfl rfl rfl (.refl _) (.nilCheck rfl) ?_
   refine .m rfl rfl rfl rfl (.refl _) (.fieldAddr fo_33_2_E rfl) ?_
   refine .m rfl rfl rfl rfl (.refl _) (.load on_22_B rfl (by assumption)) ?_
   refine .m rfl rfl rfl rfl (.refl _) (.move rfl) ?_
   refine .m rfl rfl rfl rfl (.refl _) (.idxN sl_22_A (by assumption) rfl rfl (by omega)) ?_
   refine .m rfl rfl rfl rfl (.refl _) (.loadI on_2_A (by assumption) rfl (by omega)) ?_
   refine .m rfl rfl rfl rfl (.refl _) (.move rfl) ?_
   have hhl := Cat.hom_le f.t (f.ob.getD x 0) (k.ob.getD x 0)
   refine .call1 rfl rfl rfl rfl rfl @Try.call77 rfl (hom_c (c := f.t)) ?_
   rintro _ H38 ⟨le38, g38, rfl, at38, ge38⟩
   have hbl := le38
   refine ⟨hbl, ?_⟩
   have nx_H38 := le38.1
   replace hfo := hfo.le le38
   replace k1 := le38.2 _ _ k1
   replace k2 := le38.2 _ _ k2
   replace k3 := le38.2 _ _ k3
   replace k4 := le38.2 _ _ k4
   replace k5 := le38.2 _ _ k5
   replace k6 := le38.2 _ _ k6
   replace k7 := le38.2 _ _ k7
   replace k8 := le38.2 _ _ k8
   replace hgc := le38.2 _ _ hgc
   have lt_at38 := GHeap.lt_of_get at38
   clear hz hF2 hK2 fsf ftf c10f c11f j1f j2f hmf hif hmsf hisf hmtf hitf fsg ftg c10g c11g j1g j2g hmg hig hmsg hisg hmtg hitg s0 s1 s2 s3 s4 u1 u2 u3 u4
   have hz := hle0.st hfo (fun k hk => ⟨by omega, by omega, by omega, trivial⟩)
   have hF2 := hf.mono hz
   have hK2 := hk.mono hz
   obtain ⟨fsf, ftf, c10f, c11f, j1f, j2f⟩ := hF2.get
   have hmf : MemN _ _ _ _ _ := ⟨rfl, hF2.1⟩
   have hif := hF2.2
   have hmsf : MemN _ _ _ _ _ := ⟨rfl, fsf.1⟩
   have hisf := fsf.2
   have hmtf : MemN _ _ _ _ _ := ⟨rfl, ftf.1⟩
   have hitf := ftf.2
   obtain ⟨fsg, ftg, c10g, c11g, j1g, j2g⟩ := hK2.get
   have hmg : MemN _ _ _ _ _ := ⟨rfl, hK2.1⟩
   have hig := hK2.2
   have hmsg : MemN _ _ _ _ _ := ⟨rfl, fsg.1⟩
   have hisg := fsg.2
   have hmtg : MemN _ _ _ _ _ := ⟨rfl, ftg.1⟩
   have hitg := ftg.2
   obtain ⟨s0, s1, s2, s3, s4, u1, u2, u3, u4⟩ := fsf.get
   have i38 := Ints.of_get at38
   refine .m rfl rfl rfl rfl hbl (.len sl_22_A rfl) ?_
   refine .done ?_
   refine hK6 _ _ ?_
   refine .block ?_
   refine .loopR (σ := Nat × Nat × List Int) [(0, some _), (1, some _), (3, some _), (5, some _), (6, some _), (7, some _), (8, some _), (38, some _), (39, some _)] (fun (j, gV, co') => [(40, some (.int .i64 (j : Int)))]) (fun (j, gV, co') H' => St [gc, g1, gF] H38 H' ∧ H'.get gc = some (.row (ints co') 2 true) ∧ j ≤ (f.t.hom (f.ob.getD x 0) (k.ob.getD x 0)).length ∧ co'.length = f.ob.length ∧ co'.take x = co.take x ∧ (gV = gF ∨ H38.next ≤ gV) ∧ gV < H'.next ∧ A b (fs ++ chP (f.net k iso) (f.alB iso) r (co.take x) (f.t.hom (f.ob.getD x 0) (k.ob.getD x 0)) j) gV H' ∧ (fs ++ chP (f.net k iso) (f.alB iso) r (co.take x) (f.t.hom (f.ob.getD x 0) (k.ob.getD x 0)) j).length ≤ most) (fun (j, gV, co') => (f.t.hom (f.ob.getD x 0) (k.ob.getD x 0)).length - j) ((0, gF, co)) ⟨rfl, rfl, rfl, rfl, rfl, rfl, rfl, rfl, rfl, trivial⟩ ⟨rfl, trivial⟩ ?_ ?_
   ·
    refine ⟨.refl _ _, by first | assumption | exact hgc | simpa using hgc, ?_⟩
    rw [chP_zero, List.append_nil]
    exact ⟨by omega, hl, rfl, .inl rfl, by omega, hH.le hA le38, hfs⟩
   ·
    rintro ⟨j, gV, co'⟩ HL1 ⟨lst1, at_Lgc, hI⟩ KL1 hKL1
    refine .forget (fr' := [(40, some (.int .i64 (j : Int))), (0, some _), (1, some _), (3, some _), (5, some _), (6, some _), (7, some _), (8, some _), (38, some _), (39, some _)]) ⟨rfl, rfl, rfl, rfl, rfl, rfl, rfl, rfl, rfl, rfl, trivial⟩ ?_
    have nx_HL1 := lst1.nx
    replace hfo := hfo.st lst1 (fun k hk ho => by simp only [out, and_true] at ho ⊢ <;> omega)
    replace k1 := lst1.same _ _ ⟨by omega, by omega, by omega, trivial⟩ k1
    replace k2 := lst1.same _ _ ⟨by omega, by omega, by omega, trivial⟩ k2
    replace k3 := lst1.same _ _ ⟨by omega, by omega, by omega, trivial⟩ k3
    replace k4 := lst1.same _ _ ⟨by omega, by omega, by omega, trivial⟩ k4
    replace k5 := lst1.same _ _ ⟨by omega, by omega, by omega, trivial⟩ k5
    replace k6 := lst1.same _ _ ⟨by omega, by omega, by omega, trivial⟩ k6
    replace k7 := lst1.same _ _ ⟨by omega, by omega, by omega, trivial⟩ k7
    replace k8 := lst1.same _ _ ⟨by omega, by omega, by omega, trivial⟩ k8
    replace at38 := lst1.same _ _ ⟨by omega, by omega, by omega, trivial⟩ at38
    have lt_at_Lgc := GHeap.lt_of_get at_Lgc
    clear hz hF2 hK2 fsf ftf c10f c11f j1f j2f hmf hif hmsf hisf hmtf hitf fsg ftg c10g c11g j1g j2g hmg hig hmsg hisg hmtg hitg s0 s1 s2 s3 s4 u1 u2 u3 u4
    have hz := hle0.st hfo (fun k hk => ⟨by omega, by omega, by omega, trivial⟩)
    have hF2 := hf.mono hz
    have hK2 := hk.mono hz
    obtain ⟨fsf, ftf, c10f, c11f, j1f, j2f⟩ := hF2.get
    have hmf : MemN _ _ _ _ _ := ⟨rfl, hF2.1⟩
    have hif := hF2.2
    have hmsf : MemN _ _ _ _ _ := ⟨rfl, fsf.1⟩
    have hisf := fsf.2
    have hmtf : MemN _ _ _ _ _ := ⟨rfl, ftf.1⟩
    have hitf := ftf.2
    obtain ⟨fsg, ftg, c10g, c11g, j1g, j2g⟩ := hK2.get
    have hmg : MemN _ _ _ _ _ := ⟨rfl, hK2.1⟩
    have hig := hK2.2
    have hmsg : MemN _ _ _ _ _ := ⟨rfl, fsg.1⟩
    have hisg := fsg.2
    have hmtg : MemN _ _ _ _ _ := ⟨rfl, ftg.1⟩
    have hitg := ftg.2
    obtain ⟨s0, s1, s2, s3, s4, u1, u2, u3, u4⟩ := fsf.get
    clear i38
    have i38 := Ints.of_get at38
    obtain ⟨hj, hcl, hct, hgV, hgl, hAL, hfl⟩ := hI
    refine .seq (fun K7 hK7 => ?_)
    refine .region ?_
    refine .m rfl rfl rfl (.cmp rfl rfl rfl) ?_
    refine .nil ?_
    refine hK7 _ _ ?_
    refine .seq (fun K8 hK8 => ?_)
    refine .cond rfl (fun h41 => ?_) (fun h41 => ?_)
    ·
     simp only [sps] at h41
     obtain ⟨v, v1, v2, v3, v4⟩ := Cat.hom_get (c := f.t) (x := f.ob.getD x 0) (y := k.ob.getD x 0) (i := j) (by omega)
     refine .skip ?_
     refine hK8 _ _ ?_
     refine .seq (fun K9 hK9 => ?_)
     refine .block ?_
     refine .seq (fun K10 hK10 => ?_)
     refine .region ?_
     refine .m rfl rfl rfl (.idxN sl_22_A (by first | assumption | exact SlA.of_row at38 (by first | rfl | (simp; done) | (simp <;> omega))) rfl rfl (by omega)) ?_
     refine .m rfl rfl rfl (.loadI on_2_A (by first | assumption | exact Ints.of_get at38) rfl (by omega)) ?_
     refine .m rfl rfl rfl (.assign rfl) ?_
     refine .nil ?_
     refine hK10 _ _ ?_
     refine .seq (fun K11 hK11 => ?_)
     refine .seq (fun K12 hK12 => ?_)
     refine .region ?_
     refine .m rfl rfl rfl (.load on_84_Hd rfl (by first | assumption | exact Mem.of_get k7 0 _ rfl)) ?_
     refine .m rfl rfl rfl (.move rfl) ?_
     refine .callV rfl rfl rfl rfl rfl hac rfl ((hal _ hz ((f.t.hom (f.ob.getD x 0) (k.ob.getD x 0)).getD j 0) (by omega) (by omega))) ?_
     rintro _ _ ⟨rfl, rfl⟩
     refine .m rfl rfl rfl (.not rfl) ?_
     refine .nil ?_
     refine hK12 _ _ ?_
     refine .cond rfl (fun h47 => ?_) (fun h47 => ?_)
     ·
      have hG0 : chG (f.net k iso) (f.alB iso) r (co.take x) ((f.t.hom (f.ob.getD x 0) (k.ob.getD x 0)).getD j 0) = [] := chG_no (bnot_T h47)
      obtain ⟨coX, hcX⟩ : ∃ z, z = co' := ⟨_, rfl⟩
      obtain ⟨gX, hgX⟩ : ∃ z, z = gV := ⟨_, rfl⟩
      refine .exit ?_
      refine hK9 _ _ ?_
      refine .region ?_
      refine .m rfl rfl rfl (.add rfl rfl rfl (by omega) (by omega)) ?_
      refine .m rfl rfl rfl (.move rfl) ?_
      refine .nil ?_
      refine hKL1 ((j + 1, gX, coX)) _ _ ?_ ?_ ⟨rfl, rfl, rfl, rfl, rfl, rfl, rfl, rfl, rfl, rfl, trivial⟩
      ·
       refine ⟨lst1, by first | assumption | (rw [hcX]; assumption), ?_⟩
       subst hcX
       subst hgX
       first
       | exact ⟨by omega, hcl, hct, hgV, hgl, by rw [chP_no (by omega) hG0]; exact hAL, by rw [chP_no (by omega) hG0]; exact hfl⟩
       | exact ⟨by omega, by rw [List.length_set]; exact hcl, by rw [take_set_lt]; exact hct, hgV, by omega, by rw [chP_no (by omega) hG0]; exact hH.st hAL c0.1 c0.2 (by omega) st7004, by rw [chP_no (by omega) hG0]; exact hfl⟩
       | exact ⟨by omega, hlc89, htk2, by omega, hl89, hA90, hfl2⟩
      ·
       (dsimp only; omega)
     ·
      have hal1 := bnot_F (by simpa using h47)
      refine .skip ?_
      refine hK11 _ _ ?_
      refine .seq (fun K13 hK13 => ?_)
      refine .region ?_
      refine .m rfl rfl rfl (.load on_22_B rfl (by first | assumption | exact Mem.of_get k3 0 _ rfl)) ?_
      refine .m rfl rfl rfl (.move rfl) ?_
      refine .m rfl rfl rfl (.move rfl) ?_
      refine .m rfl rfl rfl (.idxN sl_22_A (by first | assumption | exact SlA.of_row at_Lgc (by first | rfl | (simp; done) | (simp <;> omega))) rfl rfl (by omega)) ?_
      refine .r0 rfl rfl (.storeI rfl sz_2_E rfl rfl (by assumption) (by first | omega | (simp <;> omega))) ?_
      rintro _ H7004 ⟨rfl, st7004, at7004⟩
      have nx_H7004 := st7004.nx
      replace hfo := hfo.st st7004 (fun k hk ho => by simp only [out, and_true] at ho ⊢ <;> omega)
      replace lst1 := lst1.st st7004 (fun k hk ho => by simp only [out, and_true] at ho ⊢ <;> omega)
      replace k1 := st7004.same _ _ ⟨by omega, trivial⟩ k1
      replace k2 := st7004.same _ _ ⟨by omega, trivial⟩ k2
      replace k3 := st7004.same _ _ ⟨by omega, trivial⟩ k3
      replace k4 := st7004.same _ _ ⟨by omega, trivial⟩ k4
      replace k5 := st7004.same _ _ ⟨by omega, trivial⟩ k5
      replace k6 := st7004.same _ _ ⟨by omega, trivial⟩ k6
      replace k7 := st7004.same _ _ ⟨by omega, trivial⟩ k7
      replace k8 := st7004.same _ _ ⟨by omega, trivial⟩ k8
      replace at38 := st7004.same _ _ ⟨by omega, trivial⟩ at38
      have lt_at7004 := GHeap.lt_of_get at7004
      clear hz hF2 hK2 fsf ftf c10f c11f j1f j2f hmf hif hmsf hisf hmtf hitf fsg ftg c10g c11g j1g j2g hmg hig hmsg hisg hmtg hitg s0 s1 s2 s3 s4 u1 u2 u3 u4
      have hz := hle0.st hfo (fun k hk => ⟨by omega, by omega, by omega, trivial⟩)
      have hF2 := hf.mono hz
      have hK2 := hk.mono hz
      obtain ⟨fsf, ftf, c10f, c11f, j1f, j2f⟩ := hF2.get
      have hmf : MemN _ _ _ _ _ := ⟨rfl, hF2.1⟩
      have hif := hF2.2
      have hmsf : MemN _ _ _ _ _ := ⟨rfl, fsf.1⟩
      have hisf := fsf.2
      have hmtf : MemN _ _ _ _ _ := ⟨rfl, ftf.1⟩
      have hitf := ftf.2
      obtain ⟨fsg, ftg, c10g, c11g, j1g, j2g⟩ := hK2.get
      have hmg : MemN _ _ _ _ _ := ⟨rfl, hK2.1⟩
      have hig := hK2.2
      have hmsg : MemN _ _ _ _ _ := ⟨rfl, fsg.1⟩
      have hisg := fsg.2
      have hmtg : MemN _ _ _ _ _ := ⟨rfl, ftg.1⟩
      have hitg := ftg.2
      obtain ⟨s0, s1, s2, s3, s4, u1, u2, u3, u4⟩ := fsf.get
      clear i38
      have i38 := Ints.of_get at38
      rw [Nat.zero_add] at at7004
      refine .nil ?_
      refine hK13 _ _ ?_
      refine .seq (fun K14 hK14 => ?_)
      refine .seq (fun K15 hK15 => ?_)
      refine .region ?_
      have hv : ∀ i, i ≤ x → 0 ≤ (co'.set x ((f.t.hom (f.ob.getD x 0) (k.ob.getD x 0)).getD j 0)).getD i 0 ∧ (co'.set x ((f.t.hom (f.ob.getD x 0) (k.ob.getD x 0)).getD j 0)).getD i 0 < f.t.src.length ∧ (co'.set x ((f.t.hom (f.ob.getD x 0) (k.ob.getD x 0)).getD j 0)).getD i 0 = (co.take x ++ [(f.t.hom (f.ob.getD x 0) (k.ob.getD x 0)).getD j 0]).getD i 0 := fun i hi => by
        refine ⟨?_, ?_, by rw [take_set_getD (by omega) hi, hct]⟩
        · rw [getD_set (by omega)]
          split
          · omega
          · rw [takeD hct (by omega)]; exact (hr i (by omega)).1
        · rw [getD_set (by omega)]
          split
          · omega
          · rw [takeD hct (by omega)]; exact (hr i (by omega)).2
      have hpl : (co.take x).length = x := by rw [List.length_take]; omega
      refine .m rfl rfl rfl (.load on_96_F rfl (by first | assumption | exact Mem.of_get k1 0 _ rfl)) ?_
      refine .m rfl rfl rfl (.nilCheck rfl) ?_
      refine .m rfl rfl rfl (.fieldAddr fo_31_1_B rfl) ?_
      refine .m rfl rfl rfl (.load on_22_B rfl (by assumption)) ?_
      refine .m rfl rfl rfl (.len sl_22_A rfl) ?_
      refine .m rfl rfl rfl (.move rfl) ?_
      refine .nil ?_
      refine hK15 _ _ ?_
      refine .block ?_
      refine .loopR (σ := Nat) [(0, some _), (1, some _), (3, some _), (5, some _), (6, some _), (7, some _), (8, some _), (38, some _), (39, some _), (40, some _), (56, some _)] (fun a => [(57, some (.int .i64 (a : Int)))]) (fun a H' => H7004 = H' ∧ a ≤ f.ar.length ∧ allN a ((f.net k iso).okAt (co.take x ++ [(f.t.hom (f.ob.getD x 0) (k.ob.getD x 0)).getD j 0]) x) = true) (fun a => f.ar.length - a) (0) ⟨rfl, rfl, rfl, rfl, rfl, rfl, rfl, rfl, rfl, rfl, rfl, trivial⟩ ⟨rfl, trivial⟩ ?_ ?_
      ·
       refine ⟨rfl, ?_⟩
       exact ⟨by omega, rfl⟩
      ·
       rintro a _ ⟨rfl, hI⟩ KL2 hKL2
       refine .forget (fr' := [(57, some (.int .i64 (a : Int))), (0, some _), (1, some _), (3, some _), (5, some _), (6, some _), (7, some _), (8, some _), (38, some _), (39, some _), (40, some _), (56, some _)]) ⟨rfl, rfl, rfl, rfl, rfl, rfl, rfl, rfl, rfl, rfl, rfl, rfl, trivial⟩ ?_
       obtain ⟨ha, hb1⟩ := hI
       refine .seq (fun K16 hK16 => ?_)
       refine .region ?_
       refine .m rfl rfl rfl (.cmp rfl rfl rfl) ?_
       refine .nil ?_
       refine hK16 _ _ ?_
       refine .seq (fun K17 hK17 => ?_)
       refine .cond rfl (fun h58 => ?_) (fun h58 => ?_)
       ·
        simp only [sps] at h58
        have a1 := hs.src a (by omega)
        have a2 := hs.tgt a (by omega)
        refine .skip ?_
        refine hK17 _ _ ?_
        refine .seq (fun K18 hK18 => ?_)
        refine .block ?_
        refine .seq (fun K19 hK19 => ?_)
        refine .region ?_
        refine .m rfl rfl rfl (.move rfl) ?_
        refine .m rfl rfl rfl (.assign rfl) ?_
        refine .nil ?_
        refine hK19 _ _ ?_
        refine .seq (fun K20 hK20 => ?_)
        refine .regionD mixed_orders_B (.q 0 (.q 1 (.q 2 (.q 3 (.q 4 (.q 5 (.q 6 (.q 7 (.q 8 (.q 9 (.q 10 (.q 11 (.q 12 (.q 13 (.q 14 (.q 15 (.q 16 (.q 17 (.q 18 (.q 19 (.q 20 (.q 21 (.c 22 0 (.q 23 (.q 24 (.done)))))))))))))))))))))))))) (by kernel_rfl) ?_
        refine .cut [(0, some _), (1, some _), (3, some _), (5, some _), (6, some _), (7, some _), (8, some _), (13, some _), (38, some _), (39, some _), (40, some _), (56, some _), (57, some _), (58, some _), (59, some _)] ⟨rfl, rfl, rfl, rfl, rfl, rfl, rfl, rfl, rfl, rfl, rfl, rfl, rfl, rfl, rfl, trivial⟩ (fun rest fr' H' => ∃ b' : Bool, Sub ((84, some (.bool b')) :: rest) fr' ∧ H7004 = H' ∧ b' = !((f.net k iso).okAt (co.take x ++ [(f.t.hom (f.ob.getD x 0) (k.ob.getD x 0)).getD j 0]) x a)) ?_ ?_
        ·
         refine .m rfl rfl rfl rfl (.refl _) (.load on_96_F rfl (by first | assumption | exact Mem.of_get k1 0 _ rfl)) ?_
         refine .m rfl rfl rfl rfl (.refl _) (.nilCheck rfl) ?_
         refine .m rfl rfl rfl rfl (.refl _) (.fieldAddr fo_31_1_B rfl) ?_
         refine .m rfl rfl rfl rfl (.refl _) (.load on_22_B rfl (by assumption)) ?_
         refine .m rfl rfl rfl rfl (.refl _) (.move rfl) ?_
         refine .m rfl rfl rfl rfl (.refl _) (.idxN sl_22_A (by assumption) rfl rfl (by omega)) ?_
         refine .m rfl rfl rfl rfl (.refl _) (.loadI on_2_A (by assumption) rfl (by omega)) ?_
         refine .m rfl rfl rfl rfl (.refl _) (.load on_96_F rfl (by first | assumption | exact Mem.of_get k1 0 _ rfl)) ?_
         refine .m rfl rfl rfl rfl (.refl _) (.nilCheck rfl) ?_
         refine .m rfl rfl rfl rfl (.refl _) (.fieldAddr fo_31_2_B rfl) ?_
         refine .m rfl rfl rfl rfl (.refl _) (.load on_22_B rfl (by assumption)) ?_
         refine .m rfl rfl rfl rfl (.refl _) (.move rfl) ?_
         refine .m rfl rfl rfl rfl (.refl _) (.idxN sl_22_A (by assumption) rfl rfl (by omega)) ?_
         refine .m rfl rfl rfl rfl (.refl _) (.loadI on_2_A (by assumption) rfl (by omega)) ?_
         refine .m rfl rfl rfl rfl (.refl _) (.max2 rfl rfl) ?_
         refine .m rfl rfl rfl rfl (.refl _) (.move rfl) ?_
         refine .m rfl rfl rfl rfl (.refl _) (.cmp rfl rfl rfl) ?_
         refine .m rfl rfl rfl rfl (.refl _) (.move rfl) ?_
         refine .split (fun h77 => ?_) (fun h77 => ?_)
         ·
          simp only [sps] at h77
          refine .mg rfl rfl rfl rfl rfl rfl (.refl _) (.load on_65_G rfl (by first | assumption | exact Mem.of_get k5 0 _ rfl)) ?_
          refine .mg rfl rfl rfl rfl rfl rfl (.refl _) (.load on_65_G rfl (by first | assumption | exact Mem.of_get k6 0 _ rfl)) ?_
          refine .mg rfl rfl rfl rfl rfl rfl (.refl _) (.load on_22_B rfl (by first | assumption | exact Mem.of_get k3 0 _ rfl)) ?_
          refine .mg rfl rfl rfl rfl rfl rfl (.refl _) (.move rfl) ?_
          have w1 := hv (f.s.src.getD a 0).toNat (by omega)
          have w2 := hv (f.s.tgt.getD a 0).toNat (by omega)
          have hcc := commutesP_c (iso := iso) (co := co'.set x ((f.t.hom (f.ob.getD x 0) (k.ob.getD x 0)).getD j 0)) (n := f.ob.length) (a := a) hF2 hK2 (SlA.of_ints at7004 (by rw [List.length_set]; exact hcl)) hP rfl (by omega) ⟨w1.1, w1.2.1⟩ ⟨w2.1, w2.2.1⟩
          refine .callQ0g rfl rfl rfl rfl rfl rfl rfl @Try.call78 rfl (hcc) ?_
          refine .mg rfl rfl rfl rfl rfl rfl (.refl _) (.not rfl) ?_
          refine .m rfl rfl rfl rfl (.refl _) (.pickT rfl rfl) ?_
          refine .done ?_
          refine ⟨_, ⟨rfl, rfl, rfl, rfl, rfl, rfl, rfl, rfl, rfl, rfl, rfl, rfl, rfl, rfl, rfl, rfl, trivial⟩, rfl, ?_⟩
          rw [Net.okAt_2 (show max (f.s.src.getD a 0).toNat (f.s.tgt.getD a 0).toNat = x by omega)]; exact congrArg (! ·) (by rw [(hv (f.s.src.getD a 0).toNat (by omega)).2.2, (hv (f.s.tgt.getD a 0).toNat (by omega)).2.2]; rfl)
         ·
          simp only [sps] at h77
          refine .sg rfl rfl rfl rfl rfl rfl ?_
          refine .sg rfl rfl rfl rfl rfl rfl ?_
          refine .sg rfl rfl rfl rfl rfl rfl ?_
          refine .sg rfl rfl rfl rfl rfl rfl ?_
          refine .sgc rfl rfl rfl rfl rfl rfl ?_
          refine .sg rfl rfl rfl rfl rfl rfl ?_
          refine .m rfl rfl rfl rfl (.refl _) (.pickF rfl rfl) ?_
          refine .done ?_
          refine ⟨_, ⟨rfl, rfl, rfl, rfl, rfl, rfl, rfl, rfl, rfl, rfl, rfl, rfl, rfl, rfl, rfl, rfl, trivial⟩, rfl, ?_⟩
          rw [Net.okAt_1 (show ¬ max (f.s.src.getD a 0).toNat (f.s.tgt.getD a 0).toNat = x by omega)]; rfl
        ·
         rintro frJ11 _ ⟨b', hsubJ11, rfl, hJ11⟩
         refine hK20 _ _ ?_
         refine .forget hsubJ11 ?_
         refine .cond rfl (fun h84 => ?_) (fun h84 => ?_)
         ·
          have hG0 : chG (f.net k iso) (f.alB iso) r (co.take x) ((f.t.hom (f.ob.getD x 0) (k.ob.getD x 0)).getD j 0) = [] := chG_bad (by rw [hpl, Net.ok_eq]; exact allN_early (k := a + 1) (by rw [allN_succ, hb1, bnot_T (hJ11.symm.trans h84)]; rfl) (show a + 1 ≤ f.ar.length by omega))
          obtain ⟨coX, hcX⟩ : ∃ z, z = co'.set x ((f.t.hom (f.ob.getD x 0) (k.ob.getD x 0)).getD j 0) := ⟨_, rfl⟩
          obtain ⟨gX, hgX⟩ : ∃ z, z = gV := ⟨_, rfl⟩
          refine .exit ?_
          refine hK9 _ _ ?_
          refine .region ?_
          refine .m rfl rfl rfl (.add rfl rfl rfl (by omega) (by omega)) ?_
          refine .m rfl rfl rfl (.move rfl) ?_
          refine .nil ?_
          refine hKL1 ((j + 1, gX, coX)) _ _ ?_ ?_ ⟨rfl, rfl, rfl, rfl, rfl, rfl, rfl, rfl, rfl, rfl, trivial⟩
          ·
           refine ⟨lst1, by first | assumption | (rw [hcX]; assumption), ?_⟩
           subst hcX
           subst hgX
           first
           | exact ⟨by omega, hcl, hct, hgV, hgl, by rw [chP_no (by omega) hG0]; exact hAL, by rw [chP_no (by omega) hG0]; exact hfl⟩
           | exact ⟨by omega, by rw [List.length_set]; exact hcl, by rw [take_set_lt]; exact hct, hgV, by omega, by rw [chP_no (by omega) hG0]; exact hH.st hAL c0.1 c0.2 (by omega) st7004, by rw [chP_no (by omega) hG0]; exact hfl⟩
           | exact ⟨by omega, hlc89, htk2, by omega, hl89, hA90, hfl2⟩
          ·
           (dsimp only; omega)
         ·
          have hok := bnot_f (hJ11.symm.trans h84)
          refine .skip ?_
          refine hK18 _ _ ?_
          refine .region ?_
          refine .m rfl rfl rfl (.add rfl rfl rfl (by omega) (by omega)) ?_
          refine .m rfl rfl rfl (.move rfl) ?_
          refine .nil ?_
          refine hKL2 (a + 1) _ _ ?_ ?_ ⟨rfl, rfl, rfl, rfl, rfl, rfl, rfl, rfl, rfl, rfl, rfl, rfl, trivial⟩
          ·
           refine ⟨rfl, ?_⟩
           exact ⟨by omega, by rw [allN_succ, hb1, hok]; rfl⟩
          ·
           omega
       ·
        try simp only [sps] at h58
        refine .exit ?_
        refine hK14 _ _ ?_
        refine .seq (fun K21 hK21 => ?_)
        refine .region ?_
        refine .m rfl rfl rfl (.load on_84_Hd rfl (by first | assumption | exact Mem.of_get k8 0 _ rfl)) ?_
        refine .m rfl rfl rfl (.move rfl) ?_
        refine .m rfl rfl rfl (.add rfl rfl rfl (by omega) (by omega)) ?_
        obtain rfl : a = f.ar.length := by omega
        have hok1 : (f.net k iso).ok (co.take x).length (co.take x ++ [(f.t.hom (f.ob.getD x 0) (k.ob.getD x 0)).getD j 0]) = true := by rw [hpl, Net.ok_eq]; exact hb1
        have hts : (co'.set x ((f.t.hom (f.ob.getD x 0) (k.ob.getD x 0)).getD j 0)).take (x + 1) = co.take x ++ [(f.t.hom (f.ob.getD x 0) (k.ob.getD x 0)).getD j 0] := by rw [take_set_succ (by omega), hct]
        have hG1 : chG (f.net k iso) (f.alB iso) r (co.take x) ((f.t.hom (f.ob.getD x 0) (k.ob.getD x 0)).getD j 0) = searchL (f.net k iso).cand (f.net k iso).ok r ((co'.set x ((f.t.hom (f.ob.getD x 0) (k.ob.getD x 0)).getD j 0)).take (x + 1)) := by rw [hts]; exact chG_yes hal1 hok1
        have hrr : ∀ i, i < x + 1 → 0 ≤ (co'.set x ((f.t.hom (f.ob.getD x 0) (k.ob.getD x 0)).getD j 0)).getD i 0 ∧ (co'.set x ((f.t.hom (f.ob.getD x 0) (k.ob.getD x 0)).getD j 0)).getD i 0 < f.t.src.length := fun i hi => ⟨(hv i (by omega)).1, (hv i (by omega)).2.1⟩
        have hA7 := hH.st hAL c0.1 c0.2 (by omega) st7004
        refine .callV rfl rfl rfl rfl rfl @Try.call76 rfl ((ih (x + 1) gV (co'.set x ((f.t.hom (f.ob.getD x 0) (k.ob.getD x 0)).getD j 0)) (fs ++ chP (f.net k iso) (f.alB iso) r (co.take x) (f.t.hom (f.ob.getD x 0) (k.ob.getD x 0)) j) _ (by omega) hz ⟨k1, k2, k3, k4, k5, k6, k7, k8⟩ at7004 (by rw [List.length_set]; exact hcl) hrr hA7 hfl (by omega) (by omega) (by omega) (by omega))) ?_
        rintro _ H89 ⟨gF89, co89, rfl, hg89, hl89, st89, at89, hlc89, htk89, hA89⟩
        have nx_H89 := st89.nx
        replace hfo := hfo.st st89 (fun k hk ho => by simp only [out, and_true] at ho ⊢ <;> omega)
        replace lst1 := lst1.st st89 (fun k hk ho => by simp only [out, and_true] at ho ⊢ <;> omega)
        replace k1 := st89.same _ _ ⟨by omega, by omega, by omega, trivial⟩ k1
        replace k2 := st89.same _ _ ⟨by omega, by omega, by omega, trivial⟩ k2
        replace k3 := st89.same _ _ ⟨by omega, by omega, by omega, trivial⟩ k3
        replace k4 := st89.same _ _ ⟨by omega, by omega, by omega, trivial⟩ k4
        replace k5 := st89.same _ _ ⟨by omega, by omega, by omega, trivial⟩ k5
        replace k6 := st89.same _ _ ⟨by omega, by omega, by omega, trivial⟩ k6
        replace k7 := st89.same _ _ ⟨by omega, by omega, by omega, trivial⟩ k7
        replace k8 := st89.same _ _ ⟨by omega, by omega, by omega, trivial⟩ k8
        replace at38 := st89.same _ _ ⟨by omega, by omega, by omega, trivial⟩ at38
        have lt_at89 := GHeap.lt_of_get at89
        clear hz hF2 hK2 fsf ftf c10f c11f j1f j2f hmf hif hmsf hisf hmtf hitf fsg ftg c10g c11g j1g j2g hmg hig hmsg hisg hmtg hitg s0 s1 s2 s3 s4 u1 u2 u3 u4
        have hz := hle0.st hfo (fun k hk => ⟨by omega, by omega, by omega, trivial⟩)
        have hF2 := hf.mono hz
        have hK2 := hk.mono hz
        obtain ⟨fsf, ftf, c10f, c11f, j1f, j2f⟩ := hF2.get
        have hmf : MemN _ _ _ _ _ := ⟨rfl, hF2.1⟩
        have hif := hF2.2
        have hmsf : MemN _ _ _ _ _ := ⟨rfl, fsf.1⟩
        have hisf := fsf.2
        have hmtf : MemN _ _ _ _ _ := ⟨rfl, ftf.1⟩
        have hitf := ftf.2
        obtain ⟨fsg, ftg, c10g, c11g, j1g, j2g⟩ := hK2.get
        have hmg : MemN _ _ _ _ _ := ⟨rfl, hK2.1⟩
        have hig := hK2.2
        have hmsg : MemN _ _ _ _ _ := ⟨rfl, fsg.1⟩
        have hisg := fsg.2
        have hmtg : MemN _ _ _ _ _ := ⟨rfl, ftg.1⟩
        have hitg := ftg.2
        obtain ⟨s0, s1, s2, s3, s4, u1, u2, u3, u4⟩ := fsf.get
        clear i38
        have i38 := Ints.of_get at38
        refine .m rfl rfl rfl (.not rfl) ?_
        refine .nil ?_
        refine hK21 _ _ ?_
        refine .cond rfl (fun h90 => ?_) (fun h90 => ?_)
        ·
         have hbig := of_decide_eq_false (bnot_T h90)
         refine .seq (fun K22 hK22 => ?_)
         refine .region ?_
         refine .m rfl rfl rfl (.assign rfl) ?_
         refine .nil ?_
         refine hK22 _ _ ?_
         refine .ret ?_
         -- leaf e1
         refine hret _ _ ?_
         refine ⟨_, rfl, ?_⟩
         have hcd : (f.net k iso).cand (co.take x).length = (f.t.hom (f.ob.getD x 0) (k.ob.getD x 0)).filter (f.alB iso) := by rw [hpl]; rfl
         have hcs := chP_succ (n := f.net k iso) (al := f.alB iso) (r := r) (p := co.take x) (hs := (f.t.hom (f.ob.getD x 0) (k.ob.getD x 0))) (j := j) (by omega)
         rw [← hG1] at hbig hA89
         have hbl : most + 1 ≤ (fs ++ chP (f.net k iso) (f.alB iso) r (co.take x) (f.t.hom (f.ob.getD x 0) (k.ob.getD x 0)) (j + 1)).length := by rw [hcs, ← List.append_assoc, List.length_append]; omega
         obtain ⟨f1, f2⟩ := chP_full (M := most + 1) hcd (by omega) hbl
         refine ⟨gF89, co89, ?_, by omega, hl89, hfo, at89, hlc89, by rw [take_le_eq htk89 (by omega), take_set_lt]; exact hct, ?_⟩
         · rw [decide_eq_false (by omega)]
         · rw [f1, hcs, ← List.append_assoc]
           exact hA89
        ·
         have hsm := of_decide_eq_true (bnot_f h90)
         obtain ⟨coX, hcX⟩ : ∃ z, z = co89 := ⟨_, rfl⟩
         obtain ⟨gX, hgX⟩ : ∃ z, z = gF89 := ⟨_, rfl⟩
         have hcs := chP_succ (n := f.net k iso) (al := f.alB iso) (r := r) (p := co.take x) (hs := (f.t.hom (f.ob.getD x 0) (k.ob.getD x 0))) (j := j) (by omega)
         have htk2 : co89.take x = co.take x := by rw [take_le_eq htk89 (by omega), take_set_lt]; exact hct
         rw [← hG1] at hsm hA89
         have hfl2 : (fs ++ chP (f.net k iso) (f.alB iso) r (co.take x) (f.t.hom (f.ob.getD x 0) (k.ob.getD x 0)) (j + 1)).length ≤ most := by rw [hcs, ← List.append_assoc, List.length_append]; exact hsm
         have hA90 := hA89
         rw [List.append_assoc, ← hcs, List.take_of_length_le (by omega)] at hA90
         refine .skip ?_
         refine hK9 _ _ ?_
         refine .region ?_
         refine .m rfl rfl rfl (.add rfl rfl rfl (by omega) (by omega)) ?_
         refine .m rfl rfl rfl (.move rfl) ?_
         refine .nil ?_
         refine hKL1 ((j + 1, gX, coX)) _ _ ?_ ?_ ⟨rfl, rfl, rfl, rfl, rfl, rfl, rfl, rfl, rfl, rfl, trivial⟩
         ·
          refine ⟨lst1, by first | assumption | (rw [hcX]; assumption), ?_⟩
          subst hcX
          subst hgX
          first
          | exact ⟨by omega, hcl, hct, hgV, hgl, by rw [chP_no (by omega) hG0]; exact hAL, by rw [chP_no (by omega) hG0]; exact hfl⟩
          | exact ⟨by omega, by rw [List.length_set]; exact hcl, by rw [take_set_lt]; exact hct, hgV, by omega, by rw [chP_no (by omega) hG0]; exact hH.st hAL c0.1 c0.2 (by omega) st7004, by rw [chP_no (by omega) hG0]; exact hfl⟩
          | exact ⟨by omega, hlc89, htk2, by omega, hl89, hA90, hfl2⟩
         ·
          (dsimp only; omega)
    ·
     try simp only [sps] at h41
     refine .exit ?_
     refine hK5 _ _ ?_
     refine .seq (fun K23 hK23 => ?_)
     refine .region ?_
     refine .m rfl rfl rfl (.assign rfl) ?_
     refine .nil ?_
     refine hK23 _ _ ?_
     refine .ret ?_
     -- leaf e2
     refine hret _ _ ?_
     refine ⟨_, rfl, ?_⟩
     have hpl : (co.take x).length = x := by rw [List.length_take]; omega
     have hcd : (f.net k iso).cand (co.take x).length = (f.t.hom (f.ob.getD x 0) (k.ob.getD x 0)).filter (f.alB iso) := by rw [hpl]; rfl
     have hj2 : j = (f.t.hom (f.ob.getD x 0) (k.ob.getD x 0)).length := by omega
     have e9 := chP_all (r := r) hcd
     rw [← hj2] at e9
     refine ⟨gV, co', ?_, by omega, hgl, hfo, at_Lgc, hcl, hct, ?_⟩
     · rw [e9, decide_eq_true (by rw [← List.length_append]; exact hfl)]
     · rw [e9, List.take_of_length_le (by omega)]
       exact hAL
theorem choose_c {f k : Fun} {p q : FunP} {iso : Bool} {A : Nat → List (List Int) → Nat → GHeap → Prop} {most e0 g1 b gf of gk ok gc fn fa : Nat} {cap capA : Array Value} {b1 b2 b3 b4 b5 b6 b7 b8 : Nat} {H0 : GHeap} (hf : Fun.At H0 gf of f p) (hk : Fun.At H0 gk ok k q) (hP : f.Par k)
    (hH : Hears Try.prog fn cap e0 g1 most 2 A) (hac : ∀ (xs : Array Value) (w : World), (callFunc fa xs).run Try.prog w = .ok (.enter fa xs) w)
    (hal : ∀ H', H0.Le H' → ∀ h : Int, 0 ≤ h → h < f.t.src.length → GCalls Try.prog fa ([.int .i64 h] ++ capA.toList) H' (Ret (.bool (f.alB iso h)) H'))
    (he0 : H0.next ≤ e0) (hg1 : H0.next ≤ g1) (hg2 : g1 < e0) (c0 : e0 ≤ gc ∧ gc < b) (c1 : e0 ≤ b1 ∧ b1 < b ∧ b1 ≠ gc) (c2 : e0 ≤ b2 ∧ b2 < b ∧ b2 ≠ gc) (c3 : e0 ≤ b3 ∧ b3 < b ∧ b3 ≠ gc) (c4 : e0 ≤ b4 ∧ b4 < b ∧ b4 ≠ gc) (c5 : e0 ≤ b5 ∧ b5 < b ∧ b5 ≠ gc) (c6 : e0 ≤ b6 ∧ b6 < b ∧ b6 ≠ gc) (c7 : e0 ≤ b7 ∧ b7 < b ∧ b7 ≠ gc) (c8 : e0 ≤ b8 ∧ b8 < b ∧ b8 ≠ gc) (r : Nat) :
    ChSpec f k iso A most e0 g1 b gf of gk ok gc fn fa cap capA b1 b2 b3 b4 b5 b6 b7 b8 H0 r := by
  induction r with
  | zero => exact choose0_c hf hk hP hH hac hal he0 hg1 hg2 c0 c1 c2 c3 c4 c5 c6 c7 c8
  | succ r ih => exact chooseS_c hf hk hP hH hac hal he0 hg1 hg2 c0 c1 c2 c3 c4 c5 c6 c7 c8 ih
end Go.Proofs.Ytnohkokoimmclaa
/- All transformations, and the first isomorphism: the program's. No condition but those of each statement. -/
namespace Go.Proofs.Ytnohkokoimmclaa
open Go Go.GL Go.RowKit Go.Proofs
theorem sz_65_He : (Try.prog.info? 65).map (·.size) = some 1 := by kernel_rfl
theorem sz_84_He : (Try.prog.info? 84).map (·.size) = some 1 := by kernel_rfl
theorem sz_85_He : (Try.prog.info? 85).map (·.size) = some 1 := by kernel_rfl
theorem sz_96_He : (Try.prog.info? 96).map (·.size) = some 1 := by kernel_rfl
theorem ze_84_He : zeroT Try.prog 84 = some ([.nilFunc], 1) := by kernel_rfl
set_option maxHeartbeats 4000000 in
theorem naturalLists_c {f k : Fun} {p q : FunP} {iso : Bool} {A : Nat → List (List Int) → Nat → GHeap → Prop} {most g1 gF gf of gk ok fn fa : Nat} {cap capA : Array Value} {H0 H : GHeap} (hf0 : Fun.At H0 gf of f p) (hk0 : Fun.At H0 gk ok k q) (hP : f.Par k)
    (hH : Hears Try.prog fn cap H.next g1 most 2 A) (hac : ∀ (xs : Array Value) (w : World), (callFunc fa xs).run Try.prog w = .ok (.enter fa xs) w)
    (hal : ∀ H', H0.Le H' → ∀ h : Int, 0 ≤ h → h < f.t.src.length → GCalls Try.prog fa ([.int .i64 h] ++ capA.toList) H' (Ret (.bool (f.alB iso h)) H'))
    (hle0 : H0.Le H) (hg1 : H0.next ≤ g1) (hg2 : g1 < H.next) (hF0 : H0.next ≤ gF) (hF : gF < H.next) (hA : ∀ b, A b [] gF H) :
    GCalls Try.prog 55 [.pointer (some ⟨gf, of, none⟩), .pointer (some ⟨gk, ok, none⟩), .func (.func fa) #[] capA, .func (.func fn) #[] cap] H (fun v H' => ∃ gF' b, v = .bool (decide (((f.net k iso).sols f.ob.length).length ≤ most)) ∧ H.next ≤ b ∧ (gF' = gF ∨ H.next ≤ gF') ∧ gF' < H'.next ∧ St [g1, gF] H H' ∧ A b (((f.net k iso).sols f.ob.length).take (most + 1)) gF' H') := by
  have hol := hP.fi.2.2.ol
  have hob := hP.fi.1.1.obj
  have hf := hf0.mono hle0
  have hk := hk0.mono hle0
  refine GCalls.body (N := 27) (rs := [.tmp 8]) Try.func55 rfl rfl rfl rfl (fun Qx hret hend => ?_)
  refine .forget (fr' := [(0, some _), (1, some _), (2, some _), (3, some _)]) ⟨rfl, rfl, rfl, rfl, trivial⟩ ?_
  have hle := GHeap.Le.refl H
  have base_hf := hf
  have base_hk := hk
  obtain ⟨fsf, ftf, c10f, c11f, j1f, j2f⟩ := hf.get
  have hmf : MemN _ _ _ _ _ := ⟨rfl, hf.1⟩
  have hif := hf.2
  have hmsf : MemN _ _ _ _ _ := ⟨rfl, fsf.1⟩
  have hisf := fsf.2
  have hmtf : MemN _ _ _ _ _ := ⟨rfl, ftf.1⟩
  have hitf := ftf.2
  obtain ⟨s0, s1, s2, s3, s4, u1, u2, u3, u4⟩ := fsf.get
  refine .seq (fun K1 hK1 => ?_)
  refine .region ?_
  refine .r rfl rfl rfl (.boxR rfl sz_65_He rfl) ?_
  rintro _ H4 ⟨g4, rfl, le4, ge4, at4⟩
  have nx_H4 := le4.1
  replace hle := hle.trans le4
  have lt_at4 := GHeap.lt_of_get at4
  replace hf := base_hf.mono hle
  replace hk := base_hk.mono hle
  clear fsf ftf c10f c11f j1f j2f hmf hif hmsf hisf hmtf hitf s0 s1 s2 s3 s4 u1 u2 u3 u4
  obtain ⟨fsf, ftf, c10f, c11f, j1f, j2f⟩ := hf.get
  have hmf : MemN _ _ _ _ _ := ⟨rfl, hf.1⟩
  have hif := hf.2
  have hmsf : MemN _ _ _ _ _ := ⟨rfl, fsf.1⟩
  have hisf := fsf.2
  have hmtf : MemN _ _ _ _ _ := ⟨rfl, ftf.1⟩
  have hitf := ftf.2
  obtain ⟨s0, s1, s2, s3, s4, u1, u2, u3, u4⟩ := fsf.get
  refine .r rfl rfl rfl (.boxR rfl sz_65_He rfl) ?_
  rintro _ H5 ⟨g5, rfl, le5, ge5, at5⟩
  have nx_H5 := le5.1
  replace hle := hle.trans le5
  replace at4 := le5.2 _ _ at4
  have lt_at5 := GHeap.lt_of_get at5
  replace hf := base_hf.mono hle
  replace hk := base_hk.mono hle
  clear fsf ftf c10f c11f j1f j2f hmf hif hmsf hisf hmtf hitf s0 s1 s2 s3 s4 u1 u2 u3 u4
  obtain ⟨fsf, ftf, c10f, c11f, j1f, j2f⟩ := hf.get
  have hmf : MemN _ _ _ _ _ := ⟨rfl, hf.1⟩
  have hif := hf.2
  have hmsf : MemN _ _ _ _ _ := ⟨rfl, fsf.1⟩
  have hisf := fsf.2
  have hmtf : MemN _ _ _ _ _ := ⟨rfl, ftf.1⟩
  have hitf := ftf.2
  obtain ⟨s0, s1, s2, s3, s4, u1, u2, u3, u4⟩ := fsf.get
  refine .r rfl rfl rfl (.boxR rfl sz_84_He rfl) ?_
  rintro _ H6 ⟨g6, rfl, le6, ge6, at6⟩
  have nx_H6 := le6.1
  replace hle := hle.trans le6
  replace at4 := le6.2 _ _ at4
  replace at5 := le6.2 _ _ at5
  have lt_at6 := GHeap.lt_of_get at6
  replace hf := base_hf.mono hle
  replace hk := base_hk.mono hle
  clear fsf ftf c10f c11f j1f j2f hmf hif hmsf hisf hmtf hitf s0 s1 s2 s3 s4 u1 u2 u3 u4
  obtain ⟨fsf, ftf, c10f, c11f, j1f, j2f⟩ := hf.get
  have hmf : MemN _ _ _ _ _ := ⟨rfl, hf.1⟩
  have hif := hf.2
  have hmsf : MemN _ _ _ _ _ := ⟨rfl, fsf.1⟩
  have hisf := fsf.2
  have hmtf : MemN _ _ _ _ _ := ⟨rfl, ftf.1⟩
  have hitf := ftf.2
  obtain ⟨s0, s1, s2, s3, s4, u1, u2, u3, u4⟩ := fsf.get
  refine .r rfl rfl rfl (.boxR rfl sz_85_He rfl) ?_
  rintro _ H7 ⟨g7, rfl, le7, ge7, at7⟩
  have nx_H7 := le7.1
  replace hle := hle.trans le7
  replace at4 := le7.2 _ _ at4
  replace at5 := le7.2 _ _ at5
  replace at6 := le7.2 _ _ at6
  have lt_at7 := GHeap.lt_of_get at7
  replace hf := base_hf.mono hle
  replace hk := base_hk.mono hle
  clear fsf ftf c10f c11f j1f j2f hmf hif hmsf hisf hmtf hitf s0 s1 s2 s3 s4 u1 u2 u3 u4
  obtain ⟨fsf, ftf, c10f, c11f, j1f, j2f⟩ := hf.get
  have hmf : MemN _ _ _ _ _ := ⟨rfl, hf.1⟩
  have hif := hf.2
  have hmsf : MemN _ _ _ _ _ := ⟨rfl, fsf.1⟩
  have hisf := fsf.2
  have hmtf : MemN _ _ _ _ _ := ⟨rfl, ftf.1⟩
  have hitf := ftf.2
  obtain ⟨s0, s1, s2, s3, s4, u1, u2, u3, u4⟩ := fsf.get
  refine .m rfl rfl rfl (.assign rfl) ?_
  refine .nil ?_
  refine hK1 _ _ ?_
  refine .seq (fun K2 hK2 => ?_)
  refine .regionD mixed_orders_B (.q 0 (.q 1 (.q 2 (.q 3 (.q 4 (.q 5 (.or (.c 6 1 (.c 7 1 (.c 8 1 (.c 9 1 (.done))))) (.c 7 1 (.c 6 1 (.c 8 1 (.c 9 1 (.done)))))))))))) (by kernel_rfl) ?_
  refine .cut [(0, some _), (1, some _), (2, some _), (3, some _), (4, some _), (5, some _), (6, some _), (7, some _), (8, some _)] ⟨rfl, rfl, rfl, rfl, rfl, rfl, rfl, rfl, rfl, trivial⟩ (fun rest fr' H' => ∃ g9 g10, Sub ((9, some (.pointer (some ⟨g9, 0, none⟩))) :: (10, some (.pointer (some ⟨g10, 0, none⟩))) :: rest) fr' ∧ H7.Le H' ∧ H7.next ≤ g9 ∧ H7.next ≤ g10 ∧ H'.get g9 = some (.row ([.pointer (some ⟨gf, of + 0, none⟩)]) 96 true) ∧ H'.get g10 = some (.row ([.pointer (some ⟨gf, of + 5, none⟩)]) 96 true) ∧ g9 ≠ g10) ?_ ?_
  ·
   have hf0 := GHeap.Le.refl H7
   refine .m rfl rfl rfl rfl (.refl _) (.load on_65_G rfl (by first | assumption | exact Mem.of_get at4 0 _ rfl)) ?_
   refine .m rfl rfl rfl rfl (.refl _) (.nilCheck rfl) ?_
   refine .m rfl rfl rfl rfl (.refl _) (.fieldAddr fo_33_0_E rfl) ?_
   refine .m rfl rfl rfl rfl (.refl _) (.load on_65_G rfl (by first | assumption | exact Mem.of_get at4 0 _ rfl)) ?_
   refine .m rfl rfl rfl rfl (.refl _) (.nilCheck rfl) ?_
   refine .m rfl rfl rfl rfl (.refl _) (.fieldAddr fo_33_1_E rfl) ?_
   refine .orI ?_ ?_
   ·
    refine .c1 rfl rfl rfl rfl (.allocR rfl ze_96_G rfl) ?_
    rintro _ H9x2 ⟨g9x2, rfl, le9x2, ge9x2, at9x2⟩
    have hbl := le9x2
    refine ⟨hbl, ?_⟩
    have nx_H9x2 := le9x2.1
    replace hle := hle.trans le9x2
    replace at4 := le9x2.2 _ _ at4
    replace at5 := le9x2.2 _ _ at5
    replace at6 := le9x2.2 _ _ at6
    replace at7 := le9x2.2 _ _ at7
    have lt_at9x2 := GHeap.lt_of_get at9x2
    replace hf := base_hf.mono hle
    replace hk := base_hk.mono hle
    clear fsf ftf c10f c11f j1f j2f hmf hif hmsf hisf hmtf hitf s0 s1 s2 s3 s4 u1 u2 u3 u4
    obtain ⟨fsf, ftf, c10f, c11f, j1f, j2f⟩ := hf.get
    have hmf : MemN _ _ _ _ _ := ⟨rfl, hf.1⟩
    have hif := hf.2
    have hmsf : MemN _ _ _ _ _ := ⟨rfl, fsf.1⟩
    have hisf := fsf.2
    have hmtf : MemN _ _ _ _ _ := ⟨rfl, ftf.1⟩
    have hitf := ftf.2
    obtain ⟨s0, s1, s2, s3, s4, u1, u2, u3, u4⟩ := fsf.get
    replace hf0 := hf0.trans le9x2
    refine .c1 rfl rfl rfl rfl (.allocR rfl ze_96_G rfl) ?_
    rintro _ H10x2 ⟨g10x2, rfl, le10x2, ge10x2, at10x2⟩
    replace hbl := hbl.trans le10x2
    refine ⟨hbl, ?_⟩
    have nx_H10x2 := le10x2.1
    replace hle := hle.trans le10x2
    replace at4 := le10x2.2 _ _ at4
    replace at5 := le10x2.2 _ _ at5
    replace at6 := le10x2.2 _ _ at6
    replace at7 := le10x2.2 _ _ at7
    replace at9x2 := le10x2.2 _ _ at9x2
    have lt_at10x2 := GHeap.lt_of_get at10x2
    replace hf := base_hf.mono hle
    replace hk := base_hk.mono hle
    clear fsf ftf c10f c11f j1f j2f hmf hif hmsf hisf hmtf hitf s0 s1 s2 s3 s4 u1 u2 u3 u4
    obtain ⟨fsf, ftf, c10f, c11f, j1f, j2f⟩ := hf.get
    have hmf : MemN _ _ _ _ _ := ⟨rfl, hf.1⟩
    have hif := hf.2
    have hmsf : MemN _ _ _ _ _ := ⟨rfl, fsf.1⟩
    have hisf := fsf.2
    have hmtf : MemN _ _ _ _ _ := ⟨rfl, ftf.1⟩
    have hitf := ftf.2
    obtain ⟨s0, s1, s2, s3, s4, u1, u2, u3, u4⟩ := fsf.get
    replace hf0 := hf0.trans le10x2
    refine .r1 rfl rfl rfl (.storeR rfl sz_96_He rfl rfl rfl (by assumption) (by first | exact Nat.le_of_ble_eq_true rfl | (simp; done) | (simp <;> omega))) ?_
    rintro _ H1008 ⟨rfl, st1008, at1008⟩
    replace hbl := hbl.st st1008 (fun k hk => ⟨by omega, trivial⟩)
    refine ⟨hbl, ?_⟩
    have nx_H1008 := st1008.nx
    replace hle := hle.st st1008 (fun k hk => ⟨by omega, trivial⟩)
    replace at4 := st1008.same _ _ ⟨by omega, trivial⟩ at4
    replace at5 := st1008.same _ _ ⟨by omega, trivial⟩ at5
    replace at6 := st1008.same _ _ ⟨by omega, trivial⟩ at6
    replace at7 := st1008.same _ _ ⟨by omega, trivial⟩ at7
    replace at10x2 := st1008.same _ _ ⟨by omega, trivial⟩ at10x2
    have lt_at1008 := GHeap.lt_of_get at1008
    replace hf := base_hf.mono hle
    replace hk := base_hk.mono hle
    clear fsf ftf c10f c11f j1f j2f hmf hif hmsf hisf hmtf hitf s0 s1 s2 s3 s4 u1 u2 u3 u4
    obtain ⟨fsf, ftf, c10f, c11f, j1f, j2f⟩ := hf.get
    have hmf : MemN _ _ _ _ _ := ⟨rfl, hf.1⟩
    have hif := hf.2
    have hmsf : MemN _ _ _ _ _ := ⟨rfl, fsf.1⟩
    have hisf := fsf.2
    have hmtf : MemN _ _ _ _ _ := ⟨rfl, ftf.1⟩
    have hitf := ftf.2
    obtain ⟨s0, s1, s2, s3, s4, u1, u2, u3, u4⟩ := fsf.get
    try simp only [Nat.zero_add, List.set_cons_succ, List.set_cons_zero] at at1008
    replace hf0 := hf0.st st1008 (fun k hk => ⟨by omega, trivial⟩)
    refine .r1 rfl rfl rfl (.storeR rfl sz_96_He rfl rfl rfl (by assumption) (by first | exact Nat.le_of_ble_eq_true rfl | (simp; done) | (simp <;> omega))) ?_
    rintro _ H1009 ⟨rfl, st1009, at1009⟩
    replace hbl := hbl.st st1009 (fun k hk => ⟨by omega, trivial⟩)
    refine ⟨hbl, ?_⟩
    have nx_H1009 := st1009.nx
    replace hle := hle.st st1009 (fun k hk => ⟨by omega, trivial⟩)
    replace at4 := st1009.same _ _ ⟨by omega, trivial⟩ at4
    replace at5 := st1009.same _ _ ⟨by omega, trivial⟩ at5
    replace at6 := st1009.same _ _ ⟨by omega, trivial⟩ at6
    replace at7 := st1009.same _ _ ⟨by omega, trivial⟩ at7
    replace at1008 := st1009.same _ _ ⟨by omega, trivial⟩ at1008
    have lt_at1009 := GHeap.lt_of_get at1009
    replace hf := base_hf.mono hle
    replace hk := base_hk.mono hle
    clear fsf ftf c10f c11f j1f j2f hmf hif hmsf hisf hmtf hitf s0 s1 s2 s3 s4 u1 u2 u3 u4
    obtain ⟨fsf, ftf, c10f, c11f, j1f, j2f⟩ := hf.get
    have hmf : MemN _ _ _ _ _ := ⟨rfl, hf.1⟩
    have hif := hf.2
    have hmsf : MemN _ _ _ _ _ := ⟨rfl, fsf.1⟩
    have hisf := fsf.2
    have hmtf : MemN _ _ _ _ _ := ⟨rfl, ftf.1⟩
    have hitf := ftf.2
    obtain ⟨s0, s1, s2, s3, s4, u1, u2, u3, u4⟩ := fsf.get
    try simp only [Nat.zero_add, List.set_cons_succ, List.set_cons_zero] at at1009
    replace hf0 := hf0.st st1009 (fun k hk => ⟨by omega, trivial⟩)
    refine .done ?_
    exact ⟨g9x2, g10x2, ⟨rfl, rfl, rfl, rfl, rfl, rfl, rfl, rfl, rfl, rfl, rfl, trivial⟩, hf0, by omega, by omega, by first | assumption | simpa using at1008, by first | assumption | simpa using at1009, by omega⟩
   ·
    refine .c1 rfl rfl rfl rfl (.allocR rfl ze_96_G rfl) ?_
    rintro _ H10x3 ⟨g10x3, rfl, le10x3, ge10x3, at10x3⟩
    have hbl := le10x3
    refine ⟨hbl, ?_⟩
    have nx_H10x3 := le10x3.1
    replace hle := hle.trans le10x3
    replace at4 := le10x3.2 _ _ at4
    replace at5 := le10x3.2 _ _ at5
    replace at6 := le10x3.2 _ _ at6
    replace at7 := le10x3.2 _ _ at7
    have lt_at10x3 := GHeap.lt_of_get at10x3
    replace hf := base_hf.mono hle
    replace hk := base_hk.mono hle
    clear fsf ftf c10f c11f j1f j2f hmf hif hmsf hisf hmtf hitf s0 s1 s2 s3 s4 u1 u2 u3 u4
    obtain ⟨fsf, ftf, c10f, c11f, j1f, j2f⟩ := hf.get
    have hmf : MemN _ _ _ _ _ := ⟨rfl, hf.1⟩
    have hif := hf.2
    have hmsf : MemN _ _ _ _ _ := ⟨rfl, fsf.1⟩
    have hisf := fsf.2
    have hmtf : MemN _ _ _ _ _ := ⟨rfl, ftf.1⟩
    have hitf := ftf.2
    obtain ⟨s0, s1, s2, s3, s4, u1, u2, u3, u4⟩ := fsf.get
    replace hf0 := hf0.trans le10x3
    refine .c1 rfl rfl rfl rfl (.allocR rfl ze_96_G rfl) ?_
    rintro _ H9x3 ⟨g9x3, rfl, le9x3, ge9x3, at9x3⟩
    replace hbl := hbl.trans le9x3
    refine ⟨hbl, ?_⟩
    have nx_H9x3 := le9x3.1
    replace hle := hle.trans le9x3
    replace at4 := le9x3.2 _ _ at4
    replace at5 := le9x3.2 _ _ at5
    replace at6 := le9x3.2 _ _ at6
    replace at7 := le9x3.2 _ _ at7
    replace at10x3 := le9x3.2 _ _ at10x3
    have lt_at9x3 := GHeap.lt_of_get at9x3
    replace hf := base_hf.mono hle
    replace hk := base_hk.mono hle
    clear fsf ftf c10f c11f j1f j2f hmf hif hmsf hisf hmtf hitf s0 s1 s2 s3 s4 u1 u2 u3 u4
    obtain ⟨fsf, ftf, c10f, c11f, j1f, j2f⟩ := hf.get
    have hmf : MemN _ _ _ _ _ := ⟨rfl, hf.1⟩
    have hif := hf.2
    have hmsf : MemN _ _ _ _ _ := ⟨rfl, fsf.1⟩
    have hisf := fsf.2
    have hmtf : MemN _ _ _ _ _ := ⟨rfl, ftf.1⟩
    have hitf := ftf.2
    obtain ⟨s0, s1, s2, s3, s4, u1, u2, u3, u4⟩ := fsf.get
    replace hf0 := hf0.trans le9x3
    refine .r1 rfl rfl rfl (.storeR rfl sz_96_He rfl rfl rfl (by assumption) (by first | exact Nat.le_of_ble_eq_true rfl | (simp; done) | (simp <;> omega))) ?_
    rintro _ H1008x2 ⟨rfl, st1008x2, at1008x2⟩
    replace hbl := hbl.st st1008x2 (fun k hk => ⟨by omega, trivial⟩)
    refine ⟨hbl, ?_⟩
    have nx_H1008x2 := st1008x2.nx
    replace hle := hle.st st1008x2 (fun k hk => ⟨by omega, trivial⟩)
    replace at4 := st1008x2.same _ _ ⟨by omega, trivial⟩ at4
    replace at5 := st1008x2.same _ _ ⟨by omega, trivial⟩ at5
    replace at6 := st1008x2.same _ _ ⟨by omega, trivial⟩ at6
    replace at7 := st1008x2.same _ _ ⟨by omega, trivial⟩ at7
    replace at10x3 := st1008x2.same _ _ ⟨by omega, trivial⟩ at10x3
    have lt_at1008x2 := GHeap.lt_of_get at1008x2
    replace hf := base_hf.mono hle
    replace hk := base_hk.mono hle
    clear fsf ftf c10f c11f j1f j2f hmf hif hmsf hisf hmtf hitf s0 s1 s2 s3 s4 u1 u2 u3 u4
    obtain ⟨fsf, ftf, c10f, c11f, j1f, j2f⟩ := hf.get
    have hmf : MemN _ _ _ _ _ := ⟨rfl, hf.1⟩
    have hif := hf.2
    have hmsf : MemN _ _ _ _ _ := ⟨rfl, fsf.1⟩
    have hisf := fsf.2
    have hmtf : MemN _ _ _ _ _ := ⟨rfl, ftf.1⟩
    have hitf := ftf.2
    obtain ⟨s0, s1, s2, s3, s4, u1, u2, u3, u4⟩ := fsf.get
    try simp only [Nat.zero_add, List.set_cons_succ, List.set_cons_zero] at at1008x2
    replace hf0 := hf0.st st1008x2 (fun k hk => ⟨by omega, trivial⟩)
    refine .r1 rfl rfl rfl (.storeR rfl sz_96_He rfl rfl rfl (by assumption) (by first | exact Nat.le_of_ble_eq_true rfl | (simp; done) | (simp <;> omega))) ?_
    rintro _ H1009x2 ⟨rfl, st1009x2, at1009x2⟩
    replace hbl := hbl.st st1009x2 (fun k hk => ⟨by omega, trivial⟩)
    refine ⟨hbl, ?_⟩
    have nx_H1009x2 := st1009x2.nx
    replace hle := hle.st st1009x2 (fun k hk => ⟨by omega, trivial⟩)
    replace at4 := st1009x2.same _ _ ⟨by omega, trivial⟩ at4
    replace at5 := st1009x2.same _ _ ⟨by omega, trivial⟩ at5
    replace at6 := st1009x2.same _ _ ⟨by omega, trivial⟩ at6
    replace at7 := st1009x2.same _ _ ⟨by omega, trivial⟩ at7
    replace at1008x2 := st1009x2.same _ _ ⟨by omega, trivial⟩ at1008x2
    have lt_at1009x2 := GHeap.lt_of_get at1009x2
    replace hf := base_hf.mono hle
    replace hk := base_hk.mono hle
    clear fsf ftf c10f c11f j1f j2f hmf hif hmsf hisf hmtf hitf s0 s1 s2 s3 s4 u1 u2 u3 u4
    obtain ⟨fsf, ftf, c10f, c11f, j1f, j2f⟩ := hf.get
    have hmf : MemN _ _ _ _ _ := ⟨rfl, hf.1⟩
    have hif := hf.2
    have hmsf : MemN _ _ _ _ _ := ⟨rfl, fsf.1⟩
    have hisf := fsf.2
    have hmtf : MemN _ _ _ _ _ := ⟨rfl, ftf.1⟩
    have hitf := ftf.2
    obtain ⟨s0, s1, s2, s3, s4, u1, u2, u3, u4⟩ := fsf.get
    try simp only [Nat.zero_add, List.set_cons_succ, List.set_cons_zero] at at1009x2
    replace hf0 := hf0.st st1009x2 (fun k hk => ⟨by omega, trivial⟩)
    refine .done ?_
    exact ⟨g9x3, g10x3, ⟨rfl, rfl, rfl, rfl, rfl, rfl, rfl, rfl, rfl, rfl, rfl, trivial⟩, hf0, by omega, by omega, by first | assumption | simpa using at1008x2, by first | assumption | simpa using at1009x2, by omega⟩
  ·
   rintro fr10 H10 ⟨g9, g10, hsub10, le10, ge9, ge10, at9, at10, ne10_0⟩
   have nx_H10 := le10.1
   replace hle := hle.trans le10
   replace at4 := le10.2 _ _ at4
   replace at5 := le10.2 _ _ at5
   replace at6 := le10.2 _ _ at6
   replace at7 := le10.2 _ _ at7
   have lt_at9 := GHeap.lt_of_get at9
   have lt_at10 := GHeap.lt_of_get at10
   replace hf := base_hf.mono hle
   replace hk := base_hk.mono hle
   clear fsf ftf c10f c11f j1f j2f hmf hif hmsf hisf hmtf hitf s0 s1 s2 s3 s4 u1 u2 u3 u4
   obtain ⟨fsf, ftf, c10f, c11f, j1f, j2f⟩ := hf.get
   have hmf : MemN _ _ _ _ _ := ⟨rfl, hf.1⟩
   have hif := hf.2
   have hmsf : MemN _ _ _ _ _ := ⟨rfl, fsf.1⟩
   have hisf := fsf.2
   have hmtf : MemN _ _ _ _ _ := ⟨rfl, ftf.1⟩
   have hitf := ftf.2
   obtain ⟨s0, s1, s2, s3, s4, u1, u2, u3, u4⟩ := fsf.get
   refine hK2 _ _ ?_
   refine .forget hsub10 ?_
   refine .seq (fun K3 hK3 => ?_)
   refine .region ?_
   refine .m rfl rfl rfl (.load on_96_F rfl (by first | assumption | exact Mem.of_get at9 0 _ rfl)) ?_
   refine .m rfl rfl rfl (.nilCheck rfl) ?_
   refine .m rfl rfl rfl (.fieldAddr fo_31_0_B rfl) ?_
   refine .m rfl rfl rfl (.load on_2_A rfl (by assumption)) ?_
   refine .r rfl rfl rfl (.makeI rfl sl_22_A ze_2_E by_2_E rfl rfl (by omega) (by omega) (by omega) (by omega)) ?_
   rintro _ H23 ⟨g23, rfl, le23, ge23, at23⟩
   have nx_H23 := le23.1
   replace hle := hle.trans le23
   replace at4 := le23.2 _ _ at4
   replace at5 := le23.2 _ _ at5
   replace at6 := le23.2 _ _ at6
   replace at7 := le23.2 _ _ at7
   replace at9 := le23.2 _ _ at9
   replace at10 := le23.2 _ _ at10
   have lt_at23 := GHeap.lt_of_get at23
   replace hf := base_hf.mono hle
   replace hk := base_hk.mono hle
   clear fsf ftf c10f c11f j1f j2f hmf hif hmsf hisf hmtf hitf s0 s1 s2 s3 s4 u1 u2 u3 u4
   obtain ⟨fsf, ftf, c10f, c11f, j1f, j2f⟩ := hf.get
   have hmf : MemN _ _ _ _ _ := ⟨rfl, hf.1⟩
   have hif := hf.2
   have hmsf : MemN _ _ _ _ _ := ⟨rfl, fsf.1⟩
   have hisf := fsf.2
   have hmtf : MemN _ _ _ _ _ := ⟨rfl, ftf.1⟩
   have hitf := ftf.2
   obtain ⟨s0, s1, s2, s3, s4, u1, u2, u3, u4⟩ := fsf.get
   refine .r rfl rfl rfl (.allocR rfl ze_22_E rfl) ?_
   rintro _ H11 ⟨g11, rfl, le11, ge11, at11⟩
   have nx_H11 := le11.1
   replace hle := hle.trans le11
   replace at4 := le11.2 _ _ at4
   replace at5 := le11.2 _ _ at5
   replace at6 := le11.2 _ _ at6
   replace at7 := le11.2 _ _ at7
   replace at9 := le11.2 _ _ at9
   replace at10 := le11.2 _ _ at10
   replace at23 := le11.2 _ _ at23
   have lt_at11 := GHeap.lt_of_get at11
   replace hf := base_hf.mono hle
   replace hk := base_hk.mono hle
   clear fsf ftf c10f c11f j1f j2f hmf hif hmsf hisf hmtf hitf s0 s1 s2 s3 s4 u1 u2 u3 u4
   obtain ⟨fsf, ftf, c10f, c11f, j1f, j2f⟩ := hf.get
   have hmf : MemN _ _ _ _ _ := ⟨rfl, hf.1⟩
   have hif := hf.2
   have hmsf : MemN _ _ _ _ _ := ⟨rfl, fsf.1⟩
   have hisf := fsf.2
   have hmtf : MemN _ _ _ _ _ := ⟨rfl, ftf.1⟩
   have hitf := ftf.2
   obtain ⟨s0, s1, s2, s3, s4, u1, u2, u3, u4⟩ := fsf.get
   refine .r0 rfl rfl (.storeR rfl sz_22_E rfl rfl rfl (by assumption) (by first | exact Nat.le_of_ble_eq_true rfl | (simp; done) | (simp <;> omega))) ?_
   rintro _ H2006 ⟨rfl, st2006, at2006⟩
   have nx_H2006 := st2006.nx
   replace hle := hle.st st2006 (fun k hk => ⟨by omega, trivial⟩)
   replace at4 := st2006.same _ _ ⟨by omega, trivial⟩ at4
   replace at5 := st2006.same _ _ ⟨by omega, trivial⟩ at5
   replace at6 := st2006.same _ _ ⟨by omega, trivial⟩ at6
   replace at7 := st2006.same _ _ ⟨by omega, trivial⟩ at7
   replace at9 := st2006.same _ _ ⟨by omega, trivial⟩ at9
   replace at10 := st2006.same _ _ ⟨by omega, trivial⟩ at10
   replace at23 := st2006.same _ _ ⟨by omega, trivial⟩ at23
   have lt_at2006 := GHeap.lt_of_get at2006
   replace hf := base_hf.mono hle
   replace hk := base_hk.mono hle
   clear fsf ftf c10f c11f j1f j2f hmf hif hmsf hisf hmtf hitf s0 s1 s2 s3 s4 u1 u2 u3 u4
   obtain ⟨fsf, ftf, c10f, c11f, j1f, j2f⟩ := hf.get
   have hmf : MemN _ _ _ _ _ := ⟨rfl, hf.1⟩
   have hif := hf.2
   have hmsf : MemN _ _ _ _ _ := ⟨rfl, fsf.1⟩
   have hisf := fsf.2
   have hmtf : MemN _ _ _ _ _ := ⟨rfl, ftf.1⟩
   have hitf := ftf.2
   obtain ⟨s0, s1, s2, s3, s4, u1, u2, u3, u4⟩ := fsf.get
   try simp only [Nat.zero_add, List.set_cons_succ, List.set_cons_zero] at at2006
   refine .nil ?_
   refine hK3 _ _ ?_
   refine .seq (fun K4 hK4 => ?_)
   refine .region ?_
   refine .r rfl rfl rfl (.allocR rfl ze_84_He rfl) ?_
   rintro _ H12 ⟨g12, rfl, le12, ge12, at12⟩
   have nx_H12 := le12.1
   replace hle := hle.trans le12
   replace at4 := le12.2 _ _ at4
   replace at5 := le12.2 _ _ at5
   replace at6 := le12.2 _ _ at6
   replace at7 := le12.2 _ _ at7
   replace at9 := le12.2 _ _ at9
   replace at10 := le12.2 _ _ at10
   replace at23 := le12.2 _ _ at23
   replace at2006 := le12.2 _ _ at2006
   have lt_at12 := GHeap.lt_of_get at12
   replace hf := base_hf.mono hle
   replace hk := base_hk.mono hle
   clear fsf ftf c10f c11f j1f j2f hmf hif hmsf hisf hmtf hitf s0 s1 s2 s3 s4 u1 u2 u3 u4
   obtain ⟨fsf, ftf, c10f, c11f, j1f, j2f⟩ := hf.get
   have hmf : MemN _ _ _ _ _ := ⟨rfl, hf.1⟩
   have hif := hf.2
   have hmsf : MemN _ _ _ _ _ := ⟨rfl, fsf.1⟩
   have hisf := fsf.2
   have hmtf : MemN _ _ _ _ _ := ⟨rfl, ftf.1⟩
   have hitf := ftf.2
   obtain ⟨s0, s1, s2, s3, s4, u1, u2, u3, u4⟩ := fsf.get
   refine .nil ?_
   refine hK4 _ _ ?_
   refine .seq (fun K5 hK5 => ?_)
   refine .region ?_
   refine .m rfl rfl rfl (.makeFunc rfl) ?_
   refine .r0 rfl rfl (.storeR rfl sz_84_He rfl rfl rfl (by assumption) (by first | exact Nat.le_of_ble_eq_true rfl | (simp; done) | (simp <;> omega))) ?_
   rintro _ H4001 ⟨rfl, st4001, at4001⟩
   have nx_H4001 := st4001.nx
   replace hle := hle.st st4001 (fun k hk => ⟨by omega, trivial⟩)
   replace at4 := st4001.same _ _ ⟨by omega, trivial⟩ at4
   replace at5 := st4001.same _ _ ⟨by omega, trivial⟩ at5
   replace at6 := st4001.same _ _ ⟨by omega, trivial⟩ at6
   replace at7 := st4001.same _ _ ⟨by omega, trivial⟩ at7
   replace at9 := st4001.same _ _ ⟨by omega, trivial⟩ at9
   replace at10 := st4001.same _ _ ⟨by omega, trivial⟩ at10
   replace at23 := st4001.same _ _ ⟨by omega, trivial⟩ at23
   replace at2006 := st4001.same _ _ ⟨by omega, trivial⟩ at2006
   have lt_at4001 := GHeap.lt_of_get at4001
   replace hf := base_hf.mono hle
   replace hk := base_hk.mono hle
   clear fsf ftf c10f c11f j1f j2f hmf hif hmsf hisf hmtf hitf s0 s1 s2 s3 s4 u1 u2 u3 u4
   obtain ⟨fsf, ftf, c10f, c11f, j1f, j2f⟩ := hf.get
   have hmf : MemN _ _ _ _ _ := ⟨rfl, hf.1⟩
   have hif := hf.2
   have hmsf : MemN _ _ _ _ _ := ⟨rfl, fsf.1⟩
   have hisf := fsf.2
   have hmtf : MemN _ _ _ _ _ := ⟨rfl, ftf.1⟩
   have hitf := ftf.2
   obtain ⟨s0, s1, s2, s3, s4, u1, u2, u3, u4⟩ := fsf.get
   try simp only [Nat.zero_add, List.set_cons_succ, List.set_cons_zero] at at4001
   refine .nil ?_
   refine hK5 _ _ ?_
   refine .seq (fun K6 hK6 => ?_)
   refine .region ?_
   refine .m rfl rfl rfl (.load on_84_Hd rfl (by first | assumption | exact Mem.of_get at4001 0 _ rfl)) ?_
   have hN : f.s.obj.toNat = f.ob.length := by omega
   rw [hN] at at23 at2006
   refine .callV rfl rfl rfl rfl rfl @Try.call76 rfl ((choose_c (b := H4001.next) (gc := g23) (b1 := g9) (b2 := g7) (b3 := g11) (b4 := g10) (b5 := g4) (b6 := g5) (b7 := g6) (b8 := g12) (e0 := H.next) hf0 hk0 hP hH hac hal hle0.1 hg1 hg2 (by omega) (by omega) (by omega) (by omega) (by omega) (by omega) (by omega) (by omega) (by omega) f.ob.length 0 gF (List.replicate f.ob.length 0) [] H4001 (by omega) (hle0.trans hle) ⟨at9, at7, at2006, at10, at4, at5, at6, at4001⟩ at23 (by simp) (fun i hi => by omega) (hH.le (hA _) hle) (by simp) (by omega) hF0 (.inl hF) (Nat.le_refl _))) ?_
   rintro _ H26 ⟨gF26, co26, rfl, hg26, hl26, st26, at26, hlc26, htk26, hA26⟩
   refine .m rfl rfl rfl (.assign rfl) ?_
   refine .nil ?_
   refine hK6 _ _ ?_
   refine .ret ?_
   -- leaf e1
   refine hret _ _ ?_
   refine ⟨_, rfl, ?_⟩
   refine ⟨gF26, H4001.next, ?_, by omega, by omega, hl26, (St.of_le (bs := [g1, gF]) hle).st st26 (fun k hk ho => ⟨by omega, ho.1, ho.2.1, trivial⟩), hA26⟩
   show Value.bool (decide (0 + _ ≤ most)) = _
   rw [Nat.zero_add]
   rfl
end Go.Proofs.Ytnohkokoimmclaa
/- The search for transformations. No condition but those of each statement. -/
namespace Go.Proofs.Ytnohkokoimmclaa
open Go Go.GL Go.RowKit Go.Proofs
theorem fo_89_4_Hb : fieldOff Try.prog 89 4 = some 26 := by kernel_rfl
theorem fo_89_3_Hb : fieldOff Try.prog 89 3 = some 25 := by kernel_rfl
theorem on_3_Hb : oneT Try.prog 3 = true := by kernel_rfl
/-- What a search does. -/
def GoSpec (f : Fun) (p : FunP) (k : Fun) (q : FunP) (iso : Bool) (M : Nat) (H0 : GHeap) (m : Nat) : Prop :=
  ∀ (gs gF gc b N : Nat) (co : List Int) (fs : List (List Int)) (H : GHeap), cntU co = m → H0.Le H → H0.next ≤ gs → H0.next ≤ gF → gs ≠ gF → gc ≠ gs → gc ≠ gF → gF < H.next → b ≤ H.next → H.get gc = some (.row (ints co) 2 true) → co.length = N → N = f.ob.length →
    (∀ i, i < N → co.getD i 0 < f.t.src.length) → FoundAt 89 22 2 b H gs gF f p k q iso M fs → fs.length < M →
    GCalls Try.prog 60 [.pointer (some ⟨gs, 0, none⟩), .slice (some ⟨gc, 0, none⟩) N N] H (fun _ H' => ∃ gF', (gF' = gF ∨ H.next ≤ gF') ∧ St [gs, gF] H H' ∧ gF' < H'.next ∧ FoundAt 89 22 2 b H' gs gF' f p k q iso M ((fs ++ (f.net k iso).go co).take M))
set_option maxHeartbeats 4000000 in
theorem l07Go_c {f k : Fun} {p q : FunP} {iso : Bool} {M : Nat} {H0 : GHeap} (hin : f.In H0 p) (hin1 : k.In H0 q) (hP : f.Par k) (hM : M ≤ 1048576) (m : Nat) : GoSpec f p k q iso M H0 m := by
  refine Nat.strongRecOn (motive := GoSpec f p k q iso M H0) m (fun m ih => ?_)
  intro gs gF gc b N co fs H hm hle0 n1 n2 n3 n4 n5 n6 n7 hgc hl hN hco hFA hfs
  subst hl
  obtain ⟨af, r, hst, hSl, hOw⟩ := hFA.ex
  have hpos := (hP.fi.good k iso).pos
  have hol := hP.fi.2.2.ol
  have hob := hP.fi.1.1.obj
  have hn40 := hP.fi.2.1.1.n40
  have hfl : (slsL r fs).length = fs.length := length_slsL _ _
  refine GCalls.body (N := 75) (rs := []) Try.func60 rfl rfl rfl rfl (fun Qx hret hend => ?_)
  refine .forget (fr' := [(0, some _), (1, some _)]) ⟨rfl, rfl, trivial⟩ ?_
  have lt_hst := GHeap.lt_of_get hst
  have lt_hgc := GHeap.lt_of_get hgc
  have hfo := St.refl [gs, gF] H
  have hgr := St.refl [] H
  have hz := hle0.st hfo (fun k hk => ⟨by omega, by omega, trivial⟩)
  have hi1 := hin.mono hz
  have hi2 := hin1.mono hz
  have hst0 := hst
  refine .seq (fun K1 hK1 => ?_)
  refine .region ?_
  refine .m rfl rfl rfl (.assign rfl) ?_
  refine .nil ?_
  refine hK1 _ _ ?_
  refine .seq (fun K2 hK2 => ?_)
  refine .seq (fun K3 hK3 => ?_)
  refine .region ?_
  refine .m rfl rfl rfl (.move rfl) ?_
  refine .m rfl rfl rfl (.len sl_22_A rfl) ?_
  refine .m rfl rfl rfl (.sub rfl rfl rfl (by omega) (by omega)) ?_
  refine .m rfl rfl rfl (.assign rfl) ?_
  refine .nil ?_
  refine hK3 _ _ ?_
  refine .block ?_
  refine .loopR (σ := Nat × Int) [(0, some _), (1, some _)] (fun (y, x) => [(5, some (.int .i64 ((y : Int) - 1))), (4, some (.int .i64 x))]) (fun (y, x) H' => St [] H H' ∧ y ≤ co.length ∧ SeenU (f.net k iso) co y x) (fun (y, x) => y) ((co.length, -1)) ⟨rfl, rfl, trivial⟩ ⟨rfl, rfl, trivial⟩ ?_ ?_
  ·
   refine ⟨.refl _ _, ?_⟩
   exact ⟨Nat.le_refl _, .start _ _⟩
  ·
   rintro ⟨y, x⟩ HL1 ⟨lst1, hI⟩ KL1 hKL1
   refine .forget (fr' := [(5, some (.int .i64 ((y : Int) - 1))), (4, some (.int .i64 x)), (0, some _), (1, some _)]) ⟨rfl, rfl, rfl, rfl, trivial⟩ ?_
   have nx_HL1 := lst1.nx
   replace hfo := hfo.st lst1 (fun k hk ho => by simp only [out, and_true] at ho ⊢ <;> omega)
   replace hgr := hgr.st lst1 (fun k hk ho => by simp only [out, and_true] at ho ⊢ <;> omega)
   replace hst := lst1.same _ _ trivial hst
   replace hgc := lst1.same _ _ trivial hgc
   clear hz hi1 hi2
   have hz := hle0.st hfo (fun k hk => ⟨by omega, by omega, trivial⟩)
   have hi1 := hin.mono hz
   have hi2 := hin1.mono hz
   obtain ⟨hy, hU⟩ := hI
   refine .seq (fun K4 hK4 => ?_)
   refine .seq (fun K5 hK5 => ?_)
   refine .region ?_
   refine .m rfl rfl rfl (.move rfl) ?_
   refine .m rfl rfl rfl (.cmp rfl rfl rfl) ?_
   refine .nil ?_
   refine hK5 _ _ ?_
   refine .cond rfl (fun h13 => ?_) (fun h13 => ?_)
   ·
    simp only [sps] at h13
    obtain ⟨y', rfl⟩ : ∃ y', y = y' + 1 := ⟨y - 1, by omega⟩
    have e8 : ((y' + 1 : Nat) : Int) - 1 = (y' : Int) := by omega
    rw [e8]
    refine .skip ?_
    refine hK4 _ _ ?_
    refine .seq (fun K6 hK6 => ?_)
    refine .block ?_
    refine .seq (fun K7 hK7 => ?_)
    refine .region ?_
    refine .m rfl rfl rfl (.move rfl) ?_
    refine .m rfl rfl rfl (.move rfl) ?_
    refine .m rfl rfl rfl (.idxN sl_22_A (by first | assumption | exact SlA.of_row hgc (by first | rfl | (simp; done) | (simp <;> omega))) rfl rfl (by omega)) ?_
    refine .m rfl rfl rfl (.loadI on_2_A (by first | assumption | exact Ints.of_get hgc) rfl (by omega)) ?_
    refine .m rfl rfl rfl (.cmp rfl rfl rfl) ?_
    refine .nil ?_
    refine hK7 _ _ ?_
    refine .cond rfl (fun h20 => ?_) (fun h20 => ?_)
    ·
     simp only [sps] at h20
     refine .seq (fun K8 hK8 => ?_)
     refine .region ?_
     refine .m rfl rfl rfl (.move rfl) ?_
     refine .m rfl rfl rfl (.assign rfl) ?_
     refine .nil ?_
     refine hK8 _ _ ?_
     refine .seq (fun K9 hK9 => ?_)
     refine .region ?_
     refine .m rfl rfl rfl (.move rfl) ?_
     refine .m rfl rfl rfl (.move rfl) ?_
     refine .m rfl rfl rfl (.move rfl) ?_
     refine .call rfl rfl rfl rfl @Try.call80 rfl (l07Choices_c (iso := iso) (x := y') (Mem.of_get hst) hi1 hi2 (Ints.of_get hgc) hP hN (by omega) hco) ?_
     rintro _ H25 ⟨le25, g25, rfl, at25, ge25⟩
     have nx_H25 := le25.1
     replace hfo := hfo.le le25
     replace hgr := hgr.le le25
     replace lst1 := lst1.le le25
     replace hst := le25.2 _ _ hst
     replace hgc := le25.2 _ _ hgc
     have lt_at25 := GHeap.lt_of_get at25
     clear hz hi1 hi2
     have hz := hle0.st hfo (fun k hk => ⟨by omega, by omega, trivial⟩)
     have hi1 := hin.mono hz
     have hi2 := hin1.mono hz
     have i25 := Ints.of_get at25
     refine .m rfl rfl rfl (.len sl_22_A rfl) ?_
     refine .m rfl rfl rfl (.cmp rfl rfl rfl) ?_
     refine .nil ?_
     refine hK9 _ _ ?_
     refine .cond rfl (fun h27 => ?_) (fun h27 => ?_)
     ·
      simp only [sps] at h27
      refine .ret ?_
      -- leaf e1
      refine hret _ _ ?_
      rw [Net.go_stuck (by omega) h20 (by omega) hpos, take_less hfs]
      exact ⟨gF, .inl rfl, hfo, by omega, hFA.mono hgr.le_of_nil⟩
     ·
      simp only [sps] at h27
      refine .skip ?_
      refine hK6 _ _ ?_
      refine .region ?_
      refine .m rfl rfl rfl (.move rfl) ?_
      refine .m rfl rfl rfl (.sub (r := (y' : Int) - 1) rfl rfl (by omega) (by omega) (by omega)) ?_
      refine .m rfl rfl rfl (.assign rfl) ?_
      refine .nil ?_
      refine hKL1 ((y', _)) _ _ ?_ ?_ ⟨rfl, rfl, rfl, rfl, trivial⟩
      ·
       refine ⟨lst1, ?_⟩
       first
       | exact ⟨by omega, hU.hit (by omega) h20 (by omega)⟩
       | exact ⟨by omega, hU.miss h20⟩
      ·
       (dsimp only; omega)
    ·
     simp only [sps] at h20
     refine .skip ?_
     refine hK6 _ _ ?_
     refine .region ?_
     refine .m rfl rfl rfl (.move rfl) ?_
     refine .m rfl rfl rfl (.sub (r := (y' : Int) - 1) rfl rfl (by omega) (by omega) (by omega)) ?_
     refine .m rfl rfl rfl (.assign rfl) ?_
     refine .nil ?_
     refine hKL1 ((y', _)) _ _ ?_ ?_ ⟨rfl, rfl, rfl, rfl, trivial⟩
     ·
      refine ⟨lst1, ?_⟩
      first
      | exact ⟨by omega, hU.hit (by omega) h20 (by omega)⟩
      | exact ⟨by omega, hU.miss h20⟩
     ·
      (dsimp only; omega)
   ·
    simp only [sps] at h13
    obtain rfl : y = 0 := by omega
    refine .exit ?_
    refine hK2 _ _ ?_
    refine .seq (fun K10 hK10 => ?_)
    refine .seq (fun K11 hK11 => ?_)
    refine .region ?_
    refine .m rfl rfl rfl (.move rfl) ?_
    refine .m rfl rfl rfl (.cmp rfl rfl rfl) ?_
    refine .nil ?_
    refine hK11 _ _ ?_
    refine .cond rfl (fun h29 => ?_) (fun h29 => ?_)
    ·
     simp only [sps] at h29
     have hgo := hU.none h29 hpos
     refine .seq (fun K12 hK12 => ?_)
     refine .regionDB mixed_orders_B (.q 0 (.q 1 (.q 2 (.q 3 (.q 4 (.q 5 (.c 6 1 (.c 7 1 (.c 8 1 (.q 9 (.q 10 (.c 11 0 (.done))))))))))))) (by kernel_rfl) (GHeap.le_erase HL1 gF) ?_
     have hbl := GHeap.le_erase HL1 gF
     have hstB := GHeap.get_erase_of hst n3
     refine .mB rfl rfl rfl rfl hbl (.move rfl) ?_
     refine .mB rfl rfl rfl rfl hbl (.move rfl) ?_
     refine .mB rfl rfl rfl rfl hbl (.nilCheck rfl) ?_
     refine .mB rfl rfl rfl rfl hbl (.fieldAddr fo_89_4_Hb rfl) ?_
     refine .mB rfl rfl rfl rfl hbl (.load on_23_B rfl (Mem.of_get hstB 26 _ rfl)) ?_
     refine .mB rfl rfl rfl rfl hbl (.move rfl) ?_
     refine .call1 rfl rfl rfl rfl rfl @Try.call81 rfl (l01Own_c (Ints.of_get hgc)) ?_
     rintro _ H36 ⟨le36, g36, rfl, at36, ge36⟩
     replace hbl := hbl.trans le36
     refine ⟨hbl, ?_⟩
     have nx_H36 := le36.1
     replace hfo := hfo.le le36
     replace hgr := hgr.le le36
     replace lst1 := lst1.le le36
     replace hst := le36.2 _ _ hst
     replace hgc := le36.2 _ _ hgc
     have lt_at36 := GHeap.lt_of_get at36
     clear hz hi1 hi2
     have hz := hle0.st hfo (fun k hk => ⟨by omega, by omega, trivial⟩)
     have hi1 := hin.mono hz
     have hi2 := hin1.mono hz
     have i36 := Ints.of_get at36
     refine .c1 rfl rfl rfl rfl (.litR rfl sl_23_B ze_22_E rfl rfl (by omega) (by omega) rfl rfl) ?_
     rintro _ H37 ⟨g37, rfl, le37, ge37, at37⟩
     replace hbl := hbl.trans le37
     refine ⟨hbl, ?_⟩
     have nx_H37 := le37.1
     replace hfo := hfo.le le37
     replace hgr := hgr.le le37
     replace lst1 := lst1.le le37
     replace hst := le37.2 _ _ hst
     replace hgc := le37.2 _ _ hgc
     replace at36 := le37.2 _ _ at36
     have lt_at37 := GHeap.lt_of_get at37
     clear hz hi1 hi2
     have hz := hle0.st hfo (fun k hk => ⟨by omega, by omega, trivial⟩)
     have hi1 := hin.mono hz
     have hi2 := hin1.mono hz
     clear i36
     have i36 := Ints.of_get at36
     have hSl2 := hSl.mono hgr.le_of_nil
     refine .c1 rfl rfl rfl rfl (.appendVO rfl sl_23_B ze_22_E rfl by_22_E sl_23_B rfl rfl hSl2 (by assumption) (by simp) (by omega) rfl rfl (by omega) (by omega)) ?_
     rintro _ H38 ⟨g38, rfl, st38, ge38, at38⟩
     refine ⟨(hbl.erase_st st38), ?_⟩
     have nx_H38 := st38.nx
     replace hfo := hfo.st st38 (fun k hk ho => by simp only [out, and_true] at ho ⊢ <;> omega)
     replace hst := st38.same _ _ ⟨by omega, trivial⟩ hst
     replace hgc := st38.same _ _ ⟨by omega, trivial⟩ hgc
     replace at36 := st38.same _ _ ⟨by omega, trivial⟩ at36
     replace at37 := st38.same _ _ ⟨by omega, trivial⟩ at37
     have lt_at38 := GHeap.lt_of_get at38
     clear hz hi1 hi2
     have hz := hle0.st hfo (fun k hk => ⟨by omega, by omega, trivial⟩)
     have hi1 := hin.mono hz
     have hi2 := hin1.mono hz
     clear i36
     have i36 := Ints.of_get at36
     replace hbl := hbl.erase_st st38
     refine .mB rfl rfl rfl rfl hbl (.nilCheck rfl) ?_
     refine .mB rfl rfl rfl rfl hbl (.fieldAddr fo_89_4_Hb rfl) ?_
     refine .r0 rfl rfl rfl (.storeR rfl sz_23_E rfl rfl rfl (by assumption) (by first | exact Nat.le_of_ble_eq_true rfl | (simp; done) | (simp <;> omega))) ?_
     rintro _ H8011 ⟨rfl, st8011, at8011⟩
     have nx_H8011 := st8011.nx
     replace hfo := hfo.st st8011 (fun k hk ho => by simp only [out, and_true] at ho ⊢ <;> omega)
     replace hgc := st8011.same _ _ ⟨by omega, trivial⟩ hgc
     replace at36 := st8011.same _ _ ⟨by omega, trivial⟩ at36
     replace at37 := st8011.same _ _ ⟨by omega, trivial⟩ at37
     replace at38 := st8011.same _ _ ⟨by omega, trivial⟩ at38
     have lt_at8011 := GHeap.lt_of_get at8011
     clear hz hi1 hi2
     have hz := hle0.st hfo (fun k hk => ⟨by omega, by omega, trivial⟩)
     have hi1 := hin.mono hz
     have hi2 := hin1.mono hz
     clear i36
     have i36 := Ints.of_get at36
     try simp only [Nat.zero_add, List.set_cons_succ, List.set_cons_zero] at at8011
     refine .done ?_
     refine hK12 _ _ ?_
     refine .ret ?_
     -- leaf e2
     refine hret _ _ ?_
     have hw1 := hSl.neR hOw rfl
     have hw2 := hOw.st hfo (.cons (hOw.neT hst0 rfl) (.cons hw1 (.nil _ _)))
     have hw3 := hw2.snoc2 at36 (hOw.ne (by omega)) (by omega)
     have hfl2 : (fs ++ [co]).length = fs.length + 1 := by simp
     rw [hgo, take_one hfs]
     exact ⟨g38, .inr (by omega), hfo, by omega, ⟨⟨_, _, by rw [hfl2]; exact at8011, .inr ⟨rfl, by omega, by rw [slsL_snoc]; exact at38⟩, hw3⟩⟩⟩
    ·
     simp only [sps] at h29
     obtain ⟨m', rfl, hm1, hm2, hgo⟩ := hU.some (by omega) hpos
     refine .skip ?_
     refine hK10 _ _ ?_
     refine .seq (fun K13 hK13 => ?_)
     refine .region ?_
     refine .m rfl rfl rfl (.move rfl) ?_
     refine .m rfl rfl rfl (.move rfl) ?_
     refine .m rfl rfl rfl (.move rfl) ?_
     refine .call rfl rfl rfl rfl @Try.call80 rfl (l07Choices_c (iso := iso) (x := m') (Mem.of_get hst) hi1 hi2 (Ints.of_get hgc) hP hN (by omega) hco) ?_
     rintro _ H44 ⟨le44, g44, rfl, at44, ge44⟩
     have nx_H44 := le44.1
     replace hfo := hfo.le le44
     replace hgr := hgr.le le44
     replace lst1 := lst1.le le44
     replace hst := le44.2 _ _ hst
     replace hgc := le44.2 _ _ hgc
     have lt_at44 := GHeap.lt_of_get at44
     clear hz hi1 hi2
     have hz := hle0.st hfo (fun k hk => ⟨by omega, by omega, trivial⟩)
     have hi1 := hin.mono hz
     have hi2 := hin1.mono hz
     have i44 := Ints.of_get at44
     refine .m rfl rfl rfl (.assign rfl) ?_
     refine .nil ?_
     refine hK13 _ _ ?_
     refine .seq (fun K14 hK14 => ?_)
     refine .region ?_
     have hcl := Fun.choices_le f k iso co m'
     refine .m rfl rfl rfl (.assign rfl) ?_
     refine .nil ?_
     refine hK14 _ _ ?_
     refine .block ?_
     refine .loopR (σ := Nat × Nat) [(0, some _), (1, some _), (4, some _), (6, some _)] (fun (j, gV) => [(7, some (.int .i64 (j : Int)))]) (fun (j, gV) H' => St [gs, gF] H44 H' ∧ j ≤ ((f.net k iso).choices co m').length ∧ (gV = gF ∨ H44.next ≤ gV) ∧ gV < H'.next ∧ FoundAt 89 22 2 b H' gs gV f p k q iso M ((fs ++ (((f.net k iso).choices co m').take j).flatMap fun h => (f.net k iso).go (co.set m' h)).take M)) (fun (j, gV) => ((f.net k iso).choices co m').length - j) ((0, gF)) ⟨rfl, rfl, rfl, rfl, trivial⟩ ⟨rfl, trivial⟩ ?_ ?_
     ·
      refine ⟨.refl _ _, ?_⟩
      refine ⟨by omega, .inl rfl, by omega, ?_⟩
      rw [List.take_zero, List.flatMap_nil, take_less hfs]
      exact hFA.mono (hgr.le_of_nil)
     ·
      rintro ⟨j, gV⟩ HL2 ⟨lst2, hI⟩ KL2 hKL2
      refine .forget (fr' := [(7, some (.int .i64 (j : Int))), (0, some _), (1, some _), (4, some _), (6, some _)]) ⟨rfl, rfl, rfl, rfl, rfl, trivial⟩ ?_
      have nx_HL2 := lst2.nx
      replace hfo := hfo.st lst2 (fun k hk ho => by simp only [out, and_true] at ho ⊢ <;> omega)
      replace hgc := lst2.same _ _ ⟨by omega, by omega, trivial⟩ hgc
      replace at44 := lst2.same _ _ ⟨by omega, by omega, trivial⟩ at44
      clear hz hi1 hi2
      have hz := hle0.st hfo (fun k hk => ⟨by omega, by omega, trivial⟩)
      have hi1 := hin.mono hz
      have hi2 := hin1.mono hz
      clear i44
      have i44 := Ints.of_get at44
      have rk := St.refl [] HL2
      obtain ⟨hj, hgV, hgl, hFV⟩ := hI
      obtain ⟨af2, r2, e1, _, _⟩ := hFV.ex
      have c25 : GHeap.cell HL2 gs (0 + 25) = some (.int .i64 (M : Int)) := Mem.of_get e1 25 _ rfl
      have c26 : GHeap.cell HL2 gs (0 + 26) = some (.slice af2 _ _) := Mem.of_get e1 26 _ rfl
      refine .seq (fun K15 hK15 => ?_)
      refine .seq (fun K16 hK16 => ?_)
      refine .regionD mixed_orders_B (.q 0 (.q 1 (.q 2 (.q 3 (.q 4 (.q 5 (.q 6 (.q 7 (.q 8 (.q 9 (.q 10 (.q 11 (.q 12 (.q 13 (.q 14 (.q 15 (.done))))))))))))))))) (by kernel_rfl) ?_
      refine .m rfl rfl rfl rfl (.refl _) (.move rfl) ?_
      refine .m rfl rfl rfl rfl (.refl _) (.move rfl) ?_
      refine .m rfl rfl rfl rfl (.refl _) (.len sl_22_A rfl) ?_
      refine .m rfl rfl rfl rfl (.refl _) (.cmp rfl rfl rfl) ?_
      refine .m rfl rfl rfl rfl (.refl _) (.move rfl) ?_
      refine .split (fun h49 => ?_) (fun h49 => ?_)
      ·
       simp only [sps] at h49
       refine .mg rfl rfl rfl rfl rfl rfl (.refl _) (.move rfl) ?_
       refine .mg rfl rfl rfl rfl rfl rfl (.refl _) (.nilCheck rfl) ?_
       refine .mg rfl rfl rfl rfl rfl rfl (.refl _) (.fieldAddr fo_89_4_Hb rfl) ?_
       refine .mg rfl rfl rfl rfl rfl rfl (.refl _) (.load on_23_B rfl (by assumption)) ?_
       refine .mg rfl rfl rfl rfl rfl rfl (.refl _) (.len sl_23_B rfl) ?_
       refine .mg rfl rfl rfl rfl rfl rfl (.refl _) (.move rfl) ?_
       refine .mg rfl rfl rfl rfl rfl rfl (.refl _) (.nilCheck rfl) ?_
       refine .mg rfl rfl rfl rfl rfl rfl (.refl _) (.fieldAddr fo_89_3_Hb rfl) ?_
       refine .mg rfl rfl rfl rfl rfl rfl (.refl _) (.load on_3_Hb rfl (by assumption)) ?_
       refine .mg rfl rfl rfl rfl rfl rfl (.refl _) (.cmp rfl rfl rfl) ?_
       refine .m rfl rfl rfl rfl (.refl _) (.pickT rfl rfl) ?_
       refine .done ?_
       refine hK16 _ _ ?_
       refine .cond rfl (fun h60 => ?_) (fun h60 => ?_)
       ·
        simp only [sps] at h60
        refine .skip ?_
        refine hK15 _ _ ?_
        refine .seq (fun K17 hK17 => ?_)
        refine .block ?_
        refine .seq (fun K18 hK18 => ?_)
        refine .region ?_
        refine .m rfl rfl rfl (.move rfl) ?_
        refine .call rfl rfl rfl rfl @Try.call81 rfl (l01Own_c (Ints.of_get hgc)) ?_
        rintro _ H64 ⟨le64, g64, rfl, at64, ge64⟩
        have nx_H64 := le64.1
        replace hfo := hfo.le le64
        replace lst2 := lst2.le le64
        replace rk := rk.le le64
        replace hgc := le64.2 _ _ hgc
        replace at44 := le64.2 _ _ at44
        have lt_at64 := GHeap.lt_of_get at64
        clear hz hi1 hi2
        have hz := hle0.st hfo (fun k hk => ⟨by omega, by omega, trivial⟩)
        have hi1 := hin.mono hz
        have hi2 := hin1.mono hz
        clear i44
        have i44 := Ints.of_get at44
        have i64 := Ints.of_get at64
        refine .m rfl rfl rfl (.assign rfl) ?_
        refine .nil ?_
        refine hK18 _ _ ?_
        refine .seq (fun K19 hK19 => ?_)
        refine .region ?_
        refine .m rfl rfl rfl (.move rfl) ?_
        refine .m rfl rfl rfl (.move rfl) ?_
        refine .m rfl rfl rfl (.move rfl) ?_
        refine .m rfl rfl rfl (.move rfl) ?_
        refine .m rfl rfl rfl (.idxN sl_22_A (by first | assumption | exact SlA.of_row at44 (by first | rfl | (simp; done) | (simp <;> omega))) rfl rfl (by omega)) ?_
        refine .m rfl rfl rfl (.loadI on_2_A (by first | assumption | exact Ints.of_get at44) rfl (by omega)) ?_
        refine .m rfl rfl rfl (.idxN sl_22_A (by first | assumption | exact SlA.of_row at64 (by first | rfl | (simp; done) | (simp <;> omega))) rfl rfl (by omega)) ?_
        refine .r0 rfl rfl (.storeI rfl sz_2_E rfl rfl (by assumption) (by first | omega | (simp <;> omega))) ?_
        rintro _ H14007 ⟨rfl, st14007, at14007⟩
        have nx_H14007 := st14007.nx
        replace hfo := hfo.st st14007 (fun k hk ho => by simp only [out, and_true] at ho ⊢ <;> omega)
        replace lst2 := lst2.st st14007 (fun k hk ho => by simp only [out, and_true] at ho ⊢ <;> omega)
        replace rk := rk.st st14007 (fun k hk ho => by simp only [out, and_true] at ho ⊢ <;> omega)
        replace hgc := st14007.same _ _ ⟨by omega, trivial⟩ hgc
        replace at44 := st14007.same _ _ ⟨by omega, trivial⟩ at44
        have lt_at14007 := GHeap.lt_of_get at14007
        clear hz hi1 hi2
        have hz := hle0.st hfo (fun k hk => ⟨by omega, by omega, trivial⟩)
        have hi1 := hin.mono hz
        have hi2 := hin1.mono hz
        clear i44
        have i44 := Ints.of_get at44
        clear i64
        have i64 := Ints.of_get at64
        rw [Nat.zero_add] at at14007
        refine .nil ?_
        refine hK19 _ _ ?_
        refine .region ?_
        refine .m rfl rfl rfl (.move rfl) ?_
        refine .m rfl rfl rfl (.move rfl) ?_
        have hhm := getD_mem_list (d := (0 : Int)) (show j < ((f.net k iso).choices co m').length by omega)
        obtain ⟨a', ha1, _, _, ha4⟩ := Fun.choices_hom hhm
        have hcn := cntU_set hm1 hm2 (h := ((f.net k iso).choices co m').getD j 0) (by omega)
        have hcs : ∀ i, i < co.length → (co.set m' (((f.net k iso).choices co m').getD j 0)).getD i 0 < f.t.src.length := fun i hi => by
          rw [getD_set (by omega)]
          split
          · omega
          · exact hco i hi
        refine .call rfl rfl rfl rfl @Try.call60 rfl ((ih (cntU (co.set m' (((f.net k iso).choices co m').getD j 0))) (by omega) gs gV g64 b co.length _ _ _ rfl hz n1 (by omega) (by omega) (by omega) (by omega) (by omega) (by omega) at14007 (by simp) hN hcs (hFV.mono rk.le_of_nil) (by omega))) ?_
        rintro _ H74 ⟨gF74, hg74, st74, hl74, hF74⟩
        have nx_H74 := st74.nx
        replace hfo := hfo.st st74 (fun k hk ho => by simp only [out, and_true] at ho ⊢ <;> omega)
        replace lst2 := lst2.st st74 (fun k hk ho => by simp only [out, and_true] at ho ⊢ <;> omega)
        replace hgc := st74.same _ _ ⟨by omega, by omega, trivial⟩ hgc
        replace at44 := st74.same _ _ ⟨by omega, by omega, trivial⟩ at44
        replace at14007 := st74.same _ _ ⟨by omega, by omega, trivial⟩ at14007
        clear hz hi1 hi2
        have hz := hle0.st hfo (fun k hk => ⟨by omega, by omega, trivial⟩)
        have hi1 := hin.mono hz
        have hi2 := hin1.mono hz
        clear i44
        have i44 := Ints.of_get at44
        clear i64
        have i64 := Ints.of_get at64
        refine .nil ?_
        refine hK17 _ _ ?_
        refine .region ?_
        refine .m rfl rfl rfl (.move rfl) ?_
        refine .m rfl rfl rfl (.add rfl rfl rfl (by omega) (by omega)) ?_
        refine .m rfl rfl rfl (.assign rfl) ?_
        refine .nil ?_
        refine hKL2 ((j + 1, gF74)) _ _ ?_ ?_ ⟨rfl, rfl, rfl, rfl, rfl, trivial⟩
        ·
         refine ⟨lst2, ?_⟩
         refine ⟨by omega, by omega, hl74, ?_⟩
         rw [← foldG_more (d := 0) (by omega) (by omega)]
         exact hF74
        ·
         (dsimp only; omega)
       ·
        simp only [sps] at h60
        refine .exit ?_
        -- leaf e3
        refine hend _ _ ?_
        have hge := foldG_done (M := M) (fs := fs) (C := (f.net k iso).choices co m') (G := fun h => (f.net k iso).go (co.set m' h)) (k := j) (.inr (by omega))
        rw [hgo, ← hge]
        exact ⟨gV, by omega, hfo, hgl, hFV⟩
      ·
       simp only [sps] at h49
       refine .sg rfl rfl rfl rfl rfl rfl ?_
       refine .sg rfl rfl rfl rfl rfl rfl ?_
       refine .sg rfl rfl rfl rfl rfl rfl ?_
       refine .sg rfl rfl rfl rfl rfl rfl ?_
       refine .sg rfl rfl rfl rfl rfl rfl ?_
       refine .sg rfl rfl rfl rfl rfl rfl ?_
       refine .sg rfl rfl rfl rfl rfl rfl ?_
       refine .sg rfl rfl rfl rfl rfl rfl ?_
       refine .sg rfl rfl rfl rfl rfl rfl ?_
       refine .sg rfl rfl rfl rfl rfl rfl ?_
       refine .m rfl rfl rfl rfl (.refl _) (.pickF rfl rfl) ?_
       refine .done ?_
       refine hK16 _ _ ?_
       refine .condF rfl ?_
       refine .exit ?_
       -- leaf e4
       refine hend _ _ ?_
       have hge := foldG_done (M := M) (fs := fs) (C := (f.net k iso).choices co m') (G := fun h => (f.net k iso).go (co.set m' h)) (k := j) (.inl (by omega))
       rw [hgo, ← hge]
       exact ⟨gV, by omega, hfo, hgl, hFV⟩
end Go.Proofs.Ytnohkokoimmclaa
