/- The choices of a search for transformations. No condition but those of each statement. -/
import Derived.Test.YtpmjlhbglcaokaaZ9
namespace Go.Proofs.Ytpmjlhbglcaokaa
open Go Go.GL Go.RowKit Go.Proofs
theorem fo_122_0_Ha : fieldOff Try.prog 122 0 = some 0 := by kernel_rfl
theorem fo_122_1_Ha : fieldOff Try.prog 122 1 = some 12 := by kernel_rfl
theorem fo_122_2_Ha : fieldOff Try.prog 122 2 = some 24 := by kernel_rfl
theorem on_4_Ha : oneT Try.prog 4 = true := by kernel_rfl
theorem l07SquareP_c {f k : Fun} {p q : FunP} {iso : Bool} {d : Option Addr} {co : List Int} {n a : Nat} {H : GHeap} (hin : f.In H p := by assumption) (hin' : k.In H q := by assumption) (hd : SlA H d n (fun i => .int .i64 (co.getD i 0))) (hP : f.Par k) (hn : n = f.ob.length) (ha : a < f.ar.length := by omega)
    (h1 : 0 ≤ co.getD (f.s.src.getD a 0).toNat 0 ∧ co.getD (f.s.src.getD a 0).toNat 0 < f.t.src.length) (h2 : 0 ≤ co.getD (f.s.tgt.getD a 0).toNat 0 ∧ co.getD (f.s.tgt.getD a 0).toNat 0 < f.t.src.length) :
    GCalls Try.prog 112 [.agg (f.cells p).toArray, .agg (k.cells q).toArray, .slice d n n, .int .i64 (a : Int)] H (Ret (.bool ((f.net k iso).sq a (co.getD (f.s.src.getD a 0).toNat 0) (co.getD (f.s.tgt.getD a 0).toNat 0))) H) := by
  refine GCalls.ret rfl ?_
  have hs := hP.fi.1.1
  have ht := hP.fi.2.1.1
  have hf := hP.fi.2.2
  have hf' := hP.gi.2.2
  have e1 := hf.al
  have e2 := hf'.al
  have e3 := hP.ps
  have e4 := hP.pt
  have e5 := hf.ol
  rw [← e3] at e2
  have q1 := hs.src a (by omega)
  have q2 := hs.tgt a (by have := hs.tl; omega)
  have q3 := hf.ar a (by omega)
  have q4 := hf'.ar a (by omega)
  rw [← e4] at q4
  have q7 := hs.tl
  have q8 := ht.cl
  have q9 := ht.row (f.ar.getD a 0).toNat (by omega)
  have q10 := ht.row (co.getD (f.s.src.getD a 0).toNat 0).toNat (by omega)
  have q11 := hs.n40
  refine GCalls.body (N := 54) (rs := [.tmp 8]) Try.func112 rfl rfl rfl rfl (fun Qx hret hend => ?_)
  refine .forget (fr' := [(0, some _), (1, some _), (2, some _), (3, some _)]) ⟨rfl, rfl, rfl, rfl, trivial⟩ ?_
  have hle := GHeap.Le.refl H
  have base_hin := hin
  have base_hin' := hin'
  have base_hd := hd
  refine .seq (fun K1 hK1 => ?_)
  refine .region ?_
  refine .r rfl rfl rfl (.boxR rfl sz_34_E rfl) ?_
  rintro _ H4 ⟨g4, rfl, le4, ge4, at4⟩
  have nx_H4 := le4.1
  replace hle := hle.trans le4
  have lt_at4 := GHeap.lt_of_get at4
  replace hin := base_hin.mono hle
  replace hin' := base_hin'.mono hle
  replace hd := base_hd.mono hle
  have hb4 : Fun.At _ g4 0 f p := ⟨Mem.of_get at4, hin⟩
  obtain ⟨fs4, ft4, c104, c114, j14, j24⟩ := hb4.get
  have hm4 : MemN _ _ _ _ _ := ⟨rfl, hb4.1⟩
  have hi4 := hb4.2
  have hms4 : MemN _ _ _ _ _ := ⟨rfl, fs4.1⟩
  have his4 := fs4.2
  have hmt4 : MemN _ _ _ _ _ := ⟨rfl, ft4.1⟩
  have hit4 := ft4.2
  refine .r rfl rfl rfl (.boxR rfl sz_34_E rfl) ?_
  rintro _ H5 ⟨g5, rfl, le5, ge5, at5⟩
  have nx_H5 := le5.1
  replace hle := hle.trans le5
  replace at4 := le5.2 _ _ at4
  have lt_at5 := GHeap.lt_of_get at5
  replace hin := base_hin.mono hle
  replace hin' := base_hin'.mono hle
  replace hd := base_hd.mono hle
  clear hb4 fs4 ft4 c104 c114 j14 j24 hm4 hi4 hms4 his4 hmt4 hit4
  have hb4 : Fun.At _ g4 0 f p := ⟨Mem.of_get at4, hin⟩
  obtain ⟨fs4, ft4, c104, c114, j14, j24⟩ := hb4.get
  have hm4 : MemN _ _ _ _ _ := ⟨rfl, hb4.1⟩
  have hi4 := hb4.2
  have hms4 : MemN _ _ _ _ _ := ⟨rfl, fs4.1⟩
  have his4 := fs4.2
  have hmt4 : MemN _ _ _ _ _ := ⟨rfl, ft4.1⟩
  have hit4 := ft4.2
  have hb5 : Fun.At _ g5 0 k q := ⟨Mem.of_get at5, hin'⟩
  obtain ⟨fs5, ft5, c105, c115, j15, j25⟩ := hb5.get
  have hm5 : MemN _ _ _ _ _ := ⟨rfl, hb5.1⟩
  have hi5 := hb5.2
  have hms5 : MemN _ _ _ _ _ := ⟨rfl, fs5.1⟩
  have his5 := fs5.2
  have hmt5 : MemN _ _ _ _ _ := ⟨rfl, ft5.1⟩
  have hit5 := ft5.2
  refine .m rfl rfl rfl (.assign rfl) (.nil ?_)
  refine hK1 _ _ ?_
  refine .seq (fun K2 hK2 => ?_)
  refine .regionD mixed_orders_B (.q 0 (.q 1 (.q 2 (.q 3 (.or (.c 4 1 (.c 5 1 (.c 6 1 (.c 7 0 .done)))) (.c 5 1 (.c 4 1 (.c 6 1 (.c 7 0 .done))))))))) (by kernel_rfl) ?_
  refine .m rfl rfl rfl rfl (.refl _) (.fieldAddr fo_34_0_E rfl) ?_
  refine .m rfl rfl rfl rfl (.refl _) (.loadM ag_32_D rfl (by assumption)) ?_
  refine .m rfl rfl rfl rfl (.refl _) (.fieldAddr fo_34_1_E rfl) ?_
  refine .m rfl rfl rfl rfl (.refl _) (.loadM ag_32_D rfl (by assumption)) ?_
  refine .two [(2, some _), (3, some _), (4, some _), (5, some _)] rfl rfl rfl rfl rfl rfl rfl rfl rfl rfl rfl rfl rfl rfl rfl rfl rfl rfl ze_32_E rfl sz_32_D rfl rfl rfl rfl rfl (by rfl) (by rfl) rfl rfl rfl rfl rfl ⟨rfl, rfl, rfl, rfl, trivial⟩ rfl rfl (.refl _) ?_
  intro g9 g10 H10 fr10 le10 ge9 ge10 at9 at10 hsub10
  have nx_H10 := le10.1
  replace hle := hle.trans le10
  replace at4 := le10.2 _ _ at4
  replace at5 := le10.2 _ _ at5
  have lt_at9 := GHeap.lt_of_get at9
  have lt_at10 := GHeap.lt_of_get at10
  replace hin := base_hin.mono hle
  replace hin' := base_hin'.mono hle
  replace hd := base_hd.mono hle
  clear hb4 fs4 ft4 c104 c114 j14 j24 hm4 hi4 hms4 his4 hmt4 hit4
  have hb4 : Fun.At _ g4 0 f p := ⟨Mem.of_get at4, hin⟩
  obtain ⟨fs4, ft4, c104, c114, j14, j24⟩ := hb4.get
  have hm4 : MemN _ _ _ _ _ := ⟨rfl, hb4.1⟩
  have hi4 := hb4.2
  have hms4 : MemN _ _ _ _ _ := ⟨rfl, fs4.1⟩
  have his4 := fs4.2
  have hmt4 : MemN _ _ _ _ _ := ⟨rfl, ft4.1⟩
  have hit4 := ft4.2
  clear hb5 fs5 ft5 c105 c115 j15 j25 hm5 hi5 hms5 his5 hmt5 hit5
  have hb5 : Fun.At _ g5 0 k q := ⟨Mem.of_get at5, hin'⟩
  obtain ⟨fs5, ft5, c105, c115, j15, j25⟩ := hb5.get
  have hm5 : MemN _ _ _ _ _ := ⟨rfl, hb5.1⟩
  have hi5 := hb5.2
  have hms5 : MemN _ _ _ _ _ := ⟨rfl, fs5.1⟩
  have his5 := fs5.2
  have hmt5 : MemN _ _ _ _ _ := ⟨rfl, ft5.1⟩
  have hit5 := ft5.2
  have hb9 : Cat.At _ g9 0 f.s p.s := ⟨Mem.of_get at9, hin.1⟩
  obtain ⟨c09, c19, c29, c39, c49, i19, i29, i39, i49⟩ := hb9.get
  have hm9 : MemN _ _ _ _ _ := ⟨rfl, hb9.1⟩
  have hi9 := hb9.2
  have hb10 : Cat.At _ g10 0 f.t p.t := ⟨Mem.of_get at10, hin.2.1⟩
  obtain ⟨c010, c110, c210, c310, c410, i110, i210, i310, i410⟩ := hb10.get
  have hm10 : MemN _ _ _ _ _ := ⟨rfl, hb10.1⟩
  have hi10 := hb10.2
  refine hK2 _ _ ?_
  refine .forget hsub10 ?_
  refine .seq (fun K3 hK3 => ?_)
  refine .regionD mixed_orders_B (.q 0 (.q 1 (.q 2 (.q 3 (.q 4 (.q 5 (.q 6 (.q 7 (.q 8 (.q 9 (.q 10 (.q 11 (.q 12 (.q 13 (.q 14 (.q 15 (.q 16 (.q 17 (.q 18 (.q 19 (.q 20 (.q 21 (.q 22 (.q 23 (.q 24 (.q 25 (.q 26 (.q 27 (.q 28 (.q 29 (.q 30 (.q 31 (.q 32 (.q 33 (.q 34 (.q 35 (.q 36 (.q 37 (.q 38 (.q 39 (.done))))))))))))))))))))))))))))))))))))))))) (by kernel_rfl) ?_
  have r1 := i410.2 (f.ar.getD a 0).toNat (by omega)
  have r2 := i410.2 (co.getD (f.s.src.getD a 0).toNat 0).toNat (by omega)
  refine .m rfl rfl rfl rfl (.refl _) (.fieldAddr fo_32_4_B rfl) ?_
  refine .m rfl rfl rfl rfl (.refl _) (.load on_23_B rfl (by first | assumption | exact Mem.of_get at10 4 _ rfl)) ?_
  refine .m rfl rfl rfl rfl (.refl _) (.fieldAddr fo_34_3_E rfl) ?_
  refine .m rfl rfl rfl rfl (.refl _) (.load on_22_B rfl (by first | assumption | exact Mem.of_get at4 11 _ rfl)) ?_
  refine .m rfl rfl rfl rfl (.refl _) (.move rfl) ?_
  refine .m rfl rfl rfl rfl (.refl _) (.idxN sl_22_A (by assumption) rfl rfl (by omega)) ?_
  refine .m rfl rfl rfl rfl (.refl _) (.loadI on_2_A (by assumption) rfl (by omega)) ?_
  refine .m rfl rfl rfl rfl (.refl _) (.idx1 sl_23_B (Intss.sl (by assumption)) rfl rfl (by omega) (by omega)) ?_
  refine .m rfl rfl rfl rfl (.refl _) (.loadR on_22_B (by assumption) rfl (by omega)) ?_
  refine .m rfl rfl rfl rfl (.refl _) (.move rfl) (.m rfl rfl rfl rfl (.refl _) (.fieldAddr fo_32_2_B rfl) ?_)
  refine .m rfl rfl rfl rfl (.refl _) (.load on_22_B rfl (by first | assumption | exact Mem.of_get at9 2 _ rfl)) ?_
  refine .m rfl rfl rfl rfl (.refl _) (.move rfl) ?_
  refine .m rfl rfl rfl rfl (.refl _) (.idxN sl_22_A (by assumption) rfl rfl (by omega)) ?_
  refine .m rfl rfl rfl rfl (.refl _) (.loadI on_2_A (by assumption) rfl (by omega)) ?_
  refine .m rfl rfl rfl rfl (.refl _) (.idx1 sl_22_A (by assumption) rfl rfl (by omega) (by omega)) ?_
  refine .m rfl rfl rfl rfl (.refl _) (.loadE on_2_A hd rfl (by omega)) ?_
  refine .m rfl rfl rfl rfl (.refl _) (.idx1 sl_22_A (by assumption) rfl rfl (by omega) (by omega)) ?_
  refine .m rfl rfl rfl rfl (.refl _) (.loadI on_2_A (by assumption) rfl (by omega)) ?_
  refine .m rfl rfl rfl rfl (.refl _) (.fieldAddr fo_32_4_B rfl) ?_
  refine .m rfl rfl rfl rfl (.refl _) (.load on_23_B rfl (by first | assumption | exact Mem.of_get at10 4 _ rfl)) ?_
  refine .m rfl rfl rfl rfl (.refl _) (.move rfl) (.m rfl rfl rfl rfl (.refl _) (.fieldAddr fo_32_1_B rfl) ?_)
  refine .m rfl rfl rfl rfl (.refl _) (.load on_22_B rfl (by first | assumption | exact Mem.of_get at9 1 _ rfl)) ?_
  refine .m rfl rfl rfl rfl (.refl _) (.move rfl) ?_
  refine .m rfl rfl rfl rfl (.refl _) (.idxN sl_22_A (by assumption) rfl rfl (by omega)) ?_
  refine .m rfl rfl rfl rfl (.refl _) (.loadI on_2_A (by assumption) rfl (by omega)) ?_
  refine .m rfl rfl rfl rfl (.refl _) (.idx1 sl_22_A (by assumption) rfl rfl (by omega) (by omega)) ?_
  refine .m rfl rfl rfl rfl (.refl _) (.loadE on_2_A hd rfl (by omega)) ?_
  refine .m rfl rfl rfl rfl (.refl _) (.idx1 sl_23_B (Intss.sl (by assumption)) rfl rfl (by omega) (by omega)) ?_
  refine .m rfl rfl rfl rfl (.refl _) (.loadR on_22_B (by assumption) rfl (by omega)) ?_
  refine .m rfl rfl rfl rfl (.refl _) (.fieldAddr fo_34_3_E rfl) ?_
  refine .m rfl rfl rfl rfl (.refl _) (.load on_22_B rfl (by first | assumption | exact Mem.of_get at5 11 _ rfl)) ?_
  refine .m rfl rfl rfl rfl (.refl _) (.move rfl) ?_
  refine .m rfl rfl rfl rfl (.refl _) (.idxN sl_22_A (by assumption) rfl rfl (by omega)) ?_
  refine .m rfl rfl rfl rfl (.refl _) (.loadI on_2_A (by assumption) rfl (by omega)) ?_
  refine .m rfl rfl rfl rfl (.refl _) (.idx1 sl_22_A (by assumption) rfl rfl (by omega) (by omega)) ?_
  refine .m rfl rfl rfl rfl (.refl _) (.loadI on_2_A (by assumption) rfl (by omega)) ?_
  refine .m rfl rfl rfl rfl (.refl _) (.cmp rfl rfl rfl) (.m rfl rfl rfl rfl (.refl _) (.assign rfl) ?_)
  refine .done ?_
  refine hK3 _ _ ?_
  refine .ret ?_
  refine hret _ _ ?_
  refine ⟨_, rfl, ?_⟩
  exact ⟨rfl, hle⟩
set_option maxHeartbeats 4000000 in
theorem l07Choices_c {gs : Nat} {f k : Fun} {p q : FunP} {iso : Bool} {most : Int} {af d : Option Addr} {nf x : Nat} {co : List Int} {H : GHeap} (hS : Mem H gs 0 (stCells f p k q iso most af nf)) (hin : f.In H p) (hin1 : k.In H q) (hd : Ints H d co) (hP : f.Par k) (hn : co.length = f.ob.length) (hx : x < f.ob.length)
    (hc : ∀ i, i < co.length → co.getD i 0 < f.t.src.length) :
    GCalls Try.prog 107 [.pointer (some ⟨gs, 0, none⟩), .slice d co.length co.length, .int .i64 (x : Int)] H (NewInts 2 H ((f.net k iso).choices co x)) := by
  have hs := hP.fi.1.1
  have ht := hP.fi.2.1.1
  have hf := hP.fi.2.2
  have hf' := hP.gi.2.2
  have e1 := hf.al
  have e2 := hf'.al
  have e3 := hP.ps
  have e4 := hP.pt
  have e5 := hf.ol
  have e6 := hf'.ol
  have hTS := hP.fi.2.1.1
  rw [← e3] at e2 e6
  have q7 := hs.tl
  have q8 := ht.n40
  have q9 := hs.obj
  have q11 := hs.n40
  have hl := Cat.hom_le f.t (f.ob.getD x 0) (k.ob.getD x 0)
  refine GCalls.body (N := 141) (rs := [.tmp 6]) Try.func107 rfl rfl rfl rfl (fun Qx hret hend => ?_)
  refine .forget (fr' := [(0, some _), (1, some _), (2, some _)]) ⟨rfl, rfl, rfl, trivial⟩ ?_
  have hle := GHeap.Le.refl H
  have base_hS := hS
  have base_hin := hin
  have base_hin1 := hin1
  have base_hd := hd
  have hF : Fun.At _ gs (0 + 0) f p := ⟨hS.left, hin⟩
  have hG : Fun.At _ gs (0 + 12) k q := ⟨(hS.right (n := 12) rfl).left, hin1⟩
  have kiso : GHeap.cell _ gs (0 + 24) = some (.bool iso) := ((hS.right (n := 12) rfl).right (n := 12) rfl) 0 _ rfl
  obtain ⟨fsf, ftf, c10f, c11f, j1f, j2f⟩ := hF.get
  have hmf : MemN _ _ _ _ _ := ⟨rfl, hF.1⟩
  have hif := hF.2
  have hmsf : MemN _ _ _ _ _ := ⟨rfl, fsf.1⟩
  have hisf := fsf.2
  have hmtf : MemN _ _ _ _ _ := ⟨rfl, ftf.1⟩
  have hitf := ftf.2
  obtain ⟨fsg, ftg, c10g, c11g, j1g, j2g⟩ := hG.get
  have hmg : MemN _ _ _ _ _ := ⟨rfl, hG.1⟩
  have hig := hG.2
  have hmsg : MemN _ _ _ _ _ := ⟨rfl, fsg.1⟩
  have hisg := fsg.2
  have hmtg : MemN _ _ _ _ _ := ⟨rfl, ftg.1⟩
  have hitg := ftg.2
  refine .seq (fun K1 hK1 => ?_)
  refine .region (.m rfl rfl rfl (.assign rfl) (.nil ?_))
  refine hK1 _ _ ?_
  refine .seq (fun K2 hK2 => ?_)
  refine .regionD mixed_orders_B (.q 0 (.q 1 (.q 2 (.q 3 (.q 4 (.q 5 (.q 6 (.q 7 (.q 8 (.q 9 (.or (.c 10 1 (.c 11 1 (.c 12 1 (.c 13 0 .done)))) (.c 11 1 (.c 10 1 (.c 12 1 (.c 13 0 .done))))))))))))))) (by kernel_rfl) ?_
  refine .m rfl rfl rfl rfl (.refl _) (.move rfl) (.m rfl rfl rfl rfl (.refl _) (.nilCheck rfl) (.m rfl rfl rfl rfl (.refl _) (.fieldAddr fo_122_0_Ha rfl) (.m rfl rfl rfl rfl (.refl _) (.fieldAddr fo_34_0_E rfl) ?_)))
  refine .m rfl rfl rfl rfl (.refl _) (.loadM ag_32_D rfl (by assumption)) ?_
  refine .m rfl rfl rfl rfl (.refl _) (.move rfl) (.m rfl rfl rfl rfl (.refl _) (.nilCheck rfl) (.m rfl rfl rfl rfl (.refl _) (.fieldAddr fo_122_0_Ha rfl) (.m rfl rfl rfl rfl (.refl _) (.fieldAddr fo_34_1_E rfl) ?_)))
  refine .m rfl rfl rfl rfl (.refl _) (.loadM ag_32_D rfl (by assumption)) ?_
  refine .two [(0, some _), (1, some _), (2, some _), (6, some _)] rfl rfl rfl rfl rfl rfl rfl rfl rfl rfl rfl rfl rfl rfl rfl rfl rfl rfl ze_32_E rfl sz_32_D rfl rfl rfl rfl rfl (by rfl) (by rfl) rfl rfl rfl rfl rfl ⟨rfl, rfl, rfl, rfl, trivial⟩ rfl rfl (.refl _) ?_
  intro g7 g8 H8 fr8 le8 ge7 ge8 at7 at8 hsub8
  have nx_H8 := le8.1
  replace hle := hle.trans le8
  have lt_at7 := GHeap.lt_of_get at7
  have lt_at8 := GHeap.lt_of_get at8
  replace hS := base_hS.mono hle
  replace hin := base_hin.mono hle
  replace hin1 := base_hin1.mono hle
  replace hd := base_hd.mono hle
  clear hF hG kiso fsf ftf c10f c11f j1f j2f hmf hif hmsf hisf hmtf hitf fsg ftg c10g c11g j1g j2g hmg hig hmsg hisg hmtg hitg
  have hF : Fun.At _ gs (0 + 0) f p := ⟨hS.left, hin⟩
  have hG : Fun.At _ gs (0 + 12) k q := ⟨(hS.right (n := 12) rfl).left, hin1⟩
  have kiso : GHeap.cell _ gs (0 + 24) = some (.bool iso) := ((hS.right (n := 12) rfl).right (n := 12) rfl) 0 _ rfl
  obtain ⟨fsf, ftf, c10f, c11f, j1f, j2f⟩ := hF.get
  have hmf : MemN _ _ _ _ _ := ⟨rfl, hF.1⟩
  have hif := hF.2
  have hmsf : MemN _ _ _ _ _ := ⟨rfl, fsf.1⟩
  have hisf := fsf.2
  have hmtf : MemN _ _ _ _ _ := ⟨rfl, ftf.1⟩
  have hitf := ftf.2
  obtain ⟨fsg, ftg, c10g, c11g, j1g, j2g⟩ := hG.get
  have hmg : MemN _ _ _ _ _ := ⟨rfl, hG.1⟩
  have hig := hG.2
  have hmsg : MemN _ _ _ _ _ := ⟨rfl, fsg.1⟩
  have hisg := fsg.2
  have hmtg : MemN _ _ _ _ _ := ⟨rfl, ftg.1⟩
  have hitg := ftg.2
  have hb7 : Cat.At _ g7 0 f.s p.s := ⟨Mem.of_get at7, hin.1⟩
  obtain ⟨c07, c17, c27, c37, c47, i17, i27, i37, i47⟩ := hb7.get
  have hm7 : MemN _ _ _ _ _ := ⟨rfl, hb7.1⟩
  have hi7 := hb7.2
  have hb8 : Cat.At _ g8 0 f.t p.t := ⟨Mem.of_get at8, hin.2.1⟩
  obtain ⟨c08, c18, c28, c38, c48, i18, i28, i38, i48⟩ := hb8.get
  have hm8 : MemN _ _ _ _ _ := ⟨rfl, hb8.1⟩
  have hi8 := hb8.2
  refine hK2 _ _ ?_
  refine .forget hsub8 ?_
  refine .seq (fun K3 hK3 => ?_)
  refine .regionD mixed_orders_B (.q 0 (.q 1 (.q 2 (.q 3 (.q 4 (.q 5 (.q 6 (.q 7 (.q 8 (.q 9 (.q 10 (.q 11 (.q 12 (.q 13 (.q 14 (.q 15 (.q 16 (.c 17 0 (.q 18 (.done)))))))))))))))))))) (by kernel_rfl) ?_
  refine .m rfl rfl rfl rfl (.refl _) (.loadM ag_32_D rfl ⟨rfl, Mem.of_get at8⟩) ?_
  refine .m rfl rfl rfl rfl (.refl _) (.move rfl) (.m rfl rfl rfl rfl (.refl _) (.nilCheck rfl) (.m rfl rfl rfl rfl (.refl _) (.fieldAddr fo_122_0_Ha rfl) (.m rfl rfl rfl rfl (.refl _) (.fieldAddr fo_34_2_E rfl) ?_)))
  refine .m rfl rfl rfl rfl (.refl _) (.load on_22_B rfl (by assumption)) ?_
  refine .m rfl rfl rfl rfl (.refl _) (.move rfl) ?_
  refine .m rfl rfl rfl rfl (.refl _) (.idxN sl_22_A (by assumption) rfl rfl (by omega)) ?_
  refine .m rfl rfl rfl rfl (.refl _) (.loadI on_2_A (by assumption) rfl (by omega)) ?_
  refine .m rfl rfl rfl rfl (.refl _) (.move rfl) (.m rfl rfl rfl rfl (.refl _) (.nilCheck rfl) (.m rfl rfl rfl rfl (.refl _) (.fieldAddr fo_122_1_Ha rfl) (.m rfl rfl rfl rfl (.refl _) (.fieldAddr fo_34_2_E rfl) ?_)))
  refine .m rfl rfl rfl rfl (.refl _) (.load on_22_B rfl (by assumption)) ?_
  refine .m rfl rfl rfl rfl (.refl _) (.move rfl) ?_
  refine .m rfl rfl rfl rfl (.refl _) (.idxN sl_22_A (by assumption) rfl rfl (by omega)) ?_
  refine .m rfl rfl rfl rfl (.refl _) (.loadI on_2_A (by assumption) rfl (by omega)) ?_
  refine .call0 rfl rfl rfl rfl rfl @Try.call79 rfl (l02Hom_c) ?_
  rintro _ H44 ⟨le44, g44, rfl, at44, ge44⟩
  have nx_H44 := le44.1
  replace hle := hle.trans le44
  replace at7 := le44.2 _ _ at7
  replace at8 := le44.2 _ _ at8
  have lt_at44 := GHeap.lt_of_get at44
  replace hS := base_hS.mono hle
  replace hin := base_hin.mono hle
  replace hin1 := base_hin1.mono hle
  replace hd := base_hd.mono hle
  clear hF hG kiso fsf ftf c10f c11f j1f j2f hmf hif hmsf hisf hmtf hitf fsg ftg c10g c11g j1g j2g hmg hig hmsg hisg hmtg hitg
  have hF : Fun.At _ gs (0 + 0) f p := ⟨hS.left, hin⟩
  have hG : Fun.At _ gs (0 + 12) k q := ⟨(hS.right (n := 12) rfl).left, hin1⟩
  have kiso : GHeap.cell _ gs (0 + 24) = some (.bool iso) := ((hS.right (n := 12) rfl).right (n := 12) rfl) 0 _ rfl
  obtain ⟨fsf, ftf, c10f, c11f, j1f, j2f⟩ := hF.get
  have hmf : MemN _ _ _ _ _ := ⟨rfl, hF.1⟩
  have hif := hF.2
  have hmsf : MemN _ _ _ _ _ := ⟨rfl, fsf.1⟩
  have hisf := fsf.2
  have hmtf : MemN _ _ _ _ _ := ⟨rfl, ftf.1⟩
  have hitf := ftf.2
  obtain ⟨fsg, ftg, c10g, c11g, j1g, j2g⟩ := hG.get
  have hmg : MemN _ _ _ _ _ := ⟨rfl, hG.1⟩
  have hig := hG.2
  have hmsg : MemN _ _ _ _ _ := ⟨rfl, fsg.1⟩
  have hisg := fsg.2
  have hmtg : MemN _ _ _ _ _ := ⟨rfl, ftg.1⟩
  have hitg := ftg.2
  clear hb7 c07 c17 c27 c37 c47 i17 i27 i37 i47 hm7 hi7
  have hb7 : Cat.At _ g7 0 f.s p.s := ⟨Mem.of_get at7, hin.1⟩
  obtain ⟨c07, c17, c27, c37, c47, i17, i27, i37, i47⟩ := hb7.get
  have hm7 : MemN _ _ _ _ _ := ⟨rfl, hb7.1⟩
  have hi7 := hb7.2
  clear hb8 c08 c18 c28 c38 c48 i18 i28 i38 i48 hm8 hi8
  have hb8 : Cat.At _ g8 0 f.t p.t := ⟨Mem.of_get at8, hin.2.1⟩
  obtain ⟨c08, c18, c28, c38, c48, i18, i28, i38, i48⟩ := hb8.get
  have hm8 : MemN _ _ _ _ _ := ⟨rfl, hb8.1⟩
  have hi8 := hb8.2
  have i44 := Ints.of_get at44
  refine .m rfl rfl rfl rfl (.refl _) (.assign rfl) ?_
  refine .done ?_
  refine hK3 _ _ ?_
  refine .seq (fun K4 hK4 => ?_)
  refine .region ?_
  refine .r rfl rfl rfl (.litR rfl sl_22_A ze_2_E rfl rfl (by omega) (by omega) rfl rfl) ?_
  rintro _ H45 ⟨g45, rfl, le45, ge45, at45⟩
  have nx_H45 := le45.1
  replace hle := hle.trans le45
  replace at7 := le45.2 _ _ at7
  replace at8 := le45.2 _ _ at8
  replace at44 := le45.2 _ _ at44
  have lt_at45 := GHeap.lt_of_get at45
  replace hS := base_hS.mono hle
  replace hin := base_hin.mono hle
  replace hin1 := base_hin1.mono hle
  replace hd := base_hd.mono hle
  clear hF hG kiso fsf ftf c10f c11f j1f j2f hmf hif hmsf hisf hmtf hitf fsg ftg c10g c11g j1g j2g hmg hig hmsg hisg hmtg hitg
  have hF : Fun.At _ gs (0 + 0) f p := ⟨hS.left, hin⟩
  have hG : Fun.At _ gs (0 + 12) k q := ⟨(hS.right (n := 12) rfl).left, hin1⟩
  have kiso : GHeap.cell _ gs (0 + 24) = some (.bool iso) := ((hS.right (n := 12) rfl).right (n := 12) rfl) 0 _ rfl
  obtain ⟨fsf, ftf, c10f, c11f, j1f, j2f⟩ := hF.get
  have hmf : MemN _ _ _ _ _ := ⟨rfl, hF.1⟩
  have hif := hF.2
  have hmsf : MemN _ _ _ _ _ := ⟨rfl, fsf.1⟩
  have hisf := fsf.2
  have hmtf : MemN _ _ _ _ _ := ⟨rfl, ftf.1⟩
  have hitf := ftf.2
  obtain ⟨fsg, ftg, c10g, c11g, j1g, j2g⟩ := hG.get
  have hmg : MemN _ _ _ _ _ := ⟨rfl, hG.1⟩
  have hig := hG.2
  have hmsg : MemN _ _ _ _ _ := ⟨rfl, fsg.1⟩
  have hisg := fsg.2
  have hmtg : MemN _ _ _ _ _ := ⟨rfl, ftg.1⟩
  have hitg := ftg.2
  clear hb7 c07 c17 c27 c37 c47 i17 i27 i37 i47 hm7 hi7
  have hb7 : Cat.At _ g7 0 f.s p.s := ⟨Mem.of_get at7, hin.1⟩
  obtain ⟨c07, c17, c27, c37, c47, i17, i27, i37, i47⟩ := hb7.get
  have hm7 : MemN _ _ _ _ _ := ⟨rfl, hb7.1⟩
  have hi7 := hb7.2
  clear hb8 c08 c18 c28 c38 c48 i18 i28 i38 i48 hm8 hi8
  have hb8 : Cat.At _ g8 0 f.t p.t := ⟨Mem.of_get at8, hin.2.1⟩
  obtain ⟨c08, c18, c28, c38, c48, i18, i28, i38, i48⟩ := hb8.get
  have hm8 : MemN _ _ _ _ _ := ⟨rfl, hb8.1⟩
  have hi8 := hb8.2
  clear i44
  have i44 := Ints.of_get at44
  replace at45 : GHeap.get H45 g45 = some (.row (ints []) 2 true) := at45
  refine .m rfl rfl rfl (.assign rfl) (.nil ?_)
  refine hK4 _ _ ?_
  refine .seq (fun K5 hK5 => ?_)
  refine .seq (fun K6 hK6 => ?_)
  refine .region (.m rfl rfl rfl (.assign rfl) (.nil ?_))
  refine hK6 _ _ ?_
  refine .block ?_
  refine .loopR (σ := Nat × Nat × Nat) [(0, some _), (1, some _), (2, some _), (7, some _), (8, some _), (9, some _)] (fun (j, gL10, nL10) => [(11, some (.int .i64 (j : Int))), (10, some (.slice (some ⟨gL10, 0, none⟩) nL10 nL10))]) (fun (j, gL10, nL10) H' => St [g45] H45 H' ∧ H'.get gL10 = some (.row (ints (((f.t.hom (f.ob.getD x 0) (k.ob.getD x 0)).take j).filter (f.chB k iso co x))) 2 true) ∧ (gL10 = g45 ∨ H45.next ≤ gL10) ∧ nL10 = (((f.t.hom (f.ob.getD x 0) (k.ob.getD x 0)).take j).filter (f.chB k iso co x)).length ∧ j ≤ (f.t.hom (f.ob.getD x 0) (k.ob.getD x 0)).length) (fun (j, gL10, nL10) => (f.t.hom (f.ob.getD x 0) (k.ob.getD x 0)).length - j) ((0, _, _)) ⟨rfl, rfl, rfl, rfl, rfl, rfl, trivial⟩ ⟨rfl, rfl, trivial⟩ ?_ ?_
  ·
   refine ⟨.refl _ _, by first | assumption | exact at45 | simpa using at45, .inl rfl, by first | rfl | assumption | simp | omega, ?_⟩
   omega
  rintro ⟨j, gL10, nL10⟩ HL1 ⟨lst1, at_L10, pl_L10, ln_L10, hI⟩ KL1 hKL1
  refine .forget (fr' := [(11, some (.int .i64 (j : Int))), (10, some (.slice (some ⟨gL10, 0, none⟩) nL10 nL10)), (0, some _), (1, some _), (2, some _), (7, some _), (8, some _), (9, some _)]) ⟨rfl, rfl, rfl, rfl, rfl, rfl, rfl, rfl, trivial⟩ ?_
  have ge_L10 : H.next ≤ gL10 := by omega
  have nx_HL1 := lst1.nx
  replace hle := hle.st lst1 (fun k hk => ⟨by omega, trivial⟩)
  replace at7 := lst1.same _ _ ⟨by omega, trivial⟩ at7
  replace at8 := lst1.same _ _ ⟨by omega, trivial⟩ at8
  replace at44 := lst1.same _ _ ⟨by omega, trivial⟩ at44
  have lt_at_L10 := GHeap.lt_of_get at_L10
  replace hS := base_hS.mono hle
  replace hin := base_hin.mono hle
  replace hin1 := base_hin1.mono hle
  replace hd := base_hd.mono hle
  clear hF hG kiso fsf ftf c10f c11f j1f j2f hmf hif hmsf hisf hmtf hitf fsg ftg c10g c11g j1g j2g hmg hig hmsg hisg hmtg hitg
  have hF : Fun.At _ gs (0 + 0) f p := ⟨hS.left, hin⟩
  have hG : Fun.At _ gs (0 + 12) k q := ⟨(hS.right (n := 12) rfl).left, hin1⟩
  have kiso : GHeap.cell _ gs (0 + 24) = some (.bool iso) := ((hS.right (n := 12) rfl).right (n := 12) rfl) 0 _ rfl
  obtain ⟨fsf, ftf, c10f, c11f, j1f, j2f⟩ := hF.get
  have hmf : MemN _ _ _ _ _ := ⟨rfl, hF.1⟩
  have hif := hF.2
  have hmsf : MemN _ _ _ _ _ := ⟨rfl, fsf.1⟩
  have hisf := fsf.2
  have hmtf : MemN _ _ _ _ _ := ⟨rfl, ftf.1⟩
  have hitf := ftf.2
  obtain ⟨fsg, ftg, c10g, c11g, j1g, j2g⟩ := hG.get
  have hmg : MemN _ _ _ _ _ := ⟨rfl, hG.1⟩
  have hig := hG.2
  have hmsg : MemN _ _ _ _ _ := ⟨rfl, fsg.1⟩
  have hisg := fsg.2
  have hmtg : MemN _ _ _ _ _ := ⟨rfl, ftg.1⟩
  have hitg := ftg.2
  clear hb7 c07 c17 c27 c37 c47 i17 i27 i37 i47 hm7 hi7
  have hb7 : Cat.At _ g7 0 f.s p.s := ⟨Mem.of_get at7, hin.1⟩
  obtain ⟨c07, c17, c27, c37, c47, i17, i27, i37, i47⟩ := hb7.get
  have hm7 : MemN _ _ _ _ _ := ⟨rfl, hb7.1⟩
  have hi7 := hb7.2
  clear hb8 c08 c18 c28 c38 c48 i18 i28 i38 i48 hm8 hi8
  have hb8 : Cat.At _ g8 0 f.t p.t := ⟨Mem.of_get at8, hin.2.1⟩
  obtain ⟨c08, c18, c28, c38, c48, i18, i28, i38, i48⟩ := hb8.get
  have hm8 : MemN _ _ _ _ _ := ⟨rfl, hb8.1⟩
  have hi8 := hb8.2
  clear i44
  have i44 := Ints.of_get at44
  have hfl := filtTake_le (xs := f.t.hom (f.ob.getD x 0) (k.ob.getD x 0)) (P := f.chB k iso co x) (i := j)
  refine .seq (fun K7 hK7 => ?_)
  refine .seq (fun K8 hK8 => ?_)
  refine .region (.m rfl rfl rfl (.move rfl) (.m rfl rfl rfl (.move rfl) (.m rfl rfl rfl (.len sl_22_A rfl) ?_)))
  refine .m rfl rfl rfl (.cmp rfl rfl rfl) (.nil ?_)
  refine hK8 _ _ ?_
  refine .cond rfl (fun h49 => ?_) (fun h49 => ?_)
  ·
   simp only [sps] at h49
   obtain ⟨b, b1, b2, b3, b4⟩ := Cat.hom_get (c := f.t) (x := f.ob.getD x 0) (y := k.ob.getD x 0) (i := j) (by omega)
   refine .skip ?_
   refine hK7 _ _ ?_
   refine .seq (fun K9 hK9 => ?_)
   refine .block ?_
   refine .seq (fun K10 hK10 => ?_)
   refine .seq (fun K11 hK11 => ?_)
   refine .regionD mixed_orders_B (.q 0 (.q 1 (.q 2 (.q 3 (.q 4 (.q 5 (.q 6 (.q 7 (.q 8 (.q 9 (.c 10 0 (.q 11 (.q 12 (.done)))))))))))))) (by kernel_rfl) ?_
   refine .cut [(0, some _), (1, some _), (2, some _), (7, some _), (8, some _), (9, some _), (10, some _), (11, some _), (46, some _), (47, some _), (48, some _), (49, some _)] ⟨rfl, rfl, rfl, rfl, rfl, rfl, rfl, rfl, rfl, rfl, rfl, rfl, trivial⟩ (fun rest fr' H' => ∃ b : Bool, Sub ((64, some (.bool b)) :: rest) fr' ∧ HL1 = H' ∧ (b = true → f.chB k iso co x ((f.t.hom (f.ob.getD x 0) (k.ob.getD x 0)).getD j 0) = false) ∧ (b = false → f.chB k iso co x ((f.t.hom (f.ob.getD x 0) (k.ob.getD x 0)).getD j 0) = (f.net k iso).fits (co.set x ((f.t.hom (f.ob.getD x 0) (k.ob.getD x 0)).getD j 0)) x)) ?_ ?_
   ·
    refine .m rfl rfl rfl rfl (.refl _) (.move rfl) (.m rfl rfl rfl rfl (.refl _) (.nilCheck rfl) (.m rfl rfl rfl rfl (.refl _) (.fieldAddr fo_122_2_Ha rfl) ?_))
    refine .m rfl rfl rfl rfl (.refl _) (.load on_4_Ha rfl (by assumption)) ?_
    refine .m rfl rfl rfl rfl (.refl _) (.move rfl) ?_
    refine .split (fun h56 => ?_) (fun h56 => ?_)
    ·
     refine .mg rfl rfl rfl rfl rfl rfl (.refl _) (.loadM ag_32_D rfl ⟨rfl, Mem.of_get at8⟩) ?_
     refine .mg rfl rfl rfl rfl rfl rfl (.refl _) (.move rfl) (.mg rfl rfl rfl rfl rfl rfl (.refl _) (.move rfl) ?_)
     refine .mg rfl rfl rfl rfl rfl rfl (.refl _) (.idxN sl_22_A (by first | assumption | exact SlA.of_row at44 (by first | rfl | (simp; done) | (simp <;> omega))) rfl rfl (by omega)) ?_
     refine .mg rfl rfl rfl rfl rfl rfl (.refl _) (.loadI on_2_A (by first | assumption | exact Ints.of_get at44) rfl (by omega)) ?_
     refine .callQ0g rfl rfl rfl rfl rfl rfl rfl @Try.call111 rfl (l05Inverse_c) ?_
     refine .mg rfl rfl rfl rfl rfl rfl (.refl _) (.cmp rfl rfl rfl) (.m rfl rfl rfl rfl (.refl _) (.pickT rfl rfl) ?_)
     refine .done ?_
     refine ⟨_, ⟨rfl, rfl, rfl, rfl, rfl, rfl, rfl, rfl, rfl, rfl, rfl, rfl, rfl, trivial⟩, rfl, ?_⟩
     first
     | exact ⟨fun hb => Fun.ch_no h56 (by simpa using hb), fun hb => Fun.ch_go (.inr (by simpa using hb))⟩
     | exact ⟨fun hb => (by cases hb), fun _ => Fun.ch_go (.inl (by simpa using h56))⟩
    refine .sg rfl rfl rfl rfl rfl rfl (.sg rfl rfl rfl rfl rfl rfl (.sg rfl rfl rfl rfl rfl rfl (.sg rfl rfl rfl rfl rfl rfl ?_)))
    refine .sg rfl rfl rfl rfl rfl rfl (.sgc rfl rfl rfl rfl rfl rfl (.sg rfl rfl rfl rfl rfl rfl (.m rfl rfl rfl rfl (.refl _) (.pickF rfl rfl) ?_)))
    refine .done ?_
    refine ⟨_, ⟨rfl, rfl, rfl, rfl, rfl, rfl, rfl, rfl, rfl, rfl, rfl, rfl, rfl, trivial⟩, rfl, ?_⟩
    first
    | exact ⟨fun hb => Fun.ch_no h56 (by simpa using hb), fun hb => Fun.ch_go (.inr (by simpa using hb))⟩
    | exact ⟨fun hb => (by cases hb), fun _ => Fun.ch_go (.inl (by simpa using h56))⟩
   rintro frJ7 _ ⟨b, hsubJ7, rfl, hJ7⟩
   refine hK11 _ _ ?_
   refine .forget hsubJ7 ?_
   refine .cond rfl (fun h64 => ?_) (fun h64 => ?_)
   ·
    have hP1 := hJ7.1 h64
    refine .exit ?_
    refine hK9 _ _ ?_
    refine .region (.m rfl rfl rfl (.move rfl) ?_)
    refine .m rfl rfl rfl (.add rfl rfl rfl (by omega) (by omega)) ?_
    refine .m rfl rfl rfl (.assign rfl) (.nil ?_)
    refine hKL1 ((j + 1, _, _)) _ _ ?_ ?_ ⟨rfl, rfl, rfl, rfl, rfl, rfl, rfl, rfl, trivial⟩
    ·
     refine ⟨lst1, by first | assumption | (rw [filtTake_T (by omega) hP1]; assumption) | (rw [filtTake_F (by omega) hP1]; assumption), by omega, by first | omega | (simp only [List.length_append, List.length_cons, List.length_nil] <;> omega) | (rw [filtTake_T (by omega) hP1] <;> (first | omega | (simp only [List.length_append, List.length_cons, List.length_nil] <;> omega))) | (rw [filtTake_F (by omega) hP1] <;> (first | omega | (simp only [List.length_append, List.length_cons, List.length_nil] <;> omega))), ?_⟩
     omega
    (dsimp only; omega)
   have hgo := hJ7.2 h64
   refine .skip ?_
   refine hK10 _ _ ?_
   refine .seq (fun K12 hK12 => ?_)
   refine .region ?_
   have hls : (co.set x ((f.t.hom (f.ob.getD x 0) (k.ob.getD x 0)).getD j 0)).length = co.length := List.length_set
   have hcs : ∀ i, i < co.length → (co.set x ((f.t.hom (f.ob.getD x 0) (k.ob.getD x 0)).getD j 0)).getD i 0 < f.t.src.length := fun i hi => by
     rw [getD_set (by omega)]
     split
     · omega
     · exact hc i hi
   refine .m rfl rfl rfl (.move rfl) ?_
   refine .call rfl rfl rfl rfl @Try.call108 rfl (l01Own_c) ?_
   rintro _ H66 ⟨le66, g66, rfl, at66, ge66⟩
   have nx_H66 := le66.1
   replace hle := hle.trans le66
   replace lst1 := lst1.le le66
   replace at7 := le66.2 _ _ at7
   replace at8 := le66.2 _ _ at8
   replace at44 := le66.2 _ _ at44
   replace at_L10 := le66.2 _ _ at_L10
   have lt_at66 := GHeap.lt_of_get at66
   replace hS := base_hS.mono hle
   replace hin := base_hin.mono hle
   replace hin1 := base_hin1.mono hle
   replace hd := base_hd.mono hle
   clear hF hG kiso fsf ftf c10f c11f j1f j2f hmf hif hmsf hisf hmtf hitf fsg ftg c10g c11g j1g j2g hmg hig hmsg hisg hmtg hitg
   have hF : Fun.At _ gs (0 + 0) f p := ⟨hS.left, hin⟩
   have hG : Fun.At _ gs (0 + 12) k q := ⟨(hS.right (n := 12) rfl).left, hin1⟩
   have kiso : GHeap.cell _ gs (0 + 24) = some (.bool iso) := ((hS.right (n := 12) rfl).right (n := 12) rfl) 0 _ rfl
   obtain ⟨fsf, ftf, c10f, c11f, j1f, j2f⟩ := hF.get
   have hmf : MemN _ _ _ _ _ := ⟨rfl, hF.1⟩
   have hif := hF.2
   have hmsf : MemN _ _ _ _ _ := ⟨rfl, fsf.1⟩
   have hisf := fsf.2
   have hmtf : MemN _ _ _ _ _ := ⟨rfl, ftf.1⟩
   have hitf := ftf.2
   obtain ⟨fsg, ftg, c10g, c11g, j1g, j2g⟩ := hG.get
   have hmg : MemN _ _ _ _ _ := ⟨rfl, hG.1⟩
   have hig := hG.2
   have hmsg : MemN _ _ _ _ _ := ⟨rfl, fsg.1⟩
   have hisg := fsg.2
   have hmtg : MemN _ _ _ _ _ := ⟨rfl, ftg.1⟩
   have hitg := ftg.2
   clear hb7 c07 c17 c27 c37 c47 i17 i27 i37 i47 hm7 hi7
   have hb7 : Cat.At _ g7 0 f.s p.s := ⟨Mem.of_get at7, hin.1⟩
   obtain ⟨c07, c17, c27, c37, c47, i17, i27, i37, i47⟩ := hb7.get
   have hm7 : MemN _ _ _ _ _ := ⟨rfl, hb7.1⟩
   have hi7 := hb7.2
   clear hb8 c08 c18 c28 c38 c48 i18 i28 i38 i48 hm8 hi8
   have hb8 : Cat.At _ g8 0 f.t p.t := ⟨Mem.of_get at8, hin.2.1⟩
   obtain ⟨c08, c18, c28, c38, c48, i18, i28, i38, i48⟩ := hb8.get
   have hm8 : MemN _ _ _ _ _ := ⟨rfl, hb8.1⟩
   have hi8 := hb8.2
   clear i44
   have i44 := Ints.of_get at44
   have i66 := Ints.of_get at66
   refine .m rfl rfl rfl (.assign rfl) (.nil ?_)
   refine hK12 _ _ ?_
   refine .seq (fun K13 hK13 => ?_)
   refine .region (.m rfl rfl rfl (.move rfl) (.m rfl rfl rfl (.move rfl) (.m rfl rfl rfl (.move rfl) ?_)))
   refine .m rfl rfl rfl (.move rfl) ?_
   refine .m rfl rfl rfl (.idxN sl_22_A (by first | assumption | exact SlA.of_row at44 (by first | rfl | (simp; done) | (simp <;> omega))) rfl rfl (by omega)) ?_
   refine .m rfl rfl rfl (.loadI on_2_A (by first | assumption | exact Ints.of_get at44) rfl (by omega)) ?_
   refine .m rfl rfl rfl (.idxN sl_22_A (by first | assumption | exact SlA.of_row at66 (by first | rfl | (simp; done) | (simp <;> omega))) rfl rfl (by omega)) ?_
   refine .r0 rfl rfl (.storeI rfl sz_2_E rfl rfl (by assumption) (by first | omega | (simp <;> omega))) ?_
   rintro _ H9007 ⟨rfl, st9007, at9007⟩
   have nx_H9007 := st9007.nx
   replace hle := hle.st st9007 (fun k hk => ⟨by omega, trivial⟩)
   replace lst1 := lst1.st st9007 (fun k hk ho => by simp only [out, and_true] at ho ⊢ <;> omega)
   replace at7 := st9007.same _ _ ⟨by omega, trivial⟩ at7
   replace at8 := st9007.same _ _ ⟨by omega, trivial⟩ at8
   replace at44 := st9007.same _ _ ⟨by omega, trivial⟩ at44
   replace at_L10 := st9007.same _ _ ⟨by omega, trivial⟩ at_L10
   have lt_at9007 := GHeap.lt_of_get at9007
   replace hS := base_hS.mono hle
   replace hin := base_hin.mono hle
   replace hin1 := base_hin1.mono hle
   replace hd := base_hd.mono hle
   clear hF hG kiso fsf ftf c10f c11f j1f j2f hmf hif hmsf hisf hmtf hitf fsg ftg c10g c11g j1g j2g hmg hig hmsg hisg hmtg hitg
   have hF : Fun.At _ gs (0 + 0) f p := ⟨hS.left, hin⟩
   have hG : Fun.At _ gs (0 + 12) k q := ⟨(hS.right (n := 12) rfl).left, hin1⟩
   have kiso : GHeap.cell _ gs (0 + 24) = some (.bool iso) := ((hS.right (n := 12) rfl).right (n := 12) rfl) 0 _ rfl
   obtain ⟨fsf, ftf, c10f, c11f, j1f, j2f⟩ := hF.get
   have hmf : MemN _ _ _ _ _ := ⟨rfl, hF.1⟩
   have hif := hF.2
   have hmsf : MemN _ _ _ _ _ := ⟨rfl, fsf.1⟩
   have hisf := fsf.2
   have hmtf : MemN _ _ _ _ _ := ⟨rfl, ftf.1⟩
   have hitf := ftf.2
   obtain ⟨fsg, ftg, c10g, c11g, j1g, j2g⟩ := hG.get
   have hmg : MemN _ _ _ _ _ := ⟨rfl, hG.1⟩
   have hig := hG.2
   have hmsg : MemN _ _ _ _ _ := ⟨rfl, fsg.1⟩
   have hisg := fsg.2
   have hmtg : MemN _ _ _ _ _ := ⟨rfl, ftg.1⟩
   have hitg := ftg.2
   clear hb7 c07 c17 c27 c37 c47 i17 i27 i37 i47 hm7 hi7
   have hb7 : Cat.At _ g7 0 f.s p.s := ⟨Mem.of_get at7, hin.1⟩
   obtain ⟨c07, c17, c27, c37, c47, i17, i27, i37, i47⟩ := hb7.get
   have hm7 : MemN _ _ _ _ _ := ⟨rfl, hb7.1⟩
   have hi7 := hb7.2
   clear hb8 c08 c18 c28 c38 c48 i18 i28 i38 i48 hm8 hi8
   have hb8 : Cat.At _ g8 0 f.t p.t := ⟨Mem.of_get at8, hin.2.1⟩
   obtain ⟨c08, c18, c28, c38, c48, i18, i28, i38, i48⟩ := hb8.get
   have hm8 : MemN _ _ _ _ _ := ⟨rfl, hb8.1⟩
   have hi8 := hb8.2
   clear i44
   have i44 := Ints.of_get at44
   clear i66
   have i66 := Ints.of_get at66
   rw [Nat.zero_add] at at9007
   refine .nil ?_
   refine hK13 _ _ ?_
   refine .seq (fun K14 hK14 => ?_)
   refine .region (.m rfl rfl rfl (.assign rfl) (.nil ?_))
   refine hK14 _ _ ?_
   refine .seq (fun K15 hK15 => ?_)
   refine .seq (fun K16 hK16 => ?_)
   refine .region (.m rfl rfl rfl (.assign rfl) (.nil ?_))
   refine hK16 _ _ ?_
   refine .block ?_
   refine .loopR (σ := Nat × Bool) [(0, some _), (1, some _), (2, some _), (7, some _), (8, some _), (9, some _), (10, some _), (11, some _), (12, some _)] (fun (a, b) => [(14, some (.int .i64 (a : Int))), (13, some (.bool b))]) (fun (a, b) H' => H9007 = H' ∧ a ≤ f.ar.length ∧ b = allN a ((f.net k iso).fitAt (co.set x ((f.t.hom (f.ob.getD x 0) (k.ob.getD x 0)).getD j 0)) x)) (fun (a, b) => f.ar.length - a) ((0, true)) ⟨rfl, rfl, rfl, rfl, rfl, rfl, rfl, rfl, rfl, trivial⟩ ⟨rfl, rfl, trivial⟩ ?_ ?_
   ·
    refine ⟨rfl, ?_⟩
    exact ⟨by omega, rfl⟩
   rintro ⟨a, b⟩ _ ⟨rfl, hI⟩ KL2 hKL2
   refine .forget (fr' := [(14, some (.int .i64 (a : Int))), (13, some (.bool b)), (0, some _), (1, some _), (2, some _), (7, some _), (8, some _), (9, some _), (10, some _), (11, some _), (12, some _)]) ⟨rfl, rfl, rfl, rfl, rfl, rfl, rfl, rfl, rfl, rfl, rfl, trivial⟩ ?_
   obtain ⟨ha, hb⟩ := hI
   refine .seq (fun K17 hK17 => ?_)
   refine .seq (fun K18 hK18 => ?_)
   refine .region (.m rfl rfl rfl (.move rfl) (.m rfl rfl rfl (.move rfl) ?_))
   refine .split (fun h75 => ?_) (fun h75 => ?_)
   ·
    refine .mg rfl rfl rfl rfl rfl (.move rfl) (.mg rfl rfl rfl rfl rfl (.move rfl) (.mg rfl rfl rfl rfl rfl (.nilCheck rfl) (.mg rfl rfl rfl rfl rfl (.fieldAddr fo_122_0_Ha rfl) ?_)))
    refine .mg rfl rfl rfl rfl rfl (.fieldAddr fo_34_3_E rfl) ?_
    refine .mg rfl rfl rfl rfl rfl (.load on_22_B rfl (by assumption)) ?_
    refine .mg rfl rfl rfl rfl rfl (.len sl_22_A rfl) (.mg rfl rfl rfl rfl rfl (.cmp rfl rfl rfl) (.m rfl rfl rfl (.pickT rfl rfl) (.nil ?_)))
    refine hK18 _ _ ?_
    refine .cond rfl (fun h84 => ?_) (fun h84 => ?_)
    ·
     simp only [sps] at h84
     have a1 := hs.src a (by omega)
     have a2 := hs.tgt a (by omega)
     have a3 := hcs (f.s.src.getD a 0).toNat (by omega)
     have a4 := hcs (f.s.tgt.getD a 0).toNat (by omega)
     refine .skip ?_
     refine hK17 _ _ ?_
     refine .seq (fun K19 hK19 => ?_)
     refine .block ?_
     refine .seq (fun K20 hK20 => ?_)
     refine .regionD mixed_orders_B (.q 0 (.q 1 (.q 2 (.q 3 (.q 4 (.q 5 (.q 6 (.q 7 (.q 8 (.q 9 (.q 10 (.q 11 (.done))))))))))))) (by kernel_rfl) ?_
     refine .m rfl rfl rfl rfl (.refl _) (.fieldAddr fo_32_1_B rfl) ?_
     refine .m rfl rfl rfl rfl (.refl _) (.load on_22_B rfl (by first | assumption | exact Mem.of_get at7 1 _ rfl)) ?_
     refine .m rfl rfl rfl rfl (.refl _) (.move rfl) ?_
     refine .m rfl rfl rfl rfl (.refl _) (.idxN sl_22_A (by assumption) rfl rfl (by omega)) ?_
     refine .m rfl rfl rfl rfl (.refl _) (.loadI on_2_A (by assumption) rfl (by omega)) ?_
     refine .m rfl rfl rfl rfl (.refl _) (.fieldAddr fo_32_2_B rfl) ?_
     refine .m rfl rfl rfl rfl (.refl _) (.load on_22_B rfl (by first | assumption | exact Mem.of_get at7 2 _ rfl)) ?_
     refine .m rfl rfl rfl rfl (.refl _) (.move rfl) ?_
     refine .m rfl rfl rfl rfl (.refl _) (.idxN sl_22_A (by assumption) rfl rfl (by omega)) ?_
     refine .m rfl rfl rfl rfl (.refl _) (.loadI on_2_A (by assumption) rfl (by omega)) ?_
     refine .m rfl rfl rfl rfl (.refl _) (.assign rfl) (.m rfl rfl rfl rfl (.refl _) (.assign rfl) ?_)
     refine .done ?_
     refine hK20 _ _ ?_
     refine .regionD mixed_orders_B (.q 0 (.q 1 (.q 2 (.q 3 (.q 4 (.q 5 (.q 6 (.q 7 (.q 8 (.q 9 (.q 10 (.q 11 (.q 12 (.q 13 (.q 14 (.q 15 (.q 16 (.q 17 (.q 18 (.q 19 (.q 20 (.q 21 (.q 22 (.q 23 (.q 24 (.q 25 (.q 26 (.q 27 (.q 28 (.q 29 (.q 30 (.q 31 (.q 32 (.c 33 0 (.q 34 (.q 35 (.done))))))))))))))))))))))))))))))))))))) (by kernel_rfl) ?_
     refine .cut [(0, some _), (1, some _), (2, some _), (7, some _), (8, some _), (9, some _), (10, some _), (11, some _), (12, some _), (14, some _), (15, some _), (16, some _), (74, some _), (75, some _), (76, some _), (77, some _), (78, some _), (79, some _), (80, some _), (81, some _), (82, some _), (83, some _), (84, some _), (87, some _), (88, some _), (89, some _), (90, some _), (91, some _), (92, some _), (93, some _), (94, some _), (95, some _), (96, some _)] ⟨rfl, rfl, rfl, rfl, rfl, rfl, rfl, rfl, rfl, rfl, rfl, rfl, rfl, rfl, rfl, rfl, rfl, rfl, rfl, rfl, rfl, rfl, rfl, rfl, rfl, rfl, rfl, rfl, rfl, rfl, rfl, rfl, rfl, trivial⟩ (fun rest fr' H' => ∃ b' : Bool, Sub ((13, some (.bool b')) :: rest) fr' ∧ H9007 = H' ∧ b' = allN (a + 1) ((f.net k iso).fitAt (co.set x ((f.t.hom (f.ob.getD x 0) (k.ob.getD x 0)).getD j 0)) x)) ?_ ?_
     ·
      refine .m rfl rfl rfl rfl (.refl _) (.move rfl) (.m rfl rfl rfl rfl (.refl _) (.move rfl) (.m rfl rfl rfl rfl (.refl _) (.cmp rfl rfl rfl) (.m rfl rfl rfl rfl (.refl _) (.move rfl) ?_)))
      refine .split (fun h100 => ?_) (fun h100 => ?_)
      ·
       simp only [sps] at h100
       refine .mg rfl rfl rfl rfl rfl rfl (.refl _) (.move rfl) (.mg rfl rfl rfl rfl rfl rfl (.refl _) (.move rfl) (.mg rfl rfl rfl rfl rfl rfl (.refl _) (.cmp rfl rfl rfl) (.m rfl rfl rfl rfl (.refl _) (.pickT rfl rfl) ?_)))
       refine .m rfl rfl rfl rfl (.refl _) (.move rfl) ?_
       refine .split (fun h105 => ?_) (fun h105 => ?_)
       ·
        simp only [sps] at h105
        refine .sg rfl rfl rfl rfl rfl rfl (.sg rfl rfl rfl rfl rfl rfl (.sg rfl rfl rfl rfl rfl rfl (.sg rfl rfl rfl rfl rfl rfl ?_)))
        refine .sg rfl rfl rfl rfl rfl rfl (.m rfl rfl rfl rfl (.refl _) (.pickT rfl rfl) (.m rfl rfl rfl rfl (.refl _) (.move rfl) (.sg rfl rfl rfl rfl rfl rfl ?_)))
        refine .sg rfl rfl rfl rfl rfl rfl (.sg rfl rfl rfl rfl rfl rfl (.sg rfl rfl rfl rfl rfl rfl (.sg rfl rfl rfl rfl rfl rfl ?_)))
        refine .m rfl rfl rfl rfl (.refl _) (.pickT rfl rfl) (.m rfl rfl rfl rfl (.refl _) (.move rfl) (.sg rfl rfl rfl rfl rfl rfl (.sg rfl rfl rfl rfl rfl rfl ?_)))
        refine .sg rfl rfl rfl rfl rfl rfl (.sg rfl rfl rfl rfl rfl rfl (.sg rfl rfl rfl rfl rfl rfl (.sg rfl rfl rfl rfl rfl rfl ?_)))
        refine .sg rfl rfl rfl rfl rfl rfl (.sg rfl rfl rfl rfl rfl rfl (.sg rfl rfl rfl rfl rfl rfl (.sg rfl rfl rfl rfl rfl rfl ?_)))
        refine .sgc rfl rfl rfl rfl rfl rfl (.m rfl rfl rfl rfl (.refl _) (.pickT rfl rfl) (.m rfl rfl rfl rfl (.refl _) (.assign rfl) ?_))
        refine .done ?_
        refine ⟨_, ⟨rfl, rfl, rfl, rfl, rfl, rfl, rfl, rfl, rfl, rfl, rfl, rfl, rfl, rfl, rfl, rfl, rfl, rfl, rfl, rfl, rfl, rfl, rfl, rfl, rfl, rfl, rfl, rfl, rfl, rfl, rfl, rfl, rfl, rfl, trivial⟩, rfl, ?_⟩
        rw [allN_succ, ← hb, h75, Bool.true_and]
        exact (Net.fit_1 (toNat_ne a1.1 h100) (toNat_ne a2.1 h105)).symm
       simp only [sps] at h105
       refine .mg rfl rfl rfl rfl rfl rfl (.refl _) (.move rfl) (.mg rfl rfl rfl rfl rfl rfl (.refl _) (.move rfl) ?_)
       refine .mg rfl rfl rfl rfl rfl rfl (.refl _) (.idx1 sl_22_A (by first | assumption | exact SlA.of_row at9007 (by first | rfl | (simp; done) | (simp <;> omega))) rfl rfl (by omega) (by omega)) ?_
       refine .mg rfl rfl rfl rfl rfl rfl (.refl _) (.loadI on_2_A (by first | assumption | exact Ints.of_get at9007) rfl (by omega)) ?_
       refine .mg rfl rfl rfl rfl rfl rfl (.refl _) (.cmp rfl rfl rfl) (.m rfl rfl rfl rfl (.refl _) (.pickF rfl rfl) (.m rfl rfl rfl rfl (.refl _) (.move rfl) ?_))
       refine .split (fun h112 => ?_) (fun h112 => ?_)
       ·
        simp only [sps] at h112
        refine .sg rfl rfl rfl rfl rfl rfl (.sg rfl rfl rfl rfl rfl rfl (.sg rfl rfl rfl rfl rfl rfl (.sg rfl rfl rfl rfl rfl rfl ?_)))
        refine .sg rfl rfl rfl rfl rfl rfl (.m rfl rfl rfl rfl (.refl _) (.pickT rfl rfl) (.m rfl rfl rfl rfl (.refl _) (.move rfl) (.sg rfl rfl rfl rfl rfl rfl ?_)))
        refine .sg rfl rfl rfl rfl rfl rfl (.sg rfl rfl rfl rfl rfl rfl (.sg rfl rfl rfl rfl rfl rfl (.sg rfl rfl rfl rfl rfl rfl ?_)))
        refine .sg rfl rfl rfl rfl rfl rfl (.sg rfl rfl rfl rfl rfl rfl (.sg rfl rfl rfl rfl rfl rfl (.sg rfl rfl rfl rfl rfl rfl ?_)))
        refine .sg rfl rfl rfl rfl rfl rfl (.sgc rfl rfl rfl rfl rfl rfl (.m rfl rfl rfl rfl (.refl _) (.pickT rfl rfl) (.m rfl rfl rfl rfl (.refl _) (.assign rfl) ?_)))
        refine .done ?_
        refine ⟨_, ⟨rfl, rfl, rfl, rfl, rfl, rfl, rfl, rfl, rfl, rfl, rfl, rfl, rfl, rfl, rfl, rfl, rfl, rfl, rfl, rfl, rfl, rfl, rfl, rfl, rfl, rfl, rfl, rfl, rfl, rfl, rfl, rfl, rfl, rfl, trivial⟩, rfl, ?_⟩
        rw [allN_succ, ← hb, h75, Bool.true_and]
        exact (Net.fit_2 h112).symm
       simp only [sps] at h112
       refine .mg rfl rfl rfl rfl rfl rfl (.refl _) (.move rfl) (.mg rfl rfl rfl rfl rfl rfl (.refl _) (.move rfl) ?_)
       refine .mg rfl rfl rfl rfl rfl rfl (.refl _) (.idx1 sl_22_A (by first | assumption | exact SlA.of_row at9007 (by first | rfl | (simp; done) | (simp <;> omega))) rfl rfl (by omega) (by omega)) ?_
       refine .mg rfl rfl rfl rfl rfl rfl (.refl _) (.loadI on_2_A (by first | assumption | exact Ints.of_get at9007) rfl (by omega)) ?_
       refine .mg rfl rfl rfl rfl rfl rfl (.refl _) (.cmp rfl rfl rfl) (.m rfl rfl rfl rfl (.refl _) (.pickF rfl rfl) (.m rfl rfl rfl rfl (.refl _) (.move rfl) ?_))
       refine .split (fun h119 => ?_) (fun h119 => ?_)
       ·
        simp only [sps] at h119
        refine .sg rfl rfl rfl rfl rfl rfl (.sg rfl rfl rfl rfl rfl rfl (.sg rfl rfl rfl rfl rfl rfl (.sg rfl rfl rfl rfl rfl rfl ?_)))
        refine .sg rfl rfl rfl rfl rfl rfl (.sg rfl rfl rfl rfl rfl rfl (.sg rfl rfl rfl rfl rfl rfl (.sg rfl rfl rfl rfl rfl rfl ?_)))
        refine .sg rfl rfl rfl rfl rfl rfl (.sg rfl rfl rfl rfl rfl rfl (.sgc rfl rfl rfl rfl rfl rfl (.m rfl rfl rfl rfl (.refl _) (.pickT rfl rfl) ?_)))
        refine .m rfl rfl rfl rfl (.refl _) (.assign rfl) ?_
        refine .done ?_
        refine ⟨_, ⟨rfl, rfl, rfl, rfl, rfl, rfl, rfl, rfl, rfl, rfl, rfl, rfl, rfl, rfl, rfl, rfl, rfl, rfl, rfl, rfl, rfl, rfl, rfl, rfl, rfl, rfl, rfl, rfl, rfl, rfl, rfl, rfl, rfl, rfl, trivial⟩, rfl, ?_⟩
        rw [allN_succ, ← hb, h75, Bool.true_and]
        exact (Net.fit_3 h119).symm
       simp only [sps] at h119
       refine .mg rfl rfl rfl rfl rfl rfl (.refl _) (.move rfl) (.mg rfl rfl rfl rfl rfl rfl (.refl _) (.nilCheck rfl) (.mg rfl rfl rfl rfl rfl rfl (.refl _) (.fieldAddr fo_122_0_Ha rfl) ?_))
       refine .mg rfl rfl rfl rfl rfl rfl (.refl _) (.loadM ag_34_E rfl (by assumption)) ?_
       refine .mg rfl rfl rfl rfl rfl rfl (.refl _) (.move rfl) (.mg rfl rfl rfl rfl rfl rfl (.refl _) (.nilCheck rfl) (.mg rfl rfl rfl rfl rfl rfl (.refl _) (.fieldAddr fo_122_1_Ha rfl) ?_))
       refine .mg rfl rfl rfl rfl rfl rfl (.refl _) (.loadM ag_34_E rfl (by assumption)) ?_
       refine .mg rfl rfl rfl rfl rfl rfl (.refl _) (.move rfl) (.mg rfl rfl rfl rfl rfl rfl (.refl _) (.move rfl) ?_)
       have hcc := l07SquareP_c (iso := iso) (n := co.length) (hin := hif) (hin' := hig) (SlA.of_ints at9007 hls) hP (by omega) (a := a) (by omega) ⟨by omega, by omega⟩ ⟨by omega, by omega⟩
       refine .callQ0g rfl rfl rfl rfl rfl rfl rfl @Try.call112 rfl (hcc) ?_
       refine .m rfl rfl rfl rfl (.refl _) (.pickF rfl rfl) (.m rfl rfl rfl rfl (.refl _) (.assign rfl) ?_)
       refine .done ?_
       refine ⟨_, ⟨rfl, rfl, rfl, rfl, rfl, rfl, rfl, rfl, rfl, rfl, rfl, rfl, rfl, rfl, rfl, rfl, rfl, rfl, rfl, rfl, rfl, rfl, rfl, rfl, rfl, rfl, rfl, rfl, rfl, rfl, rfl, rfl, rfl, rfl, trivial⟩, rfl, ?_⟩
       rw [allN_succ, ← hb, h75, Bool.true_and]
       exact (Net.fit_4 (.inr (by show (f.s.tgt.getD a 0).toNat = x; omega)) (Int.not_lt.2 h112) (Int.not_lt.2 h119)).symm
      simp only [sps] at h100
      refine .sg rfl rfl rfl rfl rfl rfl (.sg rfl rfl rfl rfl rfl rfl (.sg rfl rfl rfl rfl rfl rfl (.m rfl rfl rfl rfl (.refl _) (.pickF rfl rfl) ?_)))
      refine .m rfl rfl rfl rfl (.refl _) (.move rfl) (.mg rfl rfl rfl rfl rfl rfl (.refl _) (.move rfl) (.mg rfl rfl rfl rfl rfl rfl (.refl _) (.move rfl) ?_))
      refine .mg rfl rfl rfl rfl rfl rfl (.refl _) (.idx1 sl_22_A (by first | assumption | exact SlA.of_row at9007 (by first | rfl | (simp; done) | (simp <;> omega))) rfl rfl (by omega) (by omega)) ?_
      refine .mg rfl rfl rfl rfl rfl rfl (.refl _) (.loadI on_2_A (by first | assumption | exact Ints.of_get at9007) rfl (by omega)) ?_
      refine .mg rfl rfl rfl rfl rfl rfl (.refl _) (.cmp rfl rfl rfl) (.m rfl rfl rfl rfl (.refl _) (.pickF rfl rfl) (.m rfl rfl rfl rfl (.refl _) (.move rfl) ?_))
      refine .split (fun h112 => ?_) (fun h112 => ?_)
      ·
       simp only [sps] at h112
       refine .sg rfl rfl rfl rfl rfl rfl (.sg rfl rfl rfl rfl rfl rfl (.sg rfl rfl rfl rfl rfl rfl (.sg rfl rfl rfl rfl rfl rfl ?_)))
       refine .sg rfl rfl rfl rfl rfl rfl (.m rfl rfl rfl rfl (.refl _) (.pickT rfl rfl) (.m rfl rfl rfl rfl (.refl _) (.move rfl) (.sg rfl rfl rfl rfl rfl rfl ?_)))
       refine .sg rfl rfl rfl rfl rfl rfl (.sg rfl rfl rfl rfl rfl rfl (.sg rfl rfl rfl rfl rfl rfl (.sg rfl rfl rfl rfl rfl rfl ?_)))
       refine .sg rfl rfl rfl rfl rfl rfl (.sg rfl rfl rfl rfl rfl rfl (.sg rfl rfl rfl rfl rfl rfl (.sg rfl rfl rfl rfl rfl rfl ?_)))
       refine .sg rfl rfl rfl rfl rfl rfl (.sgc rfl rfl rfl rfl rfl rfl (.m rfl rfl rfl rfl (.refl _) (.pickT rfl rfl) (.m rfl rfl rfl rfl (.refl _) (.assign rfl) ?_)))
       refine .done ?_
       refine ⟨_, ⟨rfl, rfl, rfl, rfl, rfl, rfl, rfl, rfl, rfl, rfl, rfl, rfl, rfl, rfl, rfl, rfl, rfl, rfl, rfl, rfl, rfl, rfl, rfl, rfl, rfl, rfl, rfl, rfl, rfl, rfl, rfl, rfl, rfl, rfl, trivial⟩, rfl, ?_⟩
       rw [allN_succ, ← hb, h75, Bool.true_and]
       exact (Net.fit_2 h112).symm
      simp only [sps] at h112
      refine .mg rfl rfl rfl rfl rfl rfl (.refl _) (.move rfl) (.mg rfl rfl rfl rfl rfl rfl (.refl _) (.move rfl) ?_)
      refine .mg rfl rfl rfl rfl rfl rfl (.refl _) (.idx1 sl_22_A (by first | assumption | exact SlA.of_row at9007 (by first | rfl | (simp; done) | (simp <;> omega))) rfl rfl (by omega) (by omega)) ?_
      refine .mg rfl rfl rfl rfl rfl rfl (.refl _) (.loadI on_2_A (by first | assumption | exact Ints.of_get at9007) rfl (by omega)) ?_
      refine .mg rfl rfl rfl rfl rfl rfl (.refl _) (.cmp rfl rfl rfl) (.m rfl rfl rfl rfl (.refl _) (.pickF rfl rfl) (.m rfl rfl rfl rfl (.refl _) (.move rfl) ?_))
      refine .split (fun h119 => ?_) (fun h119 => ?_)
      ·
       simp only [sps] at h119
       refine .sg rfl rfl rfl rfl rfl rfl (.sg rfl rfl rfl rfl rfl rfl (.sg rfl rfl rfl rfl rfl rfl (.sg rfl rfl rfl rfl rfl rfl ?_)))
       refine .sg rfl rfl rfl rfl rfl rfl (.sg rfl rfl rfl rfl rfl rfl (.sg rfl rfl rfl rfl rfl rfl (.sg rfl rfl rfl rfl rfl rfl ?_)))
       refine .sg rfl rfl rfl rfl rfl rfl (.sg rfl rfl rfl rfl rfl rfl (.sgc rfl rfl rfl rfl rfl rfl (.m rfl rfl rfl rfl (.refl _) (.pickT rfl rfl) ?_)))
       refine .m rfl rfl rfl rfl (.refl _) (.assign rfl) ?_
       refine .done ?_
       refine ⟨_, ⟨rfl, rfl, rfl, rfl, rfl, rfl, rfl, rfl, rfl, rfl, rfl, rfl, rfl, rfl, rfl, rfl, rfl, rfl, rfl, rfl, rfl, rfl, rfl, rfl, rfl, rfl, rfl, rfl, rfl, rfl, rfl, rfl, rfl, rfl, trivial⟩, rfl, ?_⟩
       rw [allN_succ, ← hb, h75, Bool.true_and]
       exact (Net.fit_3 h119).symm
      simp only [sps] at h119
      refine .mg rfl rfl rfl rfl rfl rfl (.refl _) (.move rfl) (.mg rfl rfl rfl rfl rfl rfl (.refl _) (.nilCheck rfl) (.mg rfl rfl rfl rfl rfl rfl (.refl _) (.fieldAddr fo_122_0_Ha rfl) ?_))
      refine .mg rfl rfl rfl rfl rfl rfl (.refl _) (.loadM ag_34_E rfl (by assumption)) ?_
      refine .mg rfl rfl rfl rfl rfl rfl (.refl _) (.move rfl) (.mg rfl rfl rfl rfl rfl rfl (.refl _) (.nilCheck rfl) (.mg rfl rfl rfl rfl rfl rfl (.refl _) (.fieldAddr fo_122_1_Ha rfl) ?_))
      refine .mg rfl rfl rfl rfl rfl rfl (.refl _) (.loadM ag_34_E rfl (by assumption)) ?_
      refine .mg rfl rfl rfl rfl rfl rfl (.refl _) (.move rfl) (.mg rfl rfl rfl rfl rfl rfl (.refl _) (.move rfl) ?_)
      have hcc := l07SquareP_c (iso := iso) (n := co.length) (hin := hif) (hin' := hig) (SlA.of_ints at9007 hls) hP (by omega) (a := a) (by omega) ⟨by omega, by omega⟩ ⟨by omega, by omega⟩
      refine .callQ0g rfl rfl rfl rfl rfl rfl rfl @Try.call112 rfl (hcc) ?_
      refine .m rfl rfl rfl rfl (.refl _) (.pickF rfl rfl) (.m rfl rfl rfl rfl (.refl _) (.assign rfl) ?_)
      refine .done ?_
      refine ⟨_, ⟨rfl, rfl, rfl, rfl, rfl, rfl, rfl, rfl, rfl, rfl, rfl, rfl, rfl, rfl, rfl, rfl, rfl, rfl, rfl, rfl, rfl, rfl, rfl, rfl, rfl, rfl, rfl, rfl, rfl, rfl, rfl, rfl, rfl, rfl, trivial⟩, rfl, ?_⟩
      rw [allN_succ, ← hb, h75, Bool.true_and]
      exact (Net.fit_4 (.inl (by show (f.s.src.getD a 0).toNat = x; omega)) (Int.not_lt.2 h112) (Int.not_lt.2 h119)).symm
     rintro frJ15 _ ⟨b', hsubJ15, rfl, hJ15⟩
     refine hK19 _ _ ?_
     refine .forget hsubJ15 ?_
     refine .region (.m rfl rfl rfl (.move rfl) ?_)
     refine .m rfl rfl rfl (.add rfl rfl rfl (by omega) (by omega)) ?_
     refine .m rfl rfl rfl (.assign rfl) (.nil ?_)
     refine hKL2 ((a + 1, b')) _ _ ?_ ?_ ⟨rfl, rfl, rfl, rfl, rfl, rfl, rfl, rfl, rfl, rfl, rfl, trivial⟩
     ·
      refine ⟨rfl, ?_⟩
      exact ⟨by omega, hJ15⟩
     (dsimp only; omega)
    try simp only [sps] at h84
    refine .exit ?_
    refine hK15 _ _ ?_
    refine .seq (fun K21 hK21 => ?_)
    refine .region ?_
    have hfit : b = (f.net k iso).fits (co.set x ((f.t.hom (f.ob.getD x 0) (k.ob.getD x 0)).getD j 0)) x := by
      rw [Net.fits_eq]
      cases hbb : b with
      | false => exact (allN_early (hb.symm.trans hbb) (show a ≤ f.ar.length by omega)).symm
      | true =>
        first
        | exact absurd hbb h75
        | exact absurd (show true = false from hbb.symm.trans h75) Bool.noConfusion
        | (obtain rfl : a = f.ar.length := by omega
           exact hbb.symm.trans hb)
    refine .m rfl rfl rfl (.move rfl) (.nil ?_)
    refine hK21 _ _ ?_
    refine .cond rfl (fun h132 => ?_) (fun h132 => ?_)
    ·
     have hP1 := (hgo.trans hfit.symm).trans h132
     refine .region (.m rfl rfl rfl (.move rfl) (.m rfl rfl rfl (.move rfl) (.m rfl rfl rfl (.move rfl) ?_)))
     refine .m rfl rfl rfl (.idxN sl_22_A (by first | assumption | exact SlA.of_row at44 (by first | rfl | (simp; done) | (simp <;> omega))) rfl rfl (by omega)) ?_
     refine .m rfl rfl rfl (.loadI on_2_A (by first | assumption | exact Ints.of_get at44) rfl (by omega)) ?_
     refine .r rfl rfl rfl (.litR rfl sl_22_A ze_2_E rfl rfl (by omega) (by omega) rfl rfl) ?_
     rintro _ H138 ⟨g138, rfl, le138, ge138, at138⟩
     have nx_H138 := le138.1
     replace hle := hle.trans le138
     replace lst1 := lst1.le le138
     replace at7 := le138.2 _ _ at7
     replace at8 := le138.2 _ _ at8
     replace at44 := le138.2 _ _ at44
     replace at_L10 := le138.2 _ _ at_L10
     replace at9007 := le138.2 _ _ at9007
     have lt_at138 := GHeap.lt_of_get at138
     replace hS := base_hS.mono hle
     replace hin := base_hin.mono hle
     replace hin1 := base_hin1.mono hle
     replace hd := base_hd.mono hle
     clear hF hG kiso fsf ftf c10f c11f j1f j2f hmf hif hmsf hisf hmtf hitf fsg ftg c10g c11g j1g j2g hmg hig hmsg hisg hmtg hitg
     have hF : Fun.At _ gs (0 + 0) f p := ⟨hS.left, hin⟩
     have hG : Fun.At _ gs (0 + 12) k q := ⟨(hS.right (n := 12) rfl).left, hin1⟩
     have kiso : GHeap.cell _ gs (0 + 24) = some (.bool iso) := ((hS.right (n := 12) rfl).right (n := 12) rfl) 0 _ rfl
     obtain ⟨fsf, ftf, c10f, c11f, j1f, j2f⟩ := hF.get
     have hmf : MemN _ _ _ _ _ := ⟨rfl, hF.1⟩
     have hif := hF.2
     have hmsf : MemN _ _ _ _ _ := ⟨rfl, fsf.1⟩
     have hisf := fsf.2
     have hmtf : MemN _ _ _ _ _ := ⟨rfl, ftf.1⟩
     have hitf := ftf.2
     obtain ⟨fsg, ftg, c10g, c11g, j1g, j2g⟩ := hG.get
     have hmg : MemN _ _ _ _ _ := ⟨rfl, hG.1⟩
     have hig := hG.2
     have hmsg : MemN _ _ _ _ _ := ⟨rfl, fsg.1⟩
     have hisg := fsg.2
     have hmtg : MemN _ _ _ _ _ := ⟨rfl, ftg.1⟩
     have hitg := ftg.2
     clear hb7 c07 c17 c27 c37 c47 i17 i27 i37 i47 hm7 hi7
     have hb7 : Cat.At _ g7 0 f.s p.s := ⟨Mem.of_get at7, hin.1⟩
     obtain ⟨c07, c17, c27, c37, c47, i17, i27, i37, i47⟩ := hb7.get
     have hm7 : MemN _ _ _ _ _ := ⟨rfl, hb7.1⟩
     have hi7 := hb7.2
     clear hb8 c08 c18 c28 c38 c48 i18 i28 i38 i48 hm8 hi8
     have hb8 : Cat.At _ g8 0 f.t p.t := ⟨Mem.of_get at8, hin.2.1⟩
     obtain ⟨c08, c18, c28, c38, c48, i18, i28, i38, i48⟩ := hb8.get
     have hm8 : MemN _ _ _ _ _ := ⟨rfl, hb8.1⟩
     have hi8 := hb8.2
     clear i44
     have i44 := Ints.of_get at44
     clear i66
     have i66 := Ints.of_get at66
     refine .r rfl rfl rfl (.appendI rfl sl_22_A ze_2_E rfl by_2_E sl_22_A rfl rfl (by assumption) (by assumption) (by first | omega | (simp <;> omega)) (by omega) (by omega)) ?_
     rintro _ H139 ⟨g139, rfl, st139, ge139, at139⟩
     have nx_H139 := st139.nx
     replace hle := hle.st st139 (fun k hk => ⟨by omega, trivial⟩)
     replace lst1 := lst1.st st139 (fun k hk ho => by simp only [out, and_true] at ho ⊢ <;> omega)
     replace at7 := st139.same _ _ ⟨by omega, trivial⟩ at7
     replace at8 := st139.same _ _ ⟨by omega, trivial⟩ at8
     replace at44 := st139.same _ _ ⟨by omega, trivial⟩ at44
     replace at9007 := st139.same _ _ ⟨by omega, trivial⟩ at9007
     replace at138 := st139.same _ _ ⟨by omega, trivial⟩ at138
     have lt_at139 := GHeap.lt_of_get at139
     replace hS := base_hS.mono hle
     replace hin := base_hin.mono hle
     replace hin1 := base_hin1.mono hle
     replace hd := base_hd.mono hle
     clear hF hG kiso fsf ftf c10f c11f j1f j2f hmf hif hmsf hisf hmtf hitf fsg ftg c10g c11g j1g j2g hmg hig hmsg hisg hmtg hitg
     have hF : Fun.At _ gs (0 + 0) f p := ⟨hS.left, hin⟩
     have hG : Fun.At _ gs (0 + 12) k q := ⟨(hS.right (n := 12) rfl).left, hin1⟩
     have kiso : GHeap.cell _ gs (0 + 24) = some (.bool iso) := ((hS.right (n := 12) rfl).right (n := 12) rfl) 0 _ rfl
     obtain ⟨fsf, ftf, c10f, c11f, j1f, j2f⟩ := hF.get
     have hmf : MemN _ _ _ _ _ := ⟨rfl, hF.1⟩
     have hif := hF.2
     have hmsf : MemN _ _ _ _ _ := ⟨rfl, fsf.1⟩
     have hisf := fsf.2
     have hmtf : MemN _ _ _ _ _ := ⟨rfl, ftf.1⟩
     have hitf := ftf.2
     obtain ⟨fsg, ftg, c10g, c11g, j1g, j2g⟩ := hG.get
     have hmg : MemN _ _ _ _ _ := ⟨rfl, hG.1⟩
     have hig := hG.2
     have hmsg : MemN _ _ _ _ _ := ⟨rfl, fsg.1⟩
     have hisg := fsg.2
     have hmtg : MemN _ _ _ _ _ := ⟨rfl, ftg.1⟩
     have hitg := ftg.2
     clear hb7 c07 c17 c27 c37 c47 i17 i27 i37 i47 hm7 hi7
     have hb7 : Cat.At _ g7 0 f.s p.s := ⟨Mem.of_get at7, hin.1⟩
     obtain ⟨c07, c17, c27, c37, c47, i17, i27, i37, i47⟩ := hb7.get
     have hm7 : MemN _ _ _ _ _ := ⟨rfl, hb7.1⟩
     have hi7 := hb7.2
     clear hb8 c08 c18 c28 c38 c48 i18 i28 i38 i48 hm8 hi8
     have hb8 : Cat.At _ g8 0 f.t p.t := ⟨Mem.of_get at8, hin.2.1⟩
     obtain ⟨c08, c18, c28, c38, c48, i18, i28, i38, i48⟩ := hb8.get
     have hm8 : MemN _ _ _ _ _ := ⟨rfl, hb8.1⟩
     have hi8 := hb8.2
     clear i44
     have i44 := Ints.of_get at44
     clear i66
     have i66 := Ints.of_get at66
     refine .m rfl rfl rfl (.assign rfl) (.nil ?_)
     refine hK9 _ _ ?_
     refine .region (.m rfl rfl rfl (.move rfl) ?_)
     refine .m rfl rfl rfl (.add rfl rfl rfl (by omega) (by omega)) ?_
     refine .m rfl rfl rfl (.assign rfl) (.nil ?_)
     refine hKL1 ((j + 1, _, _)) _ _ ?_ ?_ ⟨rfl, rfl, rfl, rfl, rfl, rfl, rfl, rfl, trivial⟩
     ·
      refine ⟨lst1, by first | assumption | (rw [filtTake_T (by omega) hP1]; assumption) | (rw [filtTake_F (by omega) hP1]; assumption), by omega, by first | omega | (simp only [List.length_append, List.length_cons, List.length_nil] <;> omega) | (rw [filtTake_T (by omega) hP1] <;> (first | omega | (simp only [List.length_append, List.length_cons, List.length_nil] <;> omega))) | (rw [filtTake_F (by omega) hP1] <;> (first | omega | (simp only [List.length_append, List.length_cons, List.length_nil] <;> omega))), ?_⟩
      omega
     (dsimp only; omega)
    have hP1 := (hgo.trans hfit.symm).trans (by simpa using h132)
    refine .skip ?_
    refine hK9 _ _ ?_
    refine .region (.m rfl rfl rfl (.move rfl) ?_)
    refine .m rfl rfl rfl (.add rfl rfl rfl (by omega) (by omega)) ?_
    refine .m rfl rfl rfl (.assign rfl) (.nil ?_)
    refine hKL1 ((j + 1, _, _)) _ _ ?_ ?_ ⟨rfl, rfl, rfl, rfl, rfl, rfl, rfl, rfl, trivial⟩
    ·
     refine ⟨lst1, by first | assumption | (rw [filtTake_T (by omega) hP1]; assumption) | (rw [filtTake_F (by omega) hP1]; assumption), by omega, by first | omega | (simp only [List.length_append, List.length_cons, List.length_nil] <;> omega) | (rw [filtTake_T (by omega) hP1] <;> (first | omega | (simp only [List.length_append, List.length_cons, List.length_nil] <;> omega))) | (rw [filtTake_F (by omega) hP1] <;> (first | omega | (simp only [List.length_append, List.length_cons, List.length_nil] <;> omega))), ?_⟩
     omega
    (dsimp only; omega)
   refine .sg rfl rfl rfl rfl rfl (.sg rfl rfl rfl rfl rfl (.sg rfl rfl rfl rfl rfl (.sg rfl rfl rfl rfl rfl ?_)))
   refine .sg rfl rfl rfl rfl rfl (.sg rfl rfl rfl rfl rfl (.sg rfl rfl rfl rfl rfl (.sg rfl rfl rfl rfl rfl ?_)))
   refine .m rfl rfl rfl (.pickF rfl rfl) (.nil ?_)
   refine hK18 _ _ ?_
   refine .condF rfl ?_
   refine .exit ?_
   refine hK15 _ _ ?_
   refine .seq (fun K22 hK22 => ?_)
   refine .region ?_
   have hfit : b = (f.net k iso).fits (co.set x ((f.t.hom (f.ob.getD x 0) (k.ob.getD x 0)).getD j 0)) x := by
     rw [Net.fits_eq]
     cases hbb : b with
     | false => exact (allN_early (hb.symm.trans hbb) (show a ≤ f.ar.length by omega)).symm
     | true =>
       first
       | exact absurd hbb h75
       | exact absurd (show true = false from hbb.symm.trans h75) Bool.noConfusion
       | (obtain rfl : a = f.ar.length := by omega
          exact hbb.symm.trans hb)
   refine .m rfl rfl rfl (.move rfl) (.nil ?_)
   refine hK22 _ _ ?_
   refine .cond rfl (fun h132 => ?_) (fun h132 => ?_)
   ·
    have hP1 := (hgo.trans hfit.symm).trans h132
    refine .region (.m rfl rfl rfl (.move rfl) (.m rfl rfl rfl (.move rfl) (.m rfl rfl rfl (.move rfl) ?_)))
    refine .m rfl rfl rfl (.idxN sl_22_A (by first | assumption | exact SlA.of_row at44 (by first | rfl | (simp; done) | (simp <;> omega))) rfl rfl (by omega)) ?_
    refine .m rfl rfl rfl (.loadI on_2_A (by first | assumption | exact Ints.of_get at44) rfl (by omega)) ?_
    refine .r rfl rfl rfl (.litR rfl sl_22_A ze_2_E rfl rfl (by omega) (by omega) rfl rfl) ?_
    rintro _ H138x2 ⟨g138x2, rfl, le138x2, ge138x2, at138x2⟩
    have nx_H138x2 := le138x2.1
    replace hle := hle.trans le138x2
    replace lst1 := lst1.le le138x2
    replace at7 := le138x2.2 _ _ at7
    replace at8 := le138x2.2 _ _ at8
    replace at44 := le138x2.2 _ _ at44
    replace at_L10 := le138x2.2 _ _ at_L10
    replace at9007 := le138x2.2 _ _ at9007
    have lt_at138x2 := GHeap.lt_of_get at138x2
    replace hS := base_hS.mono hle
    replace hin := base_hin.mono hle
    replace hin1 := base_hin1.mono hle
    replace hd := base_hd.mono hle
    clear hF hG kiso fsf ftf c10f c11f j1f j2f hmf hif hmsf hisf hmtf hitf fsg ftg c10g c11g j1g j2g hmg hig hmsg hisg hmtg hitg
    have hF : Fun.At _ gs (0 + 0) f p := ⟨hS.left, hin⟩
    have hG : Fun.At _ gs (0 + 12) k q := ⟨(hS.right (n := 12) rfl).left, hin1⟩
    have kiso : GHeap.cell _ gs (0 + 24) = some (.bool iso) := ((hS.right (n := 12) rfl).right (n := 12) rfl) 0 _ rfl
    obtain ⟨fsf, ftf, c10f, c11f, j1f, j2f⟩ := hF.get
    have hmf : MemN _ _ _ _ _ := ⟨rfl, hF.1⟩
    have hif := hF.2
    have hmsf : MemN _ _ _ _ _ := ⟨rfl, fsf.1⟩
    have hisf := fsf.2
    have hmtf : MemN _ _ _ _ _ := ⟨rfl, ftf.1⟩
    have hitf := ftf.2
    obtain ⟨fsg, ftg, c10g, c11g, j1g, j2g⟩ := hG.get
    have hmg : MemN _ _ _ _ _ := ⟨rfl, hG.1⟩
    have hig := hG.2
    have hmsg : MemN _ _ _ _ _ := ⟨rfl, fsg.1⟩
    have hisg := fsg.2
    have hmtg : MemN _ _ _ _ _ := ⟨rfl, ftg.1⟩
    have hitg := ftg.2
    clear hb7 c07 c17 c27 c37 c47 i17 i27 i37 i47 hm7 hi7
    have hb7 : Cat.At _ g7 0 f.s p.s := ⟨Mem.of_get at7, hin.1⟩
    obtain ⟨c07, c17, c27, c37, c47, i17, i27, i37, i47⟩ := hb7.get
    have hm7 : MemN _ _ _ _ _ := ⟨rfl, hb7.1⟩
    have hi7 := hb7.2
    clear hb8 c08 c18 c28 c38 c48 i18 i28 i38 i48 hm8 hi8
    have hb8 : Cat.At _ g8 0 f.t p.t := ⟨Mem.of_get at8, hin.2.1⟩
    obtain ⟨c08, c18, c28, c38, c48, i18, i28, i38, i48⟩ := hb8.get
    have hm8 : MemN _ _ _ _ _ := ⟨rfl, hb8.1⟩
    have hi8 := hb8.2
    clear i44
    have i44 := Ints.of_get at44
    clear i66
    have i66 := Ints.of_get at66
    refine .r rfl rfl rfl (.appendI rfl sl_22_A ze_2_E rfl by_2_E sl_22_A rfl rfl (by assumption) (by assumption) (by first | omega | (simp <;> omega)) (by omega) (by omega)) ?_
    rintro _ H139x2 ⟨g139x2, rfl, st139x2, ge139x2, at139x2⟩
    have nx_H139x2 := st139x2.nx
    replace hle := hle.st st139x2 (fun k hk => ⟨by omega, trivial⟩)
    replace lst1 := lst1.st st139x2 (fun k hk ho => by simp only [out, and_true] at ho ⊢ <;> omega)
    replace at7 := st139x2.same _ _ ⟨by omega, trivial⟩ at7
    replace at8 := st139x2.same _ _ ⟨by omega, trivial⟩ at8
    replace at44 := st139x2.same _ _ ⟨by omega, trivial⟩ at44
    replace at9007 := st139x2.same _ _ ⟨by omega, trivial⟩ at9007
    replace at138x2 := st139x2.same _ _ ⟨by omega, trivial⟩ at138x2
    have lt_at139x2 := GHeap.lt_of_get at139x2
    replace hS := base_hS.mono hle
    replace hin := base_hin.mono hle
    replace hin1 := base_hin1.mono hle
    replace hd := base_hd.mono hle
    clear hF hG kiso fsf ftf c10f c11f j1f j2f hmf hif hmsf hisf hmtf hitf fsg ftg c10g c11g j1g j2g hmg hig hmsg hisg hmtg hitg
    have hF : Fun.At _ gs (0 + 0) f p := ⟨hS.left, hin⟩
    have hG : Fun.At _ gs (0 + 12) k q := ⟨(hS.right (n := 12) rfl).left, hin1⟩
    have kiso : GHeap.cell _ gs (0 + 24) = some (.bool iso) := ((hS.right (n := 12) rfl).right (n := 12) rfl) 0 _ rfl
    obtain ⟨fsf, ftf, c10f, c11f, j1f, j2f⟩ := hF.get
    have hmf : MemN _ _ _ _ _ := ⟨rfl, hF.1⟩
    have hif := hF.2
    have hmsf : MemN _ _ _ _ _ := ⟨rfl, fsf.1⟩
    have hisf := fsf.2
    have hmtf : MemN _ _ _ _ _ := ⟨rfl, ftf.1⟩
    have hitf := ftf.2
    obtain ⟨fsg, ftg, c10g, c11g, j1g, j2g⟩ := hG.get
    have hmg : MemN _ _ _ _ _ := ⟨rfl, hG.1⟩
    have hig := hG.2
    have hmsg : MemN _ _ _ _ _ := ⟨rfl, fsg.1⟩
    have hisg := fsg.2
    have hmtg : MemN _ _ _ _ _ := ⟨rfl, ftg.1⟩
    have hitg := ftg.2
    clear hb7 c07 c17 c27 c37 c47 i17 i27 i37 i47 hm7 hi7
    have hb7 : Cat.At _ g7 0 f.s p.s := ⟨Mem.of_get at7, hin.1⟩
    obtain ⟨c07, c17, c27, c37, c47, i17, i27, i37, i47⟩ := hb7.get
    have hm7 : MemN _ _ _ _ _ := ⟨rfl, hb7.1⟩
    have hi7 := hb7.2
    clear hb8 c08 c18 c28 c38 c48 i18 i28 i38 i48 hm8 hi8
    have hb8 : Cat.At _ g8 0 f.t p.t := ⟨Mem.of_get at8, hin.2.1⟩
    obtain ⟨c08, c18, c28, c38, c48, i18, i28, i38, i48⟩ := hb8.get
    have hm8 : MemN _ _ _ _ _ := ⟨rfl, hb8.1⟩
    have hi8 := hb8.2
    clear i44
    have i44 := Ints.of_get at44
    clear i66
    have i66 := Ints.of_get at66
    refine .m rfl rfl rfl (.assign rfl) (.nil ?_)
    refine hK9 _ _ ?_
    refine .region (.m rfl rfl rfl (.move rfl) ?_)
    refine .m rfl rfl rfl (.add rfl rfl rfl (by omega) (by omega)) ?_
    refine .m rfl rfl rfl (.assign rfl) (.nil ?_)
    refine hKL1 ((j + 1, _, _)) _ _ ?_ ?_ ⟨rfl, rfl, rfl, rfl, rfl, rfl, rfl, rfl, trivial⟩
    ·
     refine ⟨lst1, by first | assumption | (rw [filtTake_T (by omega) hP1]; assumption) | (rw [filtTake_F (by omega) hP1]; assumption), by omega, by first | omega | (simp only [List.length_append, List.length_cons, List.length_nil] <;> omega) | (rw [filtTake_T (by omega) hP1] <;> (first | omega | (simp only [List.length_append, List.length_cons, List.length_nil] <;> omega))) | (rw [filtTake_F (by omega) hP1] <;> (first | omega | (simp only [List.length_append, List.length_cons, List.length_nil] <;> omega))), ?_⟩
     omega
    (dsimp only; omega)
   have hP1 := (hgo.trans hfit.symm).trans (by simpa using h132)
   refine .skip ?_
   refine hK9 _ _ ?_
   refine .region (.m rfl rfl rfl (.move rfl) ?_)
   refine .m rfl rfl rfl (.add rfl rfl rfl (by omega) (by omega)) ?_
   refine .m rfl rfl rfl (.assign rfl) (.nil ?_)
   refine hKL1 ((j + 1, _, _)) _ _ ?_ ?_ ⟨rfl, rfl, rfl, rfl, rfl, rfl, rfl, rfl, trivial⟩
   ·
    refine ⟨lst1, by first | assumption | (rw [filtTake_T (by omega) hP1]; assumption) | (rw [filtTake_F (by omega) hP1]; assumption), by omega, by first | omega | (simp only [List.length_append, List.length_cons, List.length_nil] <;> omega) | (rw [filtTake_T (by omega) hP1] <;> (first | omega | (simp only [List.length_append, List.length_cons, List.length_nil] <;> omega))) | (rw [filtTake_F (by omega) hP1] <;> (first | omega | (simp only [List.length_append, List.length_cons, List.length_nil] <;> omega))), ?_⟩
    omega
   (dsimp only; omega)
  try simp only [sps] at h49
  refine .exit ?_
  refine hK5 _ _ ?_
  refine .seq (fun K23 hK23 => ?_)
  refine .region (.m rfl rfl rfl (.move rfl) (.m rfl rfl rfl (.assign rfl) (.nil ?_)))
  refine hK23 _ _ ?_
  refine .ret ?_
  refine hret _ _ ?_
  refine ⟨_, rfl, ?_⟩
  obtain rfl : j = (f.t.hom (f.ob.getD x 0) (k.ob.getD x 0)).length := by omega
  rw [List.take_length, ← Fun.choices_eq] at at_L10 ln_L10
  exact ⟨hle, gL10, by rw [ln_L10], at_L10, by omega⟩
end Go.Proofs.Ytpmjlhbglcaokaa
/- A search that gathers what it finds: its steps, plain. No condition. -/
namespace Go.GL
/-- A list that may be nil. -/
def SlO (b : Nat) (H : GHeap) (a : Option Addr) (g : Nat) (cs : List Value) (e : TypeId) (k : Nat) : Prop := (a = none ∧ k = 0 ∧ cs = []) ∨ (a = some ⟨g, 0, none⟩ ∧ b ≤ g ∧ H.get g = some (.row cs e true))
theorem SlO.mono {b g k : Nat} {H H' : GHeap} {a : Option Addr} {cs : List Value} {e : TypeId} (h : SlO b H a g cs e k) (s : H.Le H') : SlO b H' a g cs e k := h.imp id fun ⟨h1, h2, h3⟩ => ⟨h1, h2, s.2 _ _ h3⟩
theorem SlO.st {b g k : Nat} {bs : List Nat} {H H' : GHeap} {a : Option Addr} {cs : List Value} {e : TypeId} (h : SlO b H a g cs e k) (s : St bs H H') (ho : out bs g) : SlO b H' a g cs e k := h.imp id fun ⟨h1, h2, h3⟩ => ⟨h1, h2, s.same _ _ ho h3⟩
section
variable {P : Program} {o : Oper} {fr : Slots} {H : GHeap}
theorem CDo.appendVO {t tx e e' : TypeId} {s x : Operand} {a : Option Addr} {b g g1 n sz bytes : Nat} {z cs vs : List Value} (ho : o.op = .call { callee := .builtin .append, args := #[s, x], argTypes := #[t, tx] }) (ht : sliceT P t = some (e, sz)) (hz : zeroT P e = some (z, sz)) (hzn : z.length = sz)
    (hb : (P.info? e).map (·.bytes) = some bytes) (htx : sliceT P tx = some (e', sz)) (hsv : ev fr s = some (.slice a n n)) (hx : ev fr x = some (.slice (some ⟨g1, 0, none⟩) 1 1)) (hA : SlO b H a g cs e n) (hg1 : H.get g1 = some (.row vs e' true)) (hend : n * sz = cs.length)
    (hs0 : 0 < sz) (hv : vs.length = sz) (hone : vs.all (·.oneCell') = true) (hN : n + 1 ≤ 16777216) (hB : (n + 1) * bytes ≤ 140737488355328) :
    CDo P o fr H (fun r H' => ∃ g', r = some (.slice (some ⟨g', 0, none⟩) (n + 1) (n + 1)) ∧ St [g] H H' ∧ H.next ≤ g' ∧ H'.get g' = some (.row (cs ++ vs) e true)) := by
  have hsrc : SrcG P fr H sz tx x 1 vs := .slice htx hx (by omega) (fun i v hv => by rw [GHeap.cell_of hg1, Nat.zero_add]; exact hv) (fun v hv => List.all_eq_true.1 hone v hv)
  rcases hA with ⟨rfl, rfl, rfl⟩ | ⟨rfl, h1, h2⟩
  · exact .appendNil ho ht hz hzn hb hsv hsrc (by omega) (by unfold maxLen; omega) (by omega) ⟨_, rfl, .push (.refl _ _), Nat.le_refl _, GHeap.get_push_new _ _⟩
  · exact .appendR (cs := cs) (news := vs) ho ht hz hzn hb hsv h2 (by omega) hsrc hN hB
end
/-- What has been found lies in the state's last cell. -/
structure FoundAt (T e e' : TypeId) (b : Nat) (H : GHeap) (gs gF : Nat) (f : Fun) (p : FunP) (k : Fun) (q : FunP) (iso : Bool) (M : Nat) (fs : List (List Int)) : Prop where
  ex : ∃ a r, H.get gs = some (.row (stCells f p k q iso (M : Int) a fs.length) T true) ∧ SlO b H a gF (slsL r fs) e fs.length ∧ OwnL b H e' r fs
theorem OwnL.mono {b : Nat} {H H' : GHeap} {e : TypeId} {r : Nat → Option Addr} {xss : List (List Int)} (h : OwnL b H e r xss) (s : H.Le H') : OwnL b H' e r xss := h.keep fun x xs hx => s.2 x _ hx
theorem FoundAt.mono {T e e' : TypeId} {b gs gF : Nat} {H H' : GHeap} {f k : Fun} {p q : FunP} {iso : Bool} {M : Nat} {fs : List (List Int)} (h : FoundAt T e e' b H gs gF f p k q iso M fs) (s : H.Le H') : FoundAt T e e' b H' gs gF f p k q iso M fs := by
  obtain ⟨a, r, h1, h2, h3⟩ := h.ex
  exact ⟨a, r, s.2 _ _ h1, h2.mono s, h3.mono s⟩
theorem St.le_of_nil {H H' : GHeap} (s : St [] H H') : H.Le H' := ⟨s.nx, fun k o hk => s.same k o trivial hk⟩
theorem take_more {α : Type} {l r : List α} {M : Nat} (h : (l.take M).length < M) : (l.take M ++ r).take M = (l ++ r).take M := by
  rw [List.length_take] at h
  rw [List.take_of_length_le (l := l) (by omega)]
theorem take_full {α : Type} {l r : List α} {M : Nat} (h : ¬ (l.take M).length < M) : (l ++ r).take M = l.take M := by
  rw [List.length_take] at h
  exact List.take_append_of_le_length (by omega)
theorem take_less {α : Type} {l : List α} {M : Nat} (h : l.length < M) : (l ++ []).take M = l := by rw [List.append_nil]; exact List.take_of_length_le (by omega)
theorem take_one {α : Type} {l : List α} {x : α} {M : Nat} (h : l.length < M) : (l ++ [x]).take M = l ++ [x] := List.take_of_length_le (by simp; omega)
/-- The places from y on have been seen; x: the first unknown one among them. -/
structure SeenU (n : Net) (co : List Int) (y : Nat) (x : Int) : Prop where
  fst : (x = -1 ∧ ∀ j, y ≤ j → j < co.length → ¬ co.getD j 0 = -1) ∨ (∃ m : Nat, x = m ∧ y ≤ m ∧ m < co.length ∧ co.getD m 0 = -1 ∧ ∀ j, y ≤ j → j < m → ¬ co.getD j 0 = -1)
  cho : ∀ j, y ≤ j → j < co.length → co.getD j 0 = -1 → n.choices co j ≠ []
theorem SeenU.start (n : Net) (co : List Int) : SeenU n co co.length (-1) := ⟨.inl ⟨rfl, fun j h1 h2 => by omega⟩, fun j h1 h2 => by omega⟩
theorem SeenU.hit {n : Net} {co : List Int} {y : Nat} {x : Int} (h : SeenU n co (y + 1) x) (hy : y < co.length) (hu : co.getD y 0 = -1) (hc : ¬ (n.choices co y).length = 0) : SeenU n co y y :=
  ⟨.inr ⟨y, rfl, Nat.le_refl _, hy, hu, fun j h1 h2 => by omega⟩, fun j h1 h2 h3 => by
    by_cases e : j = y
    · subst e; intro hn; rw [hn] at hc; exact hc rfl
    · exact h.cho j (by omega) h2 h3⟩
theorem SeenU.miss {n : Net} {co : List Int} {y : Nat} {x : Int} (h : SeenU n co (y + 1) x) (hu : ¬ co.getD y 0 = -1) : SeenU n co y x := by
  have hj : ∀ j, y ≤ j → (j = y ∨ y + 1 ≤ j) := fun j hj => by omega
  refine ⟨?_, fun j h1 h2 h3 => ?_⟩
  · rcases h.fst with ⟨h1, h2⟩ | ⟨m, h1, h2, h3, h4, h5⟩
    · refine .inl ⟨h1, fun j k1 k2 => ?_⟩
      rcases hj j k1 with e | e
      · subst e; exact hu
      · exact h2 j e k2
    · refine .inr ⟨m, h1, by omega, h3, h4, fun j k1 k2 => ?_⟩
      rcases hj j k1 with e | e
      · subst e; exact hu
      · exact h5 j e k2
  · rcases hj j h1 with e | e
    · subst e; exact absurd h3 hu
    · exact h.cho j e h2 h3
theorem SeenU.none {n : Net} {co : List Int} {x : Int} (h : SeenU n co 0 x) (hx : x < 0) (hc : ∀ x, ∀ h ∈ n.cand x, 0 ≤ h) : n.go co = [co] := by
  rcases h.fst with ⟨_, h2⟩ | ⟨m, h1, _⟩
  · rw [Net.go_eq hc, firstU_no fun j hj => h2 j (Nat.zero_le _) hj]
  · omega
theorem SeenU.some {n : Net} {co : List Int} {x : Int} (h : SeenU n co 0 x) (hx : ¬ x < 0) (hc : ∀ x, ∀ h ∈ n.cand x, 0 ≤ h) : ∃ m : Nat, x = m ∧ m < co.length ∧ co.getD m 0 = -1 ∧ n.go co = (n.choices co m).flatMap fun h => n.go (co.set m h) := by
  rcases h.fst with ⟨h1, _⟩ | ⟨m, h1, _, h3, h4, h5⟩
  · omega
  · refine ⟨m, h1, h3, h4, ?_⟩
    have hs : n.stuck co = false := by
      rw [← Bool.not_eq_true, Net.stuck_iff]
      rintro ⟨y, y1, y2, y3⟩
      exact h.cho y (Nat.zero_le _) y1 y2 y3
    rw [Net.go_eq hc, firstU_of h3 h4 fun j hj => h5 j (Nat.zero_le _) hj]
    simp only [hs, cond_false]
theorem Net.go_stuck {n : Net} {co : List Int} {y : Nat} (hy : y < co.length) (hu : co.getD y 0 = -1) (h : (n.choices co y).length = 0) (hc : ∀ x, ∀ h ∈ n.cand x, 0 ≤ h) : n.go co = [] := by
  have hs : n.stuck co = true := Net.stuck_iff.2 ⟨y, hy, hu, List.eq_nil_of_length_eq_zero h⟩
  rw [Net.go_eq hc]
  cases e : firstU co with
  | none => exact absurd hu (firstU_none e y hy)
  | some x => simp only [hs, cond_true]
theorem GT.regionDB {P : Program} {N : Nat} {Q : Exit → Slots → GHeap → Prop} {fr : Slots} {Hb H : GHeap} {id : Nat} {ops : Array Oper} (hm : P.follows .mixedOrders = true) (t : Tree) (hok : (ctxOf ops).ok [] false t = true) (hb : Hb.Le H) (h : GTree P N ops (fun fr' H' => Q .normal fr' H') t fr Hb H) :
    GT P N (.region id ops true) Q fr H := fun B w0 ρ a w hs hf => by
  refine wp_region_any hm ?_
  refine tree_sound (ρ0 := ρ) (fun ρ' fr' H' a' w' hQ he hs' hf' => ⟨ρ', fr', H', hQ, he, hs', hf'⟩) ops.size t [] fr Hb H ρ _ a _ ⟨hok, h, hb, .refl ρ, hs.drew, hf.1, hf.2.1, by simp, fun i hi => ?_, fun i hi => ?_, .nil, (fun i hi => by cases hi), (fun i hi => by cases hi), fun s v hv _ => hf.2.2 s v hv, (fun j hj => by cases hj)⟩ ?_
  · unfold lis at hi
    simp [Array.getD_eq_getD_getElem?, Array.getElem?_replicate] at hi
    split at hi <;> simp at hi
  · unfold lis at hi
    simp [Array.getD_eq_getD_getElem?, Array.getElem?_replicate] at hi
    split at hi <;> simp at hi
  · unfold left
    exact Nat.le_trans (List.length_filter_le _ _) (by simp)
theorem GHeap.get_erase {H : GHeap} {g k : Nat} {o : GObj} (h : (H.set g none).get k = some o) : k ≠ g ∧ H.get k = some o := by
  by_cases e : g = k
  · subst e
    by_cases hl : g < H.next
    · rw [GHeap.get_set_eq hl] at h; cases h
    · have := GHeap.lt_of_get h
      rw [GHeap.next_set] at this
      exact absurd this hl
  · rw [GHeap.get_set_ne e] at h
    exact ⟨Ne.symm e, h⟩
theorem GHeap.le_erase (H : GHeap) (g : Nat) : (H.set g none).Le H := ⟨by rw [GHeap.next_set]; exact Nat.le_refl _, fun _ _ h => (GHeap.get_erase h).2⟩
theorem GHeap.Le.erase_st {H0 H1 H2 : GHeap} {g : Nat} (h : (H0.set g none).Le H1) (s : St [g] H1 H2) : (H0.set g none).Le H2 := ⟨Nat.le_trans h.1 s.nx, fun k o hk => s.same k o ⟨(GHeap.get_erase hk).1, trivial⟩ (h.2 k o hk)⟩
theorem GHeap.get_erase_of {H : GHeap} {g k : Nat} {o : GObj} (h : H.get k = some o) (hk : k ≠ g) : (H.set g none).get k = some o := by rw [GHeap.get_set_ne (Ne.symm hk)]; exact h
theorem SlO.neR {b gF : Nat} {H : GHeap} {a : Option Addr} {cs : List Value} {e e' : TypeId} {r : Nat → Option Addr} {fs : List (List Int)} (h : SlO b H a gF cs e fs.length) (ho : OwnL b H e' r fs) (hne : (e' != e) = true) : ∀ i, i < fs.length → r i ≠ some ⟨gF, 0, none⟩ := by
  rcases h with ⟨_, h, _⟩ | ⟨_, _, h⟩
  · intro i hi; omega
  · exact ho.neT h hne
theorem foldG_more {α β : Type} {fs : List β} {C : List α} {G : α → List β} {k M : Nat} {d : α} (hk : k < C.length) (h : ((fs ++ (C.take k).flatMap G).take M).length < M) : ((fs ++ (C.take k).flatMap G).take M ++ G (C.getD k d)).take M = (fs ++ (C.take (k + 1)).flatMap G).take M := by
  have e : (C.take (k + 1)).flatMap G = (C.take k).flatMap G ++ G (C.getD k d) := by
    rw [List.take_add_one, List.getElem?_eq_getElem hk, List.flatMap_append, List.getD_eq_getElem?_getD, List.getElem?_eq_getElem hk]
    simp
  rw [take_more h, e, List.append_assoc]
theorem foldG_done {α β : Type} {fs : List β} {C : List α} {G : α → List β} {k M : Nat} (h : k = C.length ∨ ¬ ((fs ++ (C.take k).flatMap G).take M).length < M) : (fs ++ (C.take k).flatMap G).take M = (fs ++ C.flatMap G).take M := by
  rcases h with h | h
  · subst h; rw [List.take_length]
  · have e : C.flatMap G = (C.take k).flatMap G ++ (C.drop k).flatMap G := by rw [← List.flatMap_append, List.take_append_drop]
    rw [e, ← List.append_assoc, take_full h]
theorem rangeS {α : Type} {f : Nat → α} {n : Nat} : (List.range (n + 1)).map f = (List.range n).map f ++ [f n] := by rw [List.range_succ, List.map_append]; rfl
/-- The ends of the arrows. -/
def Cat.endL (c : Cat) (n : Nat) : List (List Int) := (List.range n).map fun a => [c.src.getD a 0, c.tgt.getD a 0]
@[simp] theorem Cat.length_endL (c : Cat) (n : Nat) : (c.endL n).length = n := by simp [endL]
theorem Cat.endL_succ {c : Cat} {n : Nat} : c.endL (n + 1) = c.endL n ++ [[c.src.getD n 0, c.tgt.getD n 0]] := rangeS
theorem Cat.endL_get {c : Cat} {n i : Nat} (h : i < n) : (c.endL n).getD i [] = [c.src.getD i 0, c.tgt.getD i 0] := by simp [endL, List.getD_eq_getElem?_getD, h]
/-- Where a search for one component begins. -/
def startL (cls : List Int) (x y : Nat) : List Int := (List.range y).map fun i => if cls.getD i 0 = (x : Int) then -1 else -2
@[simp] theorem length_startL (cls : List Int) (x y : Nat) : (startL cls x y).length = y := by simp [startL]
theorem startL_T {cls : List Int} {x y : Nat} (h : cls.getD y 0 = (x : Int)) : startL cls x (y + 1) = startL cls x y ++ [-1] := by unfold startL; rw [rangeS, if_pos h]
theorem startL_F {cls : List Int} {x y : Nat} (h : ¬ cls.getD y 0 = (x : Int)) : startL cls x (y + 1) = startL cls x y ++ [-2] := by unfold startL; rw [rangeS, if_neg h]
theorem startL_get {cls : List Int} {x n y : Nat} (h : y < n) : (startL cls x n).getD y 0 = -1 ∨ (startL cls x n).getD y 0 < 0 := by
  have : (startL cls x n).getD y 0 = if cls.getD y 0 = (x : Int) then -1 else -2 := by simp [startL, List.getD_eq_getElem?_getD, h]
  rw [this]
  split
  · exact .inl rfl
  · exact .inr (by omega)
theorem Net.sols_nil {n : Net} {N x : Nat} (g : n.Good N) {cls : List Int} (h : n.go (startL cls x N) = []) : n.sols N = [] := by
  cases e : n.sols N with
  | nil => rfl
  | cons q l =>
    have hq : q ∈ n.sols N := by rw [e]; simp
    obtain ⟨h1, h2, h3⟩ := (Net.mem_sols g).1 hq
    exact absurd h (Net.go_some g h2 h3 rfl (length_startL _ _ _) fun y hy => (startL_get hy).imp id fun h => .inl h)
theorem SlO.intssr {b gF : Nat} {H : GHeap} {a : Option Addr} {e e' : TypeId} {r : Nat → Option Addr} {fs : List (List Int)} (h : SlO b H a gF (slsL r fs) e fs.length) (ho : OwnL b H e' r fs) : IntssR b H a fs r := by
  rcases h with ⟨rfl, h, _⟩ | ⟨rfl, h1, h2⟩
  · rw [List.eq_nil_of_length_eq_zero h]; exact .nil _ _ _
  · exact ho.done h2 h1
theorem take_one_nil {α : Type} {l : List α} (h : (l.take 1).length = 0) : l = [] := by
  cases l with
  | nil => rfl
  | cons a l => simp at h
theorem startL_lt {cls : List Int} {x n i m : Nat} (h : i < n) : (startL cls x n).getD i 0 < (m : Int) := by
  rcases startL_get (cls := cls) (x := x) h with h | h <;> omega
theorem repl_lt {n i m : Nat} (h : i < n) : (List.replicate n (-1 : Int)).getD i 0 < (m : Int) := by
  rw [List.getD_eq_getElem?_getD, List.getElem?_replicate, if_pos h]
  show (-1 : Int) < m
  omega
end Go.GL
/- The search for transformations. No condition but those of each statement. -/
namespace Go.Proofs.Ytpmjlhbglcaokaa
open Go Go.GL Go.RowKit Go.Proofs
theorem fo_122_4_Hb : fieldOff Try.prog 122 4 = some 26 := by kernel_rfl
theorem fo_122_3_Hb : fieldOff Try.prog 122 3 = some 25 := by kernel_rfl
theorem on_3_Hb : oneT Try.prog 3 = true := by kernel_rfl
/-- What a search does. -/
def GoSpec (f : Fun) (p : FunP) (k : Fun) (q : FunP) (iso : Bool) (M : Nat) (H0 : GHeap) (m : Nat) : Prop :=
  ∀ (gs gF gc b N : Nat) (co : List Int) (fs : List (List Int)) (H : GHeap), cntU co = m → H0.Le H → H0.next ≤ gs → H0.next ≤ gF → gs ≠ gF → gc ≠ gs → gc ≠ gF → gF < H.next → b ≤ H.next → H.get gc = some (.row (ints co) 2 true) → co.length = N → N = f.ob.length →
    (∀ i, i < N → co.getD i 0 < f.t.src.length) → FoundAt 122 22 2 b H gs gF f p k q iso M fs → fs.length < M →
    GCalls Try.prog 99 [.pointer (some ⟨gs, 0, none⟩), .slice (some ⟨gc, 0, none⟩) N N] H (fun _ H' => ∃ gF', (gF' = gF ∨ H.next ≤ gF') ∧ St [gs, gF] H H' ∧ gF' < H'.next ∧ FoundAt 122 22 2 b H' gs gF' f p k q iso M ((fs ++ (f.net k iso).go co).take M))
set_option maxHeartbeats 4000000 in
theorem l07Go_c {f k : Fun} {p q : FunP} {iso : Bool} {M : Nat} {H0 : GHeap} (hin : f.In H0 p) (hin1 : k.In H0 q) (hP : f.Par k) (hM : M ≤ 1048576) (m : Nat) : GoSpec f p k q iso M H0 m := by
  refine Nat.strongRecOn (motive := GoSpec f p k q iso M H0) m (fun m ih => ?_)
  intro gs gF gc b N co fs H hm hle0 n1 n2 n3 n4 n5 n6 n7 hgc hl hN hco hFA hfs
  subst hl
  obtain ⟨af, r, hst, hSl, hOw⟩ := hFA.ex
  have hpos := (hP.fi.good k iso).pos
  have hol := hP.fi.2.2.ol
  have hob := hP.fi.1.1.obj
  have hn40 := hP.fi.2.1.1.n40
  have hfl : (slsL r fs).length = fs.length := length_slsL _ _
  refine GCalls.body (N := 75) (rs := []) Try.func99 rfl rfl rfl rfl (fun Qx hret hend => ?_)
  refine .forget (fr' := [(0, some _), (1, some _)]) ⟨rfl, rfl, trivial⟩ ?_
  have lt_hst := GHeap.lt_of_get hst
  have lt_hgc := GHeap.lt_of_get hgc
  have hfo := St.refl [gs, gF] H
  have hgr := St.refl [] H
  have hz := hle0.st hfo (fun k hk => ⟨by omega, by omega, trivial⟩)
  have hi1 := hin.mono hz
  have hi2 := hin1.mono hz
  have hst0 := hst
  refine .seq (fun K1 hK1 => ?_)
  refine .region (.m rfl rfl rfl (.assign rfl) (.nil ?_))
  refine hK1 _ _ ?_
  refine .seq (fun K2 hK2 => ?_)
  refine .seq (fun K3 hK3 => ?_)
  refine .region (.m rfl rfl rfl (.move rfl) (.m rfl rfl rfl (.len sl_22_A rfl) ?_))
  refine .m rfl rfl rfl (.sub rfl rfl rfl (by omega) (by omega)) ?_
  refine .m rfl rfl rfl (.assign rfl) (.nil ?_)
  refine hK3 _ _ ?_
  refine .block ?_
  refine .loopR (σ := Nat × Int) [(0, some _), (1, some _)] (fun (y, x) => [(5, some (.int .i64 ((y : Int) - 1))), (4, some (.int .i64 x))]) (fun (y, x) H' => St [] H H' ∧ y ≤ co.length ∧ SeenU (f.net k iso) co y x) (fun (y, x) => y) ((co.length, -1)) ⟨rfl, rfl, trivial⟩ ⟨rfl, rfl, trivial⟩ ?_ ?_
  ·
   refine ⟨.refl _ _, ?_⟩
   exact ⟨Nat.le_refl _, .start _ _⟩
  rintro ⟨y, x⟩ HL1 ⟨lst1, hI⟩ KL1 hKL1
  refine .forget (fr' := [(5, some (.int .i64 ((y : Int) - 1))), (4, some (.int .i64 x)), (0, some _), (1, some _)]) ⟨rfl, rfl, rfl, rfl, trivial⟩ ?_
  have nx_HL1 := lst1.nx
  replace hfo := hfo.st lst1 (fun k hk ho => by simp only [out, and_true] at ho ⊢ <;> omega)
  replace hgr := hgr.st lst1 (fun k hk ho => by simp only [out, and_true] at ho ⊢ <;> omega)
  replace hst := lst1.same _ _ trivial hst
  replace hgc := lst1.same _ _ trivial hgc
  clear hz hi1 hi2
  have hz := hle0.st hfo (fun k hk => ⟨by omega, by omega, trivial⟩)
  have hi1 := hin.mono hz
  have hi2 := hin1.mono hz
  obtain ⟨hy, hU⟩ := hI
  refine .seq (fun K4 hK4 => ?_)
  refine .seq (fun K5 hK5 => ?_)
  refine .region (.m rfl rfl rfl (.move rfl) (.m rfl rfl rfl (.cmp rfl rfl rfl) (.nil ?_)))
  refine hK5 _ _ ?_
  refine .cond rfl (fun h13 => ?_) (fun h13 => ?_)
  ·
   simp only [sps] at h13
   obtain ⟨y', rfl⟩ : ∃ y', y = y' + 1 := ⟨y - 1, by omega⟩
   have e8 : ((y' + 1 : Nat) : Int) - 1 = (y' : Int) := by omega
   rw [e8]
   refine .skip ?_
   refine hK4 _ _ ?_
   refine .seq (fun K6 hK6 => ?_)
   refine .block ?_
   refine .seq (fun K7 hK7 => ?_)
   refine .region (.m rfl rfl rfl (.move rfl) (.m rfl rfl rfl (.move rfl) ?_))
   refine .m rfl rfl rfl (.idxN sl_22_A (by first | assumption | exact SlA.of_row hgc (by first | rfl | (simp; done) | (simp <;> omega))) rfl rfl (by omega)) ?_
   refine .m rfl rfl rfl (.loadI on_2_A (by first | assumption | exact Ints.of_get hgc) rfl (by omega)) ?_
   refine .m rfl rfl rfl (.cmp rfl rfl rfl) (.nil ?_)
   refine hK7 _ _ ?_
   refine .cond rfl (fun h20 => ?_) (fun h20 => ?_)
   ·
    simp only [sps] at h20
    refine .seq (fun K8 hK8 => ?_)
    refine .region (.m rfl rfl rfl (.move rfl) (.m rfl rfl rfl (.assign rfl) (.nil ?_)))
    refine hK8 _ _ ?_
    refine .seq (fun K9 hK9 => ?_)
    refine .region (.m rfl rfl rfl (.move rfl) (.m rfl rfl rfl (.move rfl) (.m rfl rfl rfl (.move rfl) ?_)))
    refine .call rfl rfl rfl rfl @Try.call107 rfl (l07Choices_c (iso := iso) (x := y') (Mem.of_get hst) hi1 hi2 (Ints.of_get hgc) hP hN (by omega) hco) ?_
    rintro _ H25 ⟨le25, g25, rfl, at25, ge25⟩
    have nx_H25 := le25.1
    replace hfo := hfo.le le25
    replace hgr := hgr.le le25
    replace lst1 := lst1.le le25
    replace hst := le25.2 _ _ hst
    replace hgc := le25.2 _ _ hgc
    have lt_at25 := GHeap.lt_of_get at25
    clear hz hi1 hi2
    have hz := hle0.st hfo (fun k hk => ⟨by omega, by omega, trivial⟩)
    have hi1 := hin.mono hz
    have hi2 := hin1.mono hz
    have i25 := Ints.of_get at25
    refine .m rfl rfl rfl (.len sl_22_A rfl) (.m rfl rfl rfl (.cmp rfl rfl rfl) (.nil ?_))
    refine hK9 _ _ ?_
    refine .cond rfl (fun h27 => ?_) (fun h27 => ?_)
    ·
     simp only [sps] at h27
     refine .ret ?_
     refine hret _ _ ?_
     rw [Net.go_stuck (by omega) h20 (by omega) hpos, take_less hfs]
     exact ⟨gF, .inl rfl, hfo, by omega, hFA.mono hgr.le_of_nil⟩
    simp only [sps] at h27
    refine .skip ?_
    refine hK6 _ _ ?_
    refine .region (.m rfl rfl rfl (.move rfl) ?_)
    refine .m rfl rfl rfl (.sub (r := (y' : Int) - 1) rfl rfl (by omega) (by omega) (by omega)) ?_
    refine .m rfl rfl rfl (.assign rfl) (.nil ?_)
    refine hKL1 ((y', _)) _ _ ?_ ?_ ⟨rfl, rfl, rfl, rfl, trivial⟩
    ·
     refine ⟨lst1, ?_⟩
     first
     | exact ⟨by omega, hU.hit (by omega) h20 (by omega)⟩
     | exact ⟨by omega, hU.miss h20⟩
    (dsimp only; omega)
   simp only [sps] at h20
   refine .skip ?_
   refine hK6 _ _ ?_
   refine .region (.m rfl rfl rfl (.move rfl) ?_)
   refine .m rfl rfl rfl (.sub (r := (y' : Int) - 1) rfl rfl (by omega) (by omega) (by omega)) ?_
   refine .m rfl rfl rfl (.assign rfl) (.nil ?_)
   refine hKL1 ((y', _)) _ _ ?_ ?_ ⟨rfl, rfl, rfl, rfl, trivial⟩
   ·
    refine ⟨lst1, ?_⟩
    first
    | exact ⟨by omega, hU.hit (by omega) h20 (by omega)⟩
    | exact ⟨by omega, hU.miss h20⟩
   (dsimp only; omega)
  simp only [sps] at h13
  obtain rfl : y = 0 := by omega
  refine .exit ?_
  refine hK2 _ _ ?_
  refine .seq (fun K10 hK10 => ?_)
  refine .seq (fun K11 hK11 => ?_)
  refine .region (.m rfl rfl rfl (.move rfl) (.m rfl rfl rfl (.cmp rfl rfl rfl) (.nil ?_)))
  refine hK11 _ _ ?_
  refine .cond rfl (fun h29 => ?_) (fun h29 => ?_)
  ·
   simp only [sps] at h29
   have hgo := hU.none h29 hpos
   refine .seq (fun K12 hK12 => ?_)
   refine .regionDB mixed_orders_B (.q 0 (.q 1 (.q 2 (.q 3 (.q 4 (.q 5 (.c 6 1 (.c 7 1 (.c 8 1 (.q 9 (.q 10 (.c 11 0 (.done))))))))))))) (by kernel_rfl) (GHeap.le_erase HL1 gF) ?_
   have hbl := GHeap.le_erase HL1 gF
   have hstB := GHeap.get_erase_of hst n3
   refine .mB rfl rfl rfl rfl hbl (.move rfl) ?_
   refine .mB rfl rfl rfl rfl hbl (.move rfl) ?_
   refine .mB rfl rfl rfl rfl hbl (.nilCheck rfl) ?_
   refine .mB rfl rfl rfl rfl hbl (.fieldAddr fo_122_4_Hb rfl) ?_
   refine .mB rfl rfl rfl rfl hbl (.load on_23_B rfl (Mem.of_get hstB 26 _ rfl)) ?_
   refine .mB rfl rfl rfl rfl hbl (.move rfl) ?_
   refine .call1 rfl rfl rfl rfl rfl @Try.call108 rfl (l01Own_c (Ints.of_get hgc)) ?_
   rintro _ H36 ⟨le36, g36, rfl, at36, ge36⟩
   replace hbl := hbl.trans le36
   refine ⟨hbl, ?_⟩
   have nx_H36 := le36.1
   replace hfo := hfo.le le36
   replace hgr := hgr.le le36
   replace lst1 := lst1.le le36
   replace hst := le36.2 _ _ hst
   replace hgc := le36.2 _ _ hgc
   have lt_at36 := GHeap.lt_of_get at36
   clear hz hi1 hi2
   have hz := hle0.st hfo (fun k hk => ⟨by omega, by omega, trivial⟩)
   have hi1 := hin.mono hz
   have hi2 := hin1.mono hz
   have i36 := Ints.of_get at36
   refine .c1 rfl rfl rfl rfl (.litR rfl sl_23_B ze_22_E rfl rfl (by omega) (by omega) rfl rfl) ?_
   rintro _ H37 ⟨g37, rfl, le37, ge37, at37⟩
   replace hbl := hbl.trans le37
   refine ⟨hbl, ?_⟩
   have nx_H37 := le37.1
   replace hfo := hfo.le le37
   replace hgr := hgr.le le37
   replace lst1 := lst1.le le37
   replace hst := le37.2 _ _ hst
   replace hgc := le37.2 _ _ hgc
   replace at36 := le37.2 _ _ at36
   have lt_at37 := GHeap.lt_of_get at37
   clear hz hi1 hi2
   have hz := hle0.st hfo (fun k hk => ⟨by omega, by omega, trivial⟩)
   have hi1 := hin.mono hz
   have hi2 := hin1.mono hz
   clear i36
   have i36 := Ints.of_get at36
   have hSl2 := hSl.mono hgr.le_of_nil
   refine .c1 rfl rfl rfl rfl (.appendVO rfl sl_23_B ze_22_E rfl by_22_E sl_23_B rfl rfl hSl2 (by assumption) (by simp) (by omega) rfl rfl (by omega) (by omega)) ?_
   rintro _ H38 ⟨g38, rfl, st38, ge38, at38⟩
   refine ⟨(hbl.erase_st st38), ?_⟩
   have nx_H38 := st38.nx
   replace hfo := hfo.st st38 (fun k hk ho => by simp only [out, and_true] at ho ⊢ <;> omega)
   replace hst := st38.same _ _ ⟨by omega, trivial⟩ hst
   replace hgc := st38.same _ _ ⟨by omega, trivial⟩ hgc
   replace at36 := st38.same _ _ ⟨by omega, trivial⟩ at36
   replace at37 := st38.same _ _ ⟨by omega, trivial⟩ at37
   have lt_at38 := GHeap.lt_of_get at38
   clear hz hi1 hi2
   have hz := hle0.st hfo (fun k hk => ⟨by omega, by omega, trivial⟩)
   have hi1 := hin.mono hz
   have hi2 := hin1.mono hz
   clear i36
   have i36 := Ints.of_get at36
   replace hbl := hbl.erase_st st38
   refine .mB rfl rfl rfl rfl hbl (.nilCheck rfl) ?_
   refine .mB rfl rfl rfl rfl hbl (.fieldAddr fo_122_4_Hb rfl) ?_
   refine .r0 rfl rfl rfl (.storeR rfl sz_23_E rfl rfl rfl (by assumption) (by first | exact Nat.le_of_ble_eq_true rfl | (simp; done) | (simp <;> omega))) ?_
   rintro _ H8011 ⟨rfl, st8011, at8011⟩
   have nx_H8011 := st8011.nx
   replace hfo := hfo.st st8011 (fun k hk ho => by simp only [out, and_true] at ho ⊢ <;> omega)
   replace hgc := st8011.same _ _ ⟨by omega, trivial⟩ hgc
   replace at36 := st8011.same _ _ ⟨by omega, trivial⟩ at36
   replace at37 := st8011.same _ _ ⟨by omega, trivial⟩ at37
   replace at38 := st8011.same _ _ ⟨by omega, trivial⟩ at38
   have lt_at8011 := GHeap.lt_of_get at8011
   clear hz hi1 hi2
   have hz := hle0.st hfo (fun k hk => ⟨by omega, by omega, trivial⟩)
   have hi1 := hin.mono hz
   have hi2 := hin1.mono hz
   clear i36
   have i36 := Ints.of_get at36
   try simp only [Nat.zero_add, List.set_cons_succ, List.set_cons_zero] at at8011
   refine .done ?_
   refine hK12 _ _ ?_
   refine .ret ?_
   refine hret _ _ ?_
   have hw1 := hSl.neR hOw rfl
   have hw2 := hOw.st hfo (.cons (hOw.neT hst0 rfl) (.cons hw1 (.nil _ _)))
   have hw3 := hw2.snoc2 at36 (hOw.ne (by omega)) (by omega)
   have hfl2 : (fs ++ [co]).length = fs.length + 1 := by simp
   rw [hgo, take_one hfs]
   exact ⟨g38, .inr (by omega), hfo, by omega, ⟨⟨_, _, by rw [hfl2]; exact at8011, .inr ⟨rfl, by omega, by rw [slsL_snoc]; exact at38⟩, hw3⟩⟩⟩
  simp only [sps] at h29
  obtain ⟨m', rfl, hm1, hm2, hgo⟩ := hU.some (by omega) hpos
  refine .skip ?_
  refine hK10 _ _ ?_
  refine .seq (fun K13 hK13 => ?_)
  refine .region (.m rfl rfl rfl (.move rfl) (.m rfl rfl rfl (.move rfl) (.m rfl rfl rfl (.move rfl) ?_)))
  refine .call rfl rfl rfl rfl @Try.call107 rfl (l07Choices_c (iso := iso) (x := m') (Mem.of_get hst) hi1 hi2 (Ints.of_get hgc) hP hN (by omega) hco) ?_
  rintro _ H44 ⟨le44, g44, rfl, at44, ge44⟩
  have nx_H44 := le44.1
  replace hfo := hfo.le le44
  replace hgr := hgr.le le44
  replace lst1 := lst1.le le44
  replace hst := le44.2 _ _ hst
  replace hgc := le44.2 _ _ hgc
  have lt_at44 := GHeap.lt_of_get at44
  clear hz hi1 hi2
  have hz := hle0.st hfo (fun k hk => ⟨by omega, by omega, trivial⟩)
  have hi1 := hin.mono hz
  have hi2 := hin1.mono hz
  have i44 := Ints.of_get at44
  refine .m rfl rfl rfl (.assign rfl) (.nil ?_)
  refine hK13 _ _ ?_
  refine .seq (fun K14 hK14 => ?_)
  refine .region ?_
  have hcl := Fun.choices_le f k iso co m'
  refine .m rfl rfl rfl (.assign rfl) (.nil ?_)
  refine hK14 _ _ ?_
  refine .block ?_
  refine .loopR (σ := Nat × Nat) [(0, some _), (1, some _), (4, some _), (6, some _)] (fun (j, gV) => [(7, some (.int .i64 (j : Int)))]) (fun (j, gV) H' => St [gs, gF] H44 H' ∧ j ≤ ((f.net k iso).choices co m').length ∧ (gV = gF ∨ H44.next ≤ gV) ∧ gV < H'.next ∧ FoundAt 122 22 2 b H' gs gV f p k q iso M ((fs ++ (((f.net k iso).choices co m').take j).flatMap fun h => (f.net k iso).go (co.set m' h)).take M)) (fun (j, gV) => ((f.net k iso).choices co m').length - j) ((0, gF)) ⟨rfl, rfl, rfl, rfl, trivial⟩ ⟨rfl, trivial⟩ ?_ ?_
  ·
   refine ⟨.refl _ _, ?_⟩
   refine ⟨by omega, .inl rfl, by omega, ?_⟩
   rw [List.take_zero, List.flatMap_nil, take_less hfs]
   exact hFA.mono (hgr.le_of_nil)
  rintro ⟨j, gV⟩ HL2 ⟨lst2, hI⟩ KL2 hKL2
  refine .forget (fr' := [(7, some (.int .i64 (j : Int))), (0, some _), (1, some _), (4, some _), (6, some _)]) ⟨rfl, rfl, rfl, rfl, rfl, trivial⟩ ?_
  have nx_HL2 := lst2.nx
  replace hfo := hfo.st lst2 (fun k hk ho => by simp only [out, and_true] at ho ⊢ <;> omega)
  replace hgc := lst2.same _ _ ⟨by omega, by omega, trivial⟩ hgc
  replace at44 := lst2.same _ _ ⟨by omega, by omega, trivial⟩ at44
  clear hz hi1 hi2
  have hz := hle0.st hfo (fun k hk => ⟨by omega, by omega, trivial⟩)
  have hi1 := hin.mono hz
  have hi2 := hin1.mono hz
  clear i44
  have i44 := Ints.of_get at44
  have rk := St.refl [] HL2
  obtain ⟨hj, hgV, hgl, hFV⟩ := hI
  obtain ⟨af2, r2, e1, _, _⟩ := hFV.ex
  have c25 : GHeap.cell HL2 gs (0 + 25) = some (.int .i64 (M : Int)) := Mem.of_get e1 25 _ rfl
  have c26 : GHeap.cell HL2 gs (0 + 26) = some (.slice af2 _ _) := Mem.of_get e1 26 _ rfl
  refine .seq (fun K15 hK15 => ?_)
  refine .seq (fun K16 hK16 => ?_)
  refine .regionD mixed_orders_B (.q 0 (.q 1 (.q 2 (.q 3 (.q 4 (.q 5 (.q 6 (.q 7 (.q 8 (.q 9 (.q 10 (.q 11 (.q 12 (.q 13 (.q 14 (.q 15 (.done))))))))))))))))) (by kernel_rfl) ?_
  refine .m rfl rfl rfl rfl (.refl _) (.move rfl) (.m rfl rfl rfl rfl (.refl _) (.move rfl) (.m rfl rfl rfl rfl (.refl _) (.len sl_22_A rfl) (.m rfl rfl rfl rfl (.refl _) (.cmp rfl rfl rfl) ?_)))
  refine .m rfl rfl rfl rfl (.refl _) (.move rfl) ?_
  refine .split (fun h49 => ?_) (fun h49 => ?_)
  ·
   simp only [sps] at h49
   refine .mg rfl rfl rfl rfl rfl rfl (.refl _) (.move rfl) (.mg rfl rfl rfl rfl rfl rfl (.refl _) (.nilCheck rfl) (.mg rfl rfl rfl rfl rfl rfl (.refl _) (.fieldAddr fo_122_4_Hb rfl) ?_))
   refine .mg rfl rfl rfl rfl rfl rfl (.refl _) (.load on_23_B rfl (by assumption)) ?_
   refine .mg rfl rfl rfl rfl rfl rfl (.refl _) (.len sl_23_B rfl) (.mg rfl rfl rfl rfl rfl rfl (.refl _) (.move rfl) (.mg rfl rfl rfl rfl rfl rfl (.refl _) (.nilCheck rfl) (.mg rfl rfl rfl rfl rfl rfl (.refl _) (.fieldAddr fo_122_3_Hb rfl) ?_)))
   refine .mg rfl rfl rfl rfl rfl rfl (.refl _) (.load on_3_Hb rfl (by assumption)) ?_
   refine .mg rfl rfl rfl rfl rfl rfl (.refl _) (.cmp rfl rfl rfl) (.m rfl rfl rfl rfl (.refl _) (.pickT rfl rfl) ?_)
   refine .done ?_
   refine hK16 _ _ ?_
   refine .cond rfl (fun h60 => ?_) (fun h60 => ?_)
   ·
    simp only [sps] at h60
    refine .skip ?_
    refine hK15 _ _ ?_
    refine .seq (fun K17 hK17 => ?_)
    refine .block ?_
    refine .seq (fun K18 hK18 => ?_)
    refine .region (.m rfl rfl rfl (.move rfl) ?_)
    refine .call rfl rfl rfl rfl @Try.call108 rfl (l01Own_c (Ints.of_get hgc)) ?_
    rintro _ H64 ⟨le64, g64, rfl, at64, ge64⟩
    have nx_H64 := le64.1
    replace hfo := hfo.le le64
    replace lst2 := lst2.le le64
    replace rk := rk.le le64
    replace hgc := le64.2 _ _ hgc
    replace at44 := le64.2 _ _ at44
    have lt_at64 := GHeap.lt_of_get at64
    clear hz hi1 hi2
    have hz := hle0.st hfo (fun k hk => ⟨by omega, by omega, trivial⟩)
    have hi1 := hin.mono hz
    have hi2 := hin1.mono hz
    clear i44
    have i44 := Ints.of_get at44
    have i64 := Ints.of_get at64
    refine .m rfl rfl rfl (.assign rfl) (.nil ?_)
    refine hK18 _ _ ?_
    refine .seq (fun K19 hK19 => ?_)
    refine .region (.m rfl rfl rfl (.move rfl) (.m rfl rfl rfl (.move rfl) (.m rfl rfl rfl (.move rfl) ?_)))
    refine .m rfl rfl rfl (.move rfl) ?_
    refine .m rfl rfl rfl (.idxN sl_22_A (by first | assumption | exact SlA.of_row at44 (by first | rfl | (simp; done) | (simp <;> omega))) rfl rfl (by omega)) ?_
    refine .m rfl rfl rfl (.loadI on_2_A (by first | assumption | exact Ints.of_get at44) rfl (by omega)) ?_
    refine .m rfl rfl rfl (.idxN sl_22_A (by first | assumption | exact SlA.of_row at64 (by first | rfl | (simp; done) | (simp <;> omega))) rfl rfl (by omega)) ?_
    refine .r0 rfl rfl (.storeI rfl sz_2_E rfl rfl (by assumption) (by first | omega | (simp <;> omega))) ?_
    rintro _ H14007 ⟨rfl, st14007, at14007⟩
    have nx_H14007 := st14007.nx
    replace hfo := hfo.st st14007 (fun k hk ho => by simp only [out, and_true] at ho ⊢ <;> omega)
    replace lst2 := lst2.st st14007 (fun k hk ho => by simp only [out, and_true] at ho ⊢ <;> omega)
    replace rk := rk.st st14007 (fun k hk ho => by simp only [out, and_true] at ho ⊢ <;> omega)
    replace hgc := st14007.same _ _ ⟨by omega, trivial⟩ hgc
    replace at44 := st14007.same _ _ ⟨by omega, trivial⟩ at44
    have lt_at14007 := GHeap.lt_of_get at14007
    clear hz hi1 hi2
    have hz := hle0.st hfo (fun k hk => ⟨by omega, by omega, trivial⟩)
    have hi1 := hin.mono hz
    have hi2 := hin1.mono hz
    clear i44
    have i44 := Ints.of_get at44
    clear i64
    have i64 := Ints.of_get at64
    rw [Nat.zero_add] at at14007
    refine .nil ?_
    refine hK19 _ _ ?_
    refine .region (.m rfl rfl rfl (.move rfl) (.m rfl rfl rfl (.move rfl) ?_))
    have hhm := getD_mem_list (d := (0 : Int)) (show j < ((f.net k iso).choices co m').length by omega)
    obtain ⟨a', ha1, _, _, ha4⟩ := Fun.choices_hom hhm
    have hcn := cntU_set hm1 hm2 (h := ((f.net k iso).choices co m').getD j 0) (by omega)
    have hcs : ∀ i, i < co.length → (co.set m' (((f.net k iso).choices co m').getD j 0)).getD i 0 < f.t.src.length := fun i hi => by
      rw [getD_set (by omega)]
      split
      · omega
      · exact hco i hi
    refine .call rfl rfl rfl rfl @Try.call99 rfl ((ih (cntU (co.set m' (((f.net k iso).choices co m').getD j 0))) (by omega) gs gV g64 b co.length _ _ _ rfl hz n1 (by omega) (by omega) (by omega) (by omega) (by omega) (by omega) at14007 (by simp) hN hcs (hFV.mono rk.le_of_nil) (by omega))) ?_
    rintro _ H74 ⟨gF74, hg74, st74, hl74, hF74⟩
    have nx_H74 := st74.nx
    replace hfo := hfo.st st74 (fun k hk ho => by simp only [out, and_true] at ho ⊢ <;> omega)
    replace lst2 := lst2.st st74 (fun k hk ho => by simp only [out, and_true] at ho ⊢ <;> omega)
    replace hgc := st74.same _ _ ⟨by omega, by omega, trivial⟩ hgc
    replace at44 := st74.same _ _ ⟨by omega, by omega, trivial⟩ at44
    replace at14007 := st74.same _ _ ⟨by omega, by omega, trivial⟩ at14007
    clear hz hi1 hi2
    have hz := hle0.st hfo (fun k hk => ⟨by omega, by omega, trivial⟩)
    have hi1 := hin.mono hz
    have hi2 := hin1.mono hz
    clear i44
    have i44 := Ints.of_get at44
    clear i64
    have i64 := Ints.of_get at64
    refine .nil ?_
    refine hK17 _ _ ?_
    refine .region (.m rfl rfl rfl (.move rfl) ?_)
    refine .m rfl rfl rfl (.add rfl rfl rfl (by omega) (by omega)) ?_
    refine .m rfl rfl rfl (.assign rfl) (.nil ?_)
    refine hKL2 ((j + 1, gF74)) _ _ ?_ ?_ ⟨rfl, rfl, rfl, rfl, rfl, trivial⟩
    ·
     refine ⟨lst2, ?_⟩
     refine ⟨by omega, by omega, hl74, ?_⟩
     rw [← foldG_more (d := 0) (by omega) (by omega)]
     exact hF74
    (dsimp only; omega)
   simp only [sps] at h60
   refine .exit ?_
   refine hend _ _ ?_
   have hge := foldG_done (M := M) (fs := fs) (C := (f.net k iso).choices co m') (G := fun h => (f.net k iso).go (co.set m' h)) (k := j) (.inr (by omega))
   rw [hgo, ← hge]
   exact ⟨gV, by omega, hfo, hgl, hFV⟩
  simp only [sps] at h49
  refine .sg rfl rfl rfl rfl rfl rfl (.sg rfl rfl rfl rfl rfl rfl (.sg rfl rfl rfl rfl rfl rfl (.sg rfl rfl rfl rfl rfl rfl ?_)))
  refine .sg rfl rfl rfl rfl rfl rfl (.sg rfl rfl rfl rfl rfl rfl (.sg rfl rfl rfl rfl rfl rfl (.sg rfl rfl rfl rfl rfl rfl ?_)))
  refine .sg rfl rfl rfl rfl rfl rfl (.sg rfl rfl rfl rfl rfl rfl (.m rfl rfl rfl rfl (.refl _) (.pickF rfl rfl) ?_))
  refine .done ?_
  refine hK16 _ _ ?_
  refine .condF rfl ?_
  refine .exit ?_
  refine hend _ _ ?_
  have hge := foldG_done (M := M) (fs := fs) (C := (f.net k iso).choices co m') (G := fun h => (f.net k iso).go (co.set m' h)) (k := j) (.inl (by omega))
  rw [hgo, ← hge]
  exact ⟨gV, by omega, hfo, hgl, hFV⟩
end Go.Proofs.Ytpmjlhbglcaokaa
/- The search for transformations, whole. No condition but those of each statement. -/
namespace Go.Proofs.Ytpmjlhbglcaokaa
open Go Go.GL Go.RowKit Go.Proofs
theorem bt_122_Hc : buildT Try.prog 122 = some ([.int .i64 0, .slice none 0 0, .slice none 0 0, .slice none 0 0, .slice none 0 0, .int .i64 0, .slice none 0 0, .slice none 0 0, .slice none 0 0, .slice none 0 0, .slice none 0 0, .slice none 0 0, .int .i64 0, .slice none 0 0, .slice none 0 0, .slice none 0 0, .slice none 0 0, .int .i64 0, .slice none 0 0, .slice none 0 0, .slice none 0 0, .slice none 0 0, .slice none 0 0, .slice none 0 0, .bool false, .int .i64 0, .slice none 0 0], [(0, 12), (12, 12), (24, 1), (25, 1), (26, 1)]) := by kernel_rfl
theorem sz_122_Hc : (Try.prog.info? 122).map (·.size) = some 27 := by kernel_rfl
theorem st_build1 {f k : Fun} {p q : FunP} {iso : Bool} {most : Int} : fillL ([(0, 12), (12, 12), (24, 1), (25, 1), (26, 1)][·]?) [.int .i64 0, .slice none 0 0, .slice none 0 0, .slice none 0 0, .slice none 0 0, .int .i64 0, .slice none 0 0, .slice none 0 0, .slice none 0 0, .slice none 0 0, .slice none 0 0, .slice none 0 0, .int .i64 0, .slice none 0 0, .slice none 0 0, .slice none 0 0, .slice none 0 0, .int .i64 0, .slice none 0 0, .slice none 0 0, .slice none 0 0, .slice none 0 0, .slice none 0 0, .slice none 0 0, .bool false, .int .i64 0, .slice none 0 0] [(0, .agg (f.cells p).toArray), (1, .agg (k.cells q).toArray), (2, .bool iso), (3, .int .i64 most)] = some (stCells f p k q iso most none 0) := by kernel_rfl
theorem st_build2 {f k : Fun} {p q : FunP} {iso : Bool} {most : Int} {a : Option Addr} : fillL ([(0, 12), (12, 12), (24, 1), (25, 1), (26, 1)][·]?) [.int .i64 0, .slice none 0 0, .slice none 0 0, .slice none 0 0, .slice none 0 0, .int .i64 0, .slice none 0 0, .slice none 0 0, .slice none 0 0, .slice none 0 0, .slice none 0 0, .slice none 0 0, .int .i64 0, .slice none 0 0, .slice none 0 0, .slice none 0 0, .slice none 0 0, .int .i64 0, .slice none 0 0, .slice none 0 0, .slice none 0 0, .slice none 0 0, .slice none 0 0, .slice none 0 0, .bool false, .int .i64 0, .slice none 0 0] [(0, .agg (f.cells p).toArray), (1, .agg (k.cells q).toArray), (2, .bool iso), (3, .int .i64 most), (4, .slice a 0 0)] = some (stCells f p k q iso most a 0) := by kernel_rfl
set_option maxHeartbeats 4000000 in
theorem l07Find_c {f k : Fun} {p q : FunP} {iso : Bool} {M : Nat} {H : GHeap} (hin : f.In H p := by assumption) (hin1 : k.In H q := by assumption) (hP : f.Par k) (h1 : 1 ≤ M) (hM : M ≤ 1048576) :
    GCalls Try.prog 89 [.agg (f.cells p).toArray, .agg (k.cells q).toArray, .bool iso, .int .i64 (M : Int)] H (NewIntssR H (((f.net k iso).sols f.ob.length).take M)) := by
  have hs := hP.fi.1.1
  have b1 := hs.n40
  have b2 := hs.tl
  have b3 := hs.obj
  have b4 := hP.fi.2.2.ol
  have hgood := hP.fi.good k iso
  have hjl : (joinL f.ob.length ((f.s.endL f.s.src.length).map fun p => (pA p, pB p))).length = f.ob.length := length_joinL _ _
  refine GCalls.body (N := 105) (rs := [.tmp 8]) Try.func89 rfl rfl rfl rfl (fun Qx hret hend => ?_)
  refine .forget (fr' := [(0, some _), (1, some _), (2, some _), (3, some _)]) ⟨rfl, rfl, rfl, rfl, trivial⟩ ?_
  have hle := GHeap.Le.refl H
  have base_hin := hin
  have base_hin1 := hin1
  refine .seq (fun K1 hK1 => ?_)
  refine .region ?_
  refine .r rfl rfl rfl (.boxR rfl sz_34_E rfl) ?_
  rintro _ H4 ⟨g4, rfl, le4, ge4, at4⟩
  have nx_H4 := le4.1
  replace hle := hle.trans le4
  have lt_at4 := GHeap.lt_of_get at4
  replace hin := base_hin.mono hle
  replace hin1 := base_hin1.mono hle
  have hb4 : Fun.At _ g4 0 f p := ⟨Mem.of_get at4, hin⟩
  obtain ⟨fs4, ft4, c104, c114, j14, j24⟩ := hb4.get
  have hm4 : MemN _ _ _ _ _ := ⟨rfl, hb4.1⟩
  have hi4 := hb4.2
  have hms4 : MemN _ _ _ _ _ := ⟨rfl, fs4.1⟩
  have his4 := fs4.2
  have hmt4 : MemN _ _ _ _ _ := ⟨rfl, ft4.1⟩
  have hit4 := ft4.2
  refine .r rfl rfl rfl (.boxR rfl sz_34_E rfl) ?_
  rintro _ H5 ⟨g5, rfl, le5, ge5, at5⟩
  have nx_H5 := le5.1
  replace hle := hle.trans le5
  replace at4 := le5.2 _ _ at4
  have lt_at5 := GHeap.lt_of_get at5
  replace hin := base_hin.mono hle
  replace hin1 := base_hin1.mono hle
  clear hb4 fs4 ft4 c104 c114 j14 j24 hm4 hi4 hms4 his4 hmt4 hit4
  have hb4 : Fun.At _ g4 0 f p := ⟨Mem.of_get at4, hin⟩
  obtain ⟨fs4, ft4, c104, c114, j14, j24⟩ := hb4.get
  have hm4 : MemN _ _ _ _ _ := ⟨rfl, hb4.1⟩
  have hi4 := hb4.2
  have hms4 : MemN _ _ _ _ _ := ⟨rfl, fs4.1⟩
  have his4 := fs4.2
  have hmt4 : MemN _ _ _ _ _ := ⟨rfl, ft4.1⟩
  have hit4 := ft4.2
  have hb5 : Fun.At _ g5 0 k q := ⟨Mem.of_get at5, hin1⟩
  obtain ⟨fs5, ft5, c105, c115, j15, j25⟩ := hb5.get
  have hm5 : MemN _ _ _ _ _ := ⟨rfl, hb5.1⟩
  have hi5 := hb5.2
  have hms5 : MemN _ _ _ _ _ := ⟨rfl, fs5.1⟩
  have his5 := fs5.2
  have hmt5 : MemN _ _ _ _ _ := ⟨rfl, ft5.1⟩
  have hit5 := ft5.2
  refine .m rfl rfl rfl (.assign rfl) (.nil ?_)
  refine hK1 _ _ ?_
  refine .seq (fun K2 hK2 => ?_)
  refine .region (.m rfl rfl rfl (.fieldAddr fo_34_0_E rfl) ?_)
  refine .m rfl rfl rfl (.loadM ag_32_D rfl (by assumption)) ?_
  refine .r rfl rfl rfl (.allocR rfl ze_32_E rfl) ?_
  rintro _ H9 ⟨g9, rfl, le9, ge9, at9⟩
  have nx_H9 := le9.1
  replace hle := hle.trans le9
  replace at4 := le9.2 _ _ at4
  replace at5 := le9.2 _ _ at5
  have lt_at9 := GHeap.lt_of_get at9
  replace hin := base_hin.mono hle
  replace hin1 := base_hin1.mono hle
  clear hb4 fs4 ft4 c104 c114 j14 j24 hm4 hi4 hms4 his4 hmt4 hit4
  have hb4 : Fun.At _ g4 0 f p := ⟨Mem.of_get at4, hin⟩
  obtain ⟨fs4, ft4, c104, c114, j14, j24⟩ := hb4.get
  have hm4 : MemN _ _ _ _ _ := ⟨rfl, hb4.1⟩
  have hi4 := hb4.2
  have hms4 : MemN _ _ _ _ _ := ⟨rfl, fs4.1⟩
  have his4 := fs4.2
  have hmt4 : MemN _ _ _ _ _ := ⟨rfl, ft4.1⟩
  have hit4 := ft4.2
  clear hb5 fs5 ft5 c105 c115 j15 j25 hm5 hi5 hms5 his5 hmt5 hit5
  have hb5 : Fun.At _ g5 0 k q := ⟨Mem.of_get at5, hin1⟩
  obtain ⟨fs5, ft5, c105, c115, j15, j25⟩ := hb5.get
  have hm5 : MemN _ _ _ _ _ := ⟨rfl, hb5.1⟩
  have hi5 := hb5.2
  have hms5 : MemN _ _ _ _ _ := ⟨rfl, fs5.1⟩
  have his5 := fs5.2
  have hmt5 : MemN _ _ _ _ _ := ⟨rfl, ft5.1⟩
  have hit5 := ft5.2
  refine .r0 rfl rfl (.fillR rfl sz_32_D rfl rfl rfl rfl (by assumption) (by first | rfl | exact Nat.le_of_ble_eq_true rfl | simp)) ?_
  rintro _ H1003 ⟨rfl, st1003, at1003⟩
  have nx_H1003 := st1003.nx
  replace hle := hle.st st1003 (fun k hk => ⟨by omega, trivial⟩)
  replace at4 := st1003.same _ _ ⟨by omega, trivial⟩ at4
  replace at5 := st1003.same _ _ ⟨by omega, trivial⟩ at5
  have lt_at1003 := GHeap.lt_of_get at1003
  replace hin := base_hin.mono hle
  replace hin1 := base_hin1.mono hle
  clear hb4 fs4 ft4 c104 c114 j14 j24 hm4 hi4 hms4 his4 hmt4 hit4
  have hb4 : Fun.At _ g4 0 f p := ⟨Mem.of_get at4, hin⟩
  obtain ⟨fs4, ft4, c104, c114, j14, j24⟩ := hb4.get
  have hm4 : MemN _ _ _ _ _ := ⟨rfl, hb4.1⟩
  have hi4 := hb4.2
  have hms4 : MemN _ _ _ _ _ := ⟨rfl, fs4.1⟩
  have his4 := fs4.2
  have hmt4 : MemN _ _ _ _ _ := ⟨rfl, ft4.1⟩
  have hit4 := ft4.2
  clear hb5 fs5 ft5 c105 c115 j15 j25 hm5 hi5 hms5 his5 hmt5 hit5
  have hb5 : Fun.At _ g5 0 k q := ⟨Mem.of_get at5, hin1⟩
  obtain ⟨fs5, ft5, c105, c115, j15, j25⟩ := hb5.get
  have hm5 : MemN _ _ _ _ _ := ⟨rfl, hb5.1⟩
  have hi5 := hb5.2
  have hms5 : MemN _ _ _ _ _ := ⟨rfl, fs5.1⟩
  have his5 := fs5.2
  have hmt5 : MemN _ _ _ _ _ := ⟨rfl, ft5.1⟩
  have hit5 := ft5.2
  have mm1003 : MemN _ _ _ _ _ := ⟨rfl, Mem.of_get at1003⟩
  have hb9 : Cat.At _ g9 0 f.s p.s := ⟨Mem.of_get at1003, hin.1⟩
  obtain ⟨c09, c19, c29, c39, c49, i19, i29, i39, i49⟩ := hb9.get
  have hm9 : MemN _ _ _ _ _ := ⟨rfl, hb9.1⟩
  have hi9 := hb9.2
  refine .nil ?_
  refine hK2 _ _ ?_
  refine .seq (fun K3 hK3 => ?_)
  refine .region ?_
  refine .r rfl rfl rfl (.litR rfl sl_23_B ze_22_E rfl rfl (by omega) (by omega) rfl rfl) ?_
  rintro _ H21 ⟨g21, rfl, le21, ge21, at21⟩
  have nx_H21 := le21.1
  replace hle := hle.trans le21
  replace at4 := le21.2 _ _ at4
  replace at5 := le21.2 _ _ at5
  replace at1003 := le21.2 _ _ at1003
  have lt_at21 := GHeap.lt_of_get at21
  replace hin := base_hin.mono hle
  replace hin1 := base_hin1.mono hle
  clear hb4 fs4 ft4 c104 c114 j14 j24 hm4 hi4 hms4 his4 hmt4 hit4
  have hb4 : Fun.At _ g4 0 f p := ⟨Mem.of_get at4, hin⟩
  obtain ⟨fs4, ft4, c104, c114, j14, j24⟩ := hb4.get
  have hm4 : MemN _ _ _ _ _ := ⟨rfl, hb4.1⟩
  have hi4 := hb4.2
  have hms4 : MemN _ _ _ _ _ := ⟨rfl, fs4.1⟩
  have his4 := fs4.2
  have hmt4 : MemN _ _ _ _ _ := ⟨rfl, ft4.1⟩
  have hit4 := ft4.2
  clear hb5 fs5 ft5 c105 c115 j15 j25 hm5 hi5 hms5 his5 hmt5 hit5
  have hb5 : Fun.At _ g5 0 k q := ⟨Mem.of_get at5, hin1⟩
  obtain ⟨fs5, ft5, c105, c115, j15, j25⟩ := hb5.get
  have hm5 : MemN _ _ _ _ _ := ⟨rfl, hb5.1⟩
  have hi5 := hb5.2
  have hms5 : MemN _ _ _ _ _ := ⟨rfl, fs5.1⟩
  have his5 := fs5.2
  have hmt5 : MemN _ _ _ _ _ := ⟨rfl, ft5.1⟩
  have hit5 := ft5.2
  clear mm1003
  have mm1003 : MemN _ _ _ _ _ := ⟨rfl, Mem.of_get at1003⟩
  clear hb9 c09 c19 c29 c39 c49 i19 i29 i39 i49 hm9 hi9
  have hb9 : Cat.At _ g9 0 f.s p.s := ⟨Mem.of_get at1003, hin.1⟩
  obtain ⟨c09, c19, c29, c39, c49, i19, i29, i39, i49⟩ := hb9.get
  have hm9 : MemN _ _ _ _ _ := ⟨rfl, hb9.1⟩
  have hi9 := hb9.2
  refine .m rfl rfl rfl (.assign rfl) (.nil ?_)
  refine hK3 _ _ ?_
  refine .seq (fun K4 hK4 => ?_)
  refine .seq (fun K5 hK5 => ?_)
  refine .region (.m rfl rfl rfl (.assign rfl) (.nil ?_))
  refine hK5 _ _ ?_
  refine .block ?_
  refine .loopR (σ := Nat × (Nat → Option Addr) × Nat × Nat) [(2, some _), (3, some _), (4, some _), (5, some _), (9, some _)] (fun (a, rr, gL10, nL10) => [(11, some (.int .i64 (a : Int))), (10, some (.slice (some ⟨gL10, 0, none⟩) nL10 nL10))]) (fun (a, rr, gL10, nL10) H' => St [g21] H21 H' ∧ H'.get gL10 = some (.row ((slsL rr (f.s.endL a))) 22 true) ∧ (gL10 = g21 ∨ H21.next ≤ gL10) ∧ nL10 = (slsL rr (f.s.endL a)).length ∧ a ≤ f.s.src.length ∧ OwnL H.next H' 2 rr (f.s.endL a)) (fun (a, rr, gL10, nL10) => f.s.src.length - a) ((0, fun _ => none, _, _)) ⟨rfl, rfl, rfl, rfl, rfl, trivial⟩ ⟨rfl, rfl, trivial⟩ ?_ ?_
  ·
   refine ⟨.refl _ _, by first | assumption | exact at21 | simpa using at21, .inl rfl, by first | rfl | assumption | simp | omega, ?_⟩
   exact ⟨by omega, .nil _ _ _ _⟩
  rintro ⟨a, rr, gL10, nL10⟩ HL1 ⟨lst1, at_L10, pl_L10, ln_L10, hI⟩ KL1 hKL1
  refine .forget (fr' := [(11, some (.int .i64 (a : Int))), (10, some (.slice (some ⟨gL10, 0, none⟩) nL10 nL10)), (2, some _), (3, some _), (4, some _), (5, some _), (9, some _)]) ⟨rfl, rfl, rfl, rfl, rfl, rfl, rfl, trivial⟩ ?_
  have ge_L10 : H.next ≤ gL10 := by omega
  have nx_HL1 := lst1.nx
  replace hle := hle.st lst1 (fun k hk => ⟨by omega, trivial⟩)
  replace at4 := lst1.same _ _ ⟨by omega, trivial⟩ at4
  replace at5 := lst1.same _ _ ⟨by omega, trivial⟩ at5
  replace at1003 := lst1.same _ _ ⟨by omega, trivial⟩ at1003
  have lt_at_L10 := GHeap.lt_of_get at_L10
  replace hin := base_hin.mono hle
  replace hin1 := base_hin1.mono hle
  clear hb4 fs4 ft4 c104 c114 j14 j24 hm4 hi4 hms4 his4 hmt4 hit4
  have hb4 : Fun.At _ g4 0 f p := ⟨Mem.of_get at4, hin⟩
  obtain ⟨fs4, ft4, c104, c114, j14, j24⟩ := hb4.get
  have hm4 : MemN _ _ _ _ _ := ⟨rfl, hb4.1⟩
  have hi4 := hb4.2
  have hms4 : MemN _ _ _ _ _ := ⟨rfl, fs4.1⟩
  have his4 := fs4.2
  have hmt4 : MemN _ _ _ _ _ := ⟨rfl, ft4.1⟩
  have hit4 := ft4.2
  clear hb5 fs5 ft5 c105 c115 j15 j25 hm5 hi5 hms5 his5 hmt5 hit5
  have hb5 : Fun.At _ g5 0 k q := ⟨Mem.of_get at5, hin1⟩
  obtain ⟨fs5, ft5, c105, c115, j15, j25⟩ := hb5.get
  have hm5 : MemN _ _ _ _ _ := ⟨rfl, hb5.1⟩
  have hi5 := hb5.2
  have hms5 : MemN _ _ _ _ _ := ⟨rfl, fs5.1⟩
  have his5 := fs5.2
  have hmt5 : MemN _ _ _ _ _ := ⟨rfl, ft5.1⟩
  have hit5 := ft5.2
  clear mm1003
  have mm1003 : MemN _ _ _ _ _ := ⟨rfl, Mem.of_get at1003⟩
  clear hb9 c09 c19 c29 c39 c49 i19 i29 i39 i49 hm9 hi9
  have hb9 : Cat.At _ g9 0 f.s p.s := ⟨Mem.of_get at1003, hin.1⟩
  obtain ⟨c09, c19, c29, c39, c49, i19, i29, i39, i49⟩ := hb9.get
  have hm9 : MemN _ _ _ _ _ := ⟨rfl, hb9.1⟩
  have hi9 := hb9.2
  have rk := St.refl [gL10] HL1
  obtain ⟨ha, hR⟩ := hI
  have hat10 := at_L10
  have hfl : (slsL rr (f.s.endL a)).length = (f.s.endL a).length := length_slsL _ _
  have hpl := Cat.length_endL f.s a
  refine .seq (fun K6 hK6 => ?_)
  refine .seq (fun K7 hK7 => ?_)
  refine .region (.m rfl rfl rfl (.move rfl) (.m rfl rfl rfl (.fieldAddr fo_32_1_B rfl) ?_))
  refine .m rfl rfl rfl (.load on_22_B rfl (by first | assumption | exact Mem.of_get at1003 1 _ rfl)) ?_
  refine .m rfl rfl rfl (.len sl_22_A rfl) (.m rfl rfl rfl (.cmp rfl rfl rfl) (.nil ?_))
  refine hK7 _ _ ?_
  refine .cond rfl (fun h26 => ?_) (fun h26 => ?_)
  ·
   simp only [sps] at h26
   refine .skip ?_
   refine hK6 _ _ ?_
   refine .seq (fun K8 hK8 => ?_)
   refine .block ?_
   refine .regionD mixed_orders_B (.q 0 (.q 1 (.q 2 (.q 3 (.q 4 (.q 5 (.q 6 (.q 7 (.q 8 (.q 9 (.q 10 (.c 11 1 (.c 12 1 (.c 13 0 (.c 14 0 (.done)))))))))))))))) (by kernel_rfl) ?_
   refine .m rfl rfl rfl rfl (.refl _) (.move rfl) (.m rfl rfl rfl rfl (.refl _) (.fieldAddr fo_32_1_B rfl) ?_)
   refine .m rfl rfl rfl rfl (.refl _) (.load on_22_B rfl (by first | assumption | exact Mem.of_get at1003 1 _ rfl)) ?_
   refine .m rfl rfl rfl rfl (.refl _) (.move rfl) ?_
   refine .m rfl rfl rfl rfl (.refl _) (.idxN sl_22_A (by assumption) rfl rfl (by omega)) ?_
   refine .m rfl rfl rfl rfl (.refl _) (.loadI on_2_A (by assumption) rfl (by omega)) ?_
   refine .m rfl rfl rfl rfl (.refl _) (.fieldAddr fo_32_2_B rfl) ?_
   refine .m rfl rfl rfl rfl (.refl _) (.load on_22_B rfl (by first | assumption | exact Mem.of_get at1003 2 _ rfl)) ?_
   refine .m rfl rfl rfl rfl (.refl _) (.move rfl) ?_
   refine .m rfl rfl rfl rfl (.refl _) (.idxN sl_22_A (by assumption) rfl rfl (by omega)) ?_
   refine .m rfl rfl rfl rfl (.refl _) (.loadI on_2_A (by assumption) rfl (by omega)) ?_
   refine .c1 rfl rfl rfl rfl (.litR rfl sl_22_A ze_2_E rfl rfl (by omega) (by omega) rfl rfl) ?_
   rintro _ H40 ⟨g40, rfl, le40, ge40, at40⟩
   have hbl := le40
   refine ⟨hbl, ?_⟩
   have nx_H40 := le40.1
   replace hle := hle.trans le40
   replace lst1 := lst1.le le40
   replace rk := rk.le le40
   replace at4 := le40.2 _ _ at4
   replace at5 := le40.2 _ _ at5
   replace at1003 := le40.2 _ _ at1003
   replace at_L10 := le40.2 _ _ at_L10
   have lt_at40 := GHeap.lt_of_get at40
   replace hin := base_hin.mono hle
   replace hin1 := base_hin1.mono hle
   clear hb4 fs4 ft4 c104 c114 j14 j24 hm4 hi4 hms4 his4 hmt4 hit4
   have hb4 : Fun.At _ g4 0 f p := ⟨Mem.of_get at4, hin⟩
   obtain ⟨fs4, ft4, c104, c114, j14, j24⟩ := hb4.get
   have hm4 : MemN _ _ _ _ _ := ⟨rfl, hb4.1⟩
   have hi4 := hb4.2
   have hms4 : MemN _ _ _ _ _ := ⟨rfl, fs4.1⟩
   have his4 := fs4.2
   have hmt4 : MemN _ _ _ _ _ := ⟨rfl, ft4.1⟩
   have hit4 := ft4.2
   clear hb5 fs5 ft5 c105 c115 j15 j25 hm5 hi5 hms5 his5 hmt5 hit5
   have hb5 : Fun.At _ g5 0 k q := ⟨Mem.of_get at5, hin1⟩
   obtain ⟨fs5, ft5, c105, c115, j15, j25⟩ := hb5.get
   have hm5 : MemN _ _ _ _ _ := ⟨rfl, hb5.1⟩
   have hi5 := hb5.2
   have hms5 : MemN _ _ _ _ _ := ⟨rfl, fs5.1⟩
   have his5 := fs5.2
   have hmt5 : MemN _ _ _ _ _ := ⟨rfl, ft5.1⟩
   have hit5 := ft5.2
   clear mm1003
   have mm1003 : MemN _ _ _ _ _ := ⟨rfl, Mem.of_get at1003⟩
   clear hb9 c09 c19 c29 c39 c49 i19 i29 i39 i49 hm9 hi9
   have hb9 : Cat.At _ g9 0 f.s p.s := ⟨Mem.of_get at1003, hin.1⟩
   obtain ⟨c09, c19, c29, c39, c49, i19, i29, i39, i49⟩ := hb9.get
   have hm9 : MemN _ _ _ _ _ := ⟨rfl, hb9.1⟩
   have hi9 := hb9.2
   refine .c1 rfl rfl rfl rfl (.litR rfl sl_23_B ze_22_E rfl rfl (by omega) (by omega) rfl rfl) ?_
   rintro _ H41 ⟨g41, rfl, le41, ge41, at41⟩
   replace hbl := hbl.trans le41
   refine ⟨hbl, ?_⟩
   have nx_H41 := le41.1
   replace hle := hle.trans le41
   replace lst1 := lst1.le le41
   replace rk := rk.le le41
   replace at4 := le41.2 _ _ at4
   replace at5 := le41.2 _ _ at5
   replace at1003 := le41.2 _ _ at1003
   replace at_L10 := le41.2 _ _ at_L10
   replace at40 := le41.2 _ _ at40
   have lt_at41 := GHeap.lt_of_get at41
   replace hin := base_hin.mono hle
   replace hin1 := base_hin1.mono hle
   clear hb4 fs4 ft4 c104 c114 j14 j24 hm4 hi4 hms4 his4 hmt4 hit4
   have hb4 : Fun.At _ g4 0 f p := ⟨Mem.of_get at4, hin⟩
   obtain ⟨fs4, ft4, c104, c114, j14, j24⟩ := hb4.get
   have hm4 : MemN _ _ _ _ _ := ⟨rfl, hb4.1⟩
   have hi4 := hb4.2
   have hms4 : MemN _ _ _ _ _ := ⟨rfl, fs4.1⟩
   have his4 := fs4.2
   have hmt4 : MemN _ _ _ _ _ := ⟨rfl, ft4.1⟩
   have hit4 := ft4.2
   clear hb5 fs5 ft5 c105 c115 j15 j25 hm5 hi5 hms5 his5 hmt5 hit5
   have hb5 : Fun.At _ g5 0 k q := ⟨Mem.of_get at5, hin1⟩
   obtain ⟨fs5, ft5, c105, c115, j15, j25⟩ := hb5.get
   have hm5 : MemN _ _ _ _ _ := ⟨rfl, hb5.1⟩
   have hi5 := hb5.2
   have hms5 : MemN _ _ _ _ _ := ⟨rfl, fs5.1⟩
   have his5 := fs5.2
   have hmt5 : MemN _ _ _ _ _ := ⟨rfl, ft5.1⟩
   have hit5 := ft5.2
   clear mm1003
   have mm1003 : MemN _ _ _ _ _ := ⟨rfl, Mem.of_get at1003⟩
   clear hb9 c09 c19 c29 c39 c49 i19 i29 i39 i49 hm9 hi9
   have hb9 : Cat.At _ g9 0 f.s p.s := ⟨Mem.of_get at1003, hin.1⟩
   obtain ⟨c09, c19, c29, c39, c49, i19, i29, i39, i49⟩ := hb9.get
   have hm9 : MemN _ _ _ _ _ := ⟨rfl, hb9.1⟩
   have hi9 := hb9.2
   refine .c0 rfl rfl rfl rfl (.appendV rfl sl_23_B ze_22_E rfl by_22_E sl_23_B rfl rfl (by assumption) (by assumption) (by first | omega | (simp <;> omega)) rfl rfl (by omega) (by omega)) ?_
   rintro _ H42 ⟨g42, rfl, st42, ge42, at42⟩
   have nx_H42 := st42.nx
   replace hle := hle.st st42 (fun k hk => ⟨by omega, trivial⟩)
   replace lst1 := lst1.st st42 (fun k hk ho => by simp only [out, and_true] at ho ⊢ <;> omega)
   replace rk := rk.st st42 (fun k hk ho => by simp only [out, and_true] at ho ⊢ <;> omega)
   replace at4 := st42.same _ _ ⟨by omega, trivial⟩ at4
   replace at5 := st42.same _ _ ⟨by omega, trivial⟩ at5
   replace at1003 := st42.same _ _ ⟨by omega, trivial⟩ at1003
   replace at40 := st42.same _ _ ⟨by omega, trivial⟩ at40
   replace at41 := st42.same _ _ ⟨by omega, trivial⟩ at41
   have lt_at42 := GHeap.lt_of_get at42
   replace hin := base_hin.mono hle
   replace hin1 := base_hin1.mono hle
   clear hb4 fs4 ft4 c104 c114 j14 j24 hm4 hi4 hms4 his4 hmt4 hit4
   have hb4 : Fun.At _ g4 0 f p := ⟨Mem.of_get at4, hin⟩
   obtain ⟨fs4, ft4, c104, c114, j14, j24⟩ := hb4.get
   have hm4 : MemN _ _ _ _ _ := ⟨rfl, hb4.1⟩
   have hi4 := hb4.2
   have hms4 : MemN _ _ _ _ _ := ⟨rfl, fs4.1⟩
   have his4 := fs4.2
   have hmt4 : MemN _ _ _ _ _ := ⟨rfl, ft4.1⟩
   have hit4 := ft4.2
   clear hb5 fs5 ft5 c105 c115 j15 j25 hm5 hi5 hms5 his5 hmt5 hit5
   have hb5 : Fun.At _ g5 0 k q := ⟨Mem.of_get at5, hin1⟩
   obtain ⟨fs5, ft5, c105, c115, j15, j25⟩ := hb5.get
   have hm5 : MemN _ _ _ _ _ := ⟨rfl, hb5.1⟩
   have hi5 := hb5.2
   have hms5 : MemN _ _ _ _ _ := ⟨rfl, fs5.1⟩
   have his5 := fs5.2
   have hmt5 : MemN _ _ _ _ _ := ⟨rfl, ft5.1⟩
   have hit5 := ft5.2
   clear mm1003
   have mm1003 : MemN _ _ _ _ _ := ⟨rfl, Mem.of_get at1003⟩
   clear hb9 c09 c19 c29 c39 c49 i19 i29 i39 i49 hm9 hi9
   have hb9 : Cat.At _ g9 0 f.s p.s := ⟨Mem.of_get at1003, hin.1⟩
   obtain ⟨c09, c19, c29, c39, c49, i19, i29, i39, i49⟩ := hb9.get
   have hm9 : MemN _ _ _ _ _ := ⟨rfl, hb9.1⟩
   have hi9 := hb9.2
   refine .d0 rfl rfl rfl rfl (.quiet (.assign rfl) CIs.mk) ?_
   refine .done ?_
   refine hK8 _ _ ?_
   refine .region (.m rfl rfl rfl (.move rfl) ?_)
   refine .m rfl rfl rfl (.add rfl rfl rfl (by omega) (by omega)) ?_
   refine .m rfl rfl rfl (.assign rfl) (.nil ?_)
   refine hKL1 ((a + 1, upd rr (f.s.endL a).length (some ⟨g40, 0, none⟩), _, _)) _ _ ?_ ?_ ⟨rfl, rfl, rfl, rfl, rfl, rfl, rfl, trivial⟩
   ·
    refine ⟨lst1, by first | assumption | (rw [Cat.endL_succ, slsL_snoc]; assumption), by omega, by first | omega | (simp only [List.length_append, List.length_cons, List.length_nil] <;> omega) | (rw [Cat.endL_succ, slsL_snoc] <;> (first | omega | (simp only [List.length_append, List.length_cons, List.length_nil] <;> omega))), ?_⟩
    exact ⟨by omega, by rw [Cat.endL_succ]; exact hR.snoc (x := [f.s.src.getD a 0, f.s.tgt.getD a 0]) (rk.lasts1 hat10 rfl) (by assumption) (by omega) (by omega)⟩
   (dsimp only; omega)
  try simp only [sps] at h26
  refine .exit ?_
  refine hK4 _ _ ?_
  refine .seq (fun K9 hK9 => ?_)
  refine .region (.m rfl rfl rfl (.fieldAddr fo_32_0_B rfl) ?_)
  refine .m rfl rfl rfl (.load on_2_A rfl (by first | assumption | exact Mem.of_get at1003 0 _ rfl)) ?_
  refine .m rfl rfl rfl (.move rfl) ?_
  obtain rfl : a = f.s.src.length := by omega
  have hiss := hR.intss at_L10 (by omega)
  have hfl : (slsL rr (f.s.endL f.s.src.length)).length = (f.s.endL f.s.src.length).length := length_slsL _ _
  have hpl := Cat.length_endL f.s f.s.src.length
  refine .call rfl rfl rfl rfl @Try.call98 rfl (l01JoinN_c (n := f.ob.length) (by omega) (by omega) hiss (by omega) (by omega) (fun i hi => by rw [Cat.endL_get (by omega)]; have w1 := hs.src i (by omega); have w2 := hs.tgt i (by omega); exact ⟨Nat.le_refl _, w1.1, by show f.s.src.getD i 0 < _; omega, w2.1, by show f.s.tgt.getD i 0 < _; omega⟩)) ?_
  rintro _ H46 ⟨le46, g46, rfl, at46, ge46⟩
  have nx_H46 := le46.1
  replace hle := hle.trans le46
  replace at4 := le46.2 _ _ at4
  replace at5 := le46.2 _ _ at5
  replace at1003 := le46.2 _ _ at1003
  replace at_L10 := le46.2 _ _ at_L10
  have lt_at46 := GHeap.lt_of_get at46
  replace hin := base_hin.mono hle
  replace hin1 := base_hin1.mono hle
  clear hb4 fs4 ft4 c104 c114 j14 j24 hm4 hi4 hms4 his4 hmt4 hit4
  have hb4 : Fun.At _ g4 0 f p := ⟨Mem.of_get at4, hin⟩
  obtain ⟨fs4, ft4, c104, c114, j14, j24⟩ := hb4.get
  have hm4 : MemN _ _ _ _ _ := ⟨rfl, hb4.1⟩
  have hi4 := hb4.2
  have hms4 : MemN _ _ _ _ _ := ⟨rfl, fs4.1⟩
  have his4 := fs4.2
  have hmt4 : MemN _ _ _ _ _ := ⟨rfl, ft4.1⟩
  have hit4 := ft4.2
  clear hb5 fs5 ft5 c105 c115 j15 j25 hm5 hi5 hms5 his5 hmt5 hit5
  have hb5 : Fun.At _ g5 0 k q := ⟨Mem.of_get at5, hin1⟩
  obtain ⟨fs5, ft5, c105, c115, j15, j25⟩ := hb5.get
  have hm5 : MemN _ _ _ _ _ := ⟨rfl, hb5.1⟩
  have hi5 := hb5.2
  have hms5 : MemN _ _ _ _ _ := ⟨rfl, fs5.1⟩
  have his5 := fs5.2
  have hmt5 : MemN _ _ _ _ _ := ⟨rfl, ft5.1⟩
  have hit5 := ft5.2
  clear mm1003
  have mm1003 : MemN _ _ _ _ _ := ⟨rfl, Mem.of_get at1003⟩
  clear hb9 c09 c19 c29 c39 c49 i19 i29 i39 i49 hm9 hi9
  have hb9 : Cat.At _ g9 0 f.s p.s := ⟨Mem.of_get at1003, hin.1⟩
  obtain ⟨c09, c19, c29, c39, c49, i19, i29, i39, i49⟩ := hb9.get
  have hm9 : MemN _ _ _ _ _ := ⟨rfl, hb9.1⟩
  have hi9 := hb9.2
  have i46 := Ints.of_get at46
  refine .m rfl rfl rfl (.assign rfl) (.nil ?_)
  refine hK9 _ _ ?_
  refine .seq (fun K10 hK10 => ?_)
  refine .region ?_
  refine .r rfl rfl rfl (.litR rfl sl_22_A ze_2_E rfl rfl (by omega) (by omega) rfl rfl) ?_
  rintro _ H47 ⟨g47, rfl, le47, ge47, at47⟩
  have nx_H47 := le47.1
  replace hle := hle.trans le47
  replace at4 := le47.2 _ _ at4
  replace at5 := le47.2 _ _ at5
  replace at1003 := le47.2 _ _ at1003
  replace at_L10 := le47.2 _ _ at_L10
  replace at46 := le47.2 _ _ at46
  have lt_at47 := GHeap.lt_of_get at47
  replace hin := base_hin.mono hle
  replace hin1 := base_hin1.mono hle
  clear hb4 fs4 ft4 c104 c114 j14 j24 hm4 hi4 hms4 his4 hmt4 hit4
  have hb4 : Fun.At _ g4 0 f p := ⟨Mem.of_get at4, hin⟩
  obtain ⟨fs4, ft4, c104, c114, j14, j24⟩ := hb4.get
  have hm4 : MemN _ _ _ _ _ := ⟨rfl, hb4.1⟩
  have hi4 := hb4.2
  have hms4 : MemN _ _ _ _ _ := ⟨rfl, fs4.1⟩
  have his4 := fs4.2
  have hmt4 : MemN _ _ _ _ _ := ⟨rfl, ft4.1⟩
  have hit4 := ft4.2
  clear hb5 fs5 ft5 c105 c115 j15 j25 hm5 hi5 hms5 his5 hmt5 hit5
  have hb5 : Fun.At _ g5 0 k q := ⟨Mem.of_get at5, hin1⟩
  obtain ⟨fs5, ft5, c105, c115, j15, j25⟩ := hb5.get
  have hm5 : MemN _ _ _ _ _ := ⟨rfl, hb5.1⟩
  have hi5 := hb5.2
  have hms5 : MemN _ _ _ _ _ := ⟨rfl, fs5.1⟩
  have his5 := fs5.2
  have hmt5 : MemN _ _ _ _ _ := ⟨rfl, ft5.1⟩
  have hit5 := ft5.2
  clear mm1003
  have mm1003 : MemN _ _ _ _ _ := ⟨rfl, Mem.of_get at1003⟩
  clear hb9 c09 c19 c29 c39 c49 i19 i29 i39 i49 hm9 hi9
  have hb9 : Cat.At _ g9 0 f.s p.s := ⟨Mem.of_get at1003, hin.1⟩
  obtain ⟨c09, c19, c29, c39, c49, i19, i29, i39, i49⟩ := hb9.get
  have hm9 : MemN _ _ _ _ _ := ⟨rfl, hb9.1⟩
  have hi9 := hb9.2
  clear i46
  have i46 := Ints.of_get at46
  replace at47 : GHeap.get H47 g47 = some (.row (ints []) 2 true) := at47
  refine .m rfl rfl rfl (.assign rfl) (.nil ?_)
  refine hK10 _ _ ?_
  refine .seq (fun K11 hK11 => ?_)
  refine .seq (fun K12 hK12 => ?_)
  refine .region (.m rfl rfl rfl (.assign rfl) (.nil ?_))
  refine hK12 _ _ ?_
  refine .block ?_
  refine .loopR (σ := Nat × Nat × Nat) [(2, some _), (3, some _), (4, some _), (5, some _), (12, some _)] (fun (x, gL13, nL13) => [(14, some (.int .i64 (x : Int))), (13, some (.slice (some ⟨gL13, 0, none⟩) nL13 nL13))]) (fun (x, gL13, nL13) H' => St [g47] H47 H' ∧ H'.get gL13 = some (.row (ints (List.replicate x (-1))) 2 true) ∧ (gL13 = g47 ∨ H47.next ≤ gL13) ∧ nL13 = (List.replicate x (-1)).length ∧ x ≤ f.ob.length) (fun (x, gL13, nL13) => f.ob.length - x) ((0, _, _)) ⟨rfl, rfl, rfl, rfl, rfl, trivial⟩ ⟨rfl, rfl, trivial⟩ ?_ ?_
  ·
   refine ⟨.refl _ _, by first | assumption | exact at47 | simpa using at47, .inl rfl, by first | rfl | assumption | simp | omega, ?_⟩
   omega
  rintro ⟨x, gL13, nL13⟩ HL2 ⟨lst2, at_L13, pl_L13, ln_L13, hI⟩ KL2 hKL2
  refine .forget (fr' := [(14, some (.int .i64 (x : Int))), (13, some (.slice (some ⟨gL13, 0, none⟩) nL13 nL13)), (2, some _), (3, some _), (4, some _), (5, some _), (12, some _)]) ⟨rfl, rfl, rfl, rfl, rfl, rfl, rfl, trivial⟩ ?_
  have ge_L13 : H.next ≤ gL13 := by omega
  have nx_HL2 := lst2.nx
  replace hle := hle.st lst2 (fun k hk => ⟨by omega, trivial⟩)
  replace at4 := lst2.same _ _ ⟨by omega, trivial⟩ at4
  replace at5 := lst2.same _ _ ⟨by omega, trivial⟩ at5
  replace at1003 := lst2.same _ _ ⟨by omega, trivial⟩ at1003
  replace at_L10 := lst2.same _ _ ⟨by omega, trivial⟩ at_L10
  replace at46 := lst2.same _ _ ⟨by omega, trivial⟩ at46
  have lt_at_L13 := GHeap.lt_of_get at_L13
  replace hin := base_hin.mono hle
  replace hin1 := base_hin1.mono hle
  clear hb4 fs4 ft4 c104 c114 j14 j24 hm4 hi4 hms4 his4 hmt4 hit4
  have hb4 : Fun.At _ g4 0 f p := ⟨Mem.of_get at4, hin⟩
  obtain ⟨fs4, ft4, c104, c114, j14, j24⟩ := hb4.get
  have hm4 : MemN _ _ _ _ _ := ⟨rfl, hb4.1⟩
  have hi4 := hb4.2
  have hms4 : MemN _ _ _ _ _ := ⟨rfl, fs4.1⟩
  have his4 := fs4.2
  have hmt4 : MemN _ _ _ _ _ := ⟨rfl, ft4.1⟩
  have hit4 := ft4.2
  clear hb5 fs5 ft5 c105 c115 j15 j25 hm5 hi5 hms5 his5 hmt5 hit5
  have hb5 : Fun.At _ g5 0 k q := ⟨Mem.of_get at5, hin1⟩
  obtain ⟨fs5, ft5, c105, c115, j15, j25⟩ := hb5.get
  have hm5 : MemN _ _ _ _ _ := ⟨rfl, hb5.1⟩
  have hi5 := hb5.2
  have hms5 : MemN _ _ _ _ _ := ⟨rfl, fs5.1⟩
  have his5 := fs5.2
  have hmt5 : MemN _ _ _ _ _ := ⟨rfl, ft5.1⟩
  have hit5 := ft5.2
  clear mm1003
  have mm1003 : MemN _ _ _ _ _ := ⟨rfl, Mem.of_get at1003⟩
  clear hb9 c09 c19 c29 c39 c49 i19 i29 i39 i49 hm9 hi9
  have hb9 : Cat.At _ g9 0 f.s p.s := ⟨Mem.of_get at1003, hin.1⟩
  obtain ⟨c09, c19, c29, c39, c49, i19, i29, i39, i49⟩ := hb9.get
  have hm9 : MemN _ _ _ _ _ := ⟨rfl, hb9.1⟩
  have hi9 := hb9.2
  clear i46
  have i46 := Ints.of_get at46
  have hrl : (List.replicate x (-1 : Int)).length = x := List.length_replicate
  refine .seq (fun K13 hK13 => ?_)
  refine .seq (fun K14 hK14 => ?_)
  refine .region (.m rfl rfl rfl (.move rfl) (.m rfl rfl rfl (.move rfl) (.m rfl rfl rfl (.len sl_22_A rfl) ?_)))
  refine .m rfl rfl rfl (.cmp rfl rfl rfl) (.nil ?_)
  refine hK14 _ _ ?_
  refine .cond rfl (fun h51 => ?_) (fun h51 => ?_)
  ·
   simp only [sps, length_joinL] at h51
   refine .skip ?_
   refine hK13 _ _ ?_
   refine .seq (fun K15 hK15 => ?_)
   refine .block ?_
   refine .seq (fun K16 hK16 => ?_)
   refine .region (.m rfl rfl rfl (.move rfl) ?_)
   refine .r rfl rfl rfl (.litR rfl sl_22_A ze_2_E rfl rfl (by omega) (by omega) rfl rfl) ?_
   rintro _ H55 ⟨g55, rfl, le55, ge55, at55⟩
   have nx_H55 := le55.1
   replace hle := hle.trans le55
   replace lst2 := lst2.le le55
   replace at4 := le55.2 _ _ at4
   replace at5 := le55.2 _ _ at5
   replace at1003 := le55.2 _ _ at1003
   replace at_L10 := le55.2 _ _ at_L10
   replace at46 := le55.2 _ _ at46
   replace at_L13 := le55.2 _ _ at_L13
   have lt_at55 := GHeap.lt_of_get at55
   replace hin := base_hin.mono hle
   replace hin1 := base_hin1.mono hle
   clear hb4 fs4 ft4 c104 c114 j14 j24 hm4 hi4 hms4 his4 hmt4 hit4
   have hb4 : Fun.At _ g4 0 f p := ⟨Mem.of_get at4, hin⟩
   obtain ⟨fs4, ft4, c104, c114, j14, j24⟩ := hb4.get
   have hm4 : MemN _ _ _ _ _ := ⟨rfl, hb4.1⟩
   have hi4 := hb4.2
   have hms4 : MemN _ _ _ _ _ := ⟨rfl, fs4.1⟩
   have his4 := fs4.2
   have hmt4 : MemN _ _ _ _ _ := ⟨rfl, ft4.1⟩
   have hit4 := ft4.2
   clear hb5 fs5 ft5 c105 c115 j15 j25 hm5 hi5 hms5 his5 hmt5 hit5
   have hb5 : Fun.At _ g5 0 k q := ⟨Mem.of_get at5, hin1⟩
   obtain ⟨fs5, ft5, c105, c115, j15, j25⟩ := hb5.get
   have hm5 : MemN _ _ _ _ _ := ⟨rfl, hb5.1⟩
   have hi5 := hb5.2
   have hms5 : MemN _ _ _ _ _ := ⟨rfl, fs5.1⟩
   have his5 := fs5.2
   have hmt5 : MemN _ _ _ _ _ := ⟨rfl, ft5.1⟩
   have hit5 := ft5.2
   clear mm1003
   have mm1003 : MemN _ _ _ _ _ := ⟨rfl, Mem.of_get at1003⟩
   clear hb9 c09 c19 c29 c39 c49 i19 i29 i39 i49 hm9 hi9
   have hb9 : Cat.At _ g9 0 f.s p.s := ⟨Mem.of_get at1003, hin.1⟩
   obtain ⟨c09, c19, c29, c39, c49, i19, i29, i39, i49⟩ := hb9.get
   have hm9 : MemN _ _ _ _ _ := ⟨rfl, hb9.1⟩
   have hi9 := hb9.2
   clear i46
   have i46 := Ints.of_get at46
   refine .r rfl rfl rfl (.appendI rfl sl_22_A ze_2_E rfl by_2_E sl_22_A rfl rfl (by assumption) (by assumption) (by first | omega | (simp <;> omega)) (by omega) (by omega)) ?_
   rintro _ H56 ⟨g56, rfl, st56, ge56, at56⟩
   have nx_H56 := st56.nx
   replace hle := hle.st st56 (fun k hk => ⟨by omega, trivial⟩)
   replace lst2 := lst2.st st56 (fun k hk ho => by simp only [out, and_true] at ho ⊢ <;> omega)
   replace at4 := st56.same _ _ ⟨by omega, trivial⟩ at4
   replace at5 := st56.same _ _ ⟨by omega, trivial⟩ at5
   replace at1003 := st56.same _ _ ⟨by omega, trivial⟩ at1003
   replace at_L10 := st56.same _ _ ⟨by omega, trivial⟩ at_L10
   replace at46 := st56.same _ _ ⟨by omega, trivial⟩ at46
   replace at55 := st56.same _ _ ⟨by omega, trivial⟩ at55
   have lt_at56 := GHeap.lt_of_get at56
   replace hin := base_hin.mono hle
   replace hin1 := base_hin1.mono hle
   clear hb4 fs4 ft4 c104 c114 j14 j24 hm4 hi4 hms4 his4 hmt4 hit4
   have hb4 : Fun.At _ g4 0 f p := ⟨Mem.of_get at4, hin⟩
   obtain ⟨fs4, ft4, c104, c114, j14, j24⟩ := hb4.get
   have hm4 : MemN _ _ _ _ _ := ⟨rfl, hb4.1⟩
   have hi4 := hb4.2
   have hms4 : MemN _ _ _ _ _ := ⟨rfl, fs4.1⟩
   have his4 := fs4.2
   have hmt4 : MemN _ _ _ _ _ := ⟨rfl, ft4.1⟩
   have hit4 := ft4.2
   clear hb5 fs5 ft5 c105 c115 j15 j25 hm5 hi5 hms5 his5 hmt5 hit5
   have hb5 : Fun.At _ g5 0 k q := ⟨Mem.of_get at5, hin1⟩
   obtain ⟨fs5, ft5, c105, c115, j15, j25⟩ := hb5.get
   have hm5 : MemN _ _ _ _ _ := ⟨rfl, hb5.1⟩
   have hi5 := hb5.2
   have hms5 : MemN _ _ _ _ _ := ⟨rfl, fs5.1⟩
   have his5 := fs5.2
   have hmt5 : MemN _ _ _ _ _ := ⟨rfl, ft5.1⟩
   have hit5 := ft5.2
   clear mm1003
   have mm1003 : MemN _ _ _ _ _ := ⟨rfl, Mem.of_get at1003⟩
   clear hb9 c09 c19 c29 c39 c49 i19 i29 i39 i49 hm9 hi9
   have hb9 : Cat.At _ g9 0 f.s p.s := ⟨Mem.of_get at1003, hin.1⟩
   obtain ⟨c09, c19, c29, c39, c49, i19, i29, i39, i49⟩ := hb9.get
   have hm9 : MemN _ _ _ _ _ := ⟨rfl, hb9.1⟩
   have hi9 := hb9.2
   clear i46
   have i46 := Ints.of_get at46
   refine .m rfl rfl rfl (.assign rfl) (.nil ?_)
   refine hK16 _ _ ?_
   refine .seq (fun K17 hK17 => ?_)
   refine .region ?_
   refine .r rfl rfl rfl (.litR rfl sl_22_A ze_2_E rfl rfl (by omega) (by omega) rfl rfl) ?_
   rintro _ H57 ⟨g57, rfl, le57, ge57, at57⟩
   have nx_H57 := le57.1
   replace hle := hle.trans le57
   replace lst2 := lst2.le le57
   replace at4 := le57.2 _ _ at4
   replace at5 := le57.2 _ _ at5
   replace at1003 := le57.2 _ _ at1003
   replace at_L10 := le57.2 _ _ at_L10
   replace at46 := le57.2 _ _ at46
   replace at55 := le57.2 _ _ at55
   replace at56 := le57.2 _ _ at56
   have lt_at57 := GHeap.lt_of_get at57
   replace hin := base_hin.mono hle
   replace hin1 := base_hin1.mono hle
   clear hb4 fs4 ft4 c104 c114 j14 j24 hm4 hi4 hms4 his4 hmt4 hit4
   have hb4 : Fun.At _ g4 0 f p := ⟨Mem.of_get at4, hin⟩
   obtain ⟨fs4, ft4, c104, c114, j14, j24⟩ := hb4.get
   have hm4 : MemN _ _ _ _ _ := ⟨rfl, hb4.1⟩
   have hi4 := hb4.2
   have hms4 : MemN _ _ _ _ _ := ⟨rfl, fs4.1⟩
   have his4 := fs4.2
   have hmt4 : MemN _ _ _ _ _ := ⟨rfl, ft4.1⟩
   have hit4 := ft4.2
   clear hb5 fs5 ft5 c105 c115 j15 j25 hm5 hi5 hms5 his5 hmt5 hit5
   have hb5 : Fun.At _ g5 0 k q := ⟨Mem.of_get at5, hin1⟩
   obtain ⟨fs5, ft5, c105, c115, j15, j25⟩ := hb5.get
   have hm5 : MemN _ _ _ _ _ := ⟨rfl, hb5.1⟩
   have hi5 := hb5.2
   have hms5 : MemN _ _ _ _ _ := ⟨rfl, fs5.1⟩
   have his5 := fs5.2
   have hmt5 : MemN _ _ _ _ _ := ⟨rfl, ft5.1⟩
   have hit5 := ft5.2
   clear mm1003
   have mm1003 : MemN _ _ _ _ _ := ⟨rfl, Mem.of_get at1003⟩
   clear hb9 c09 c19 c29 c39 c49 i19 i29 i39 i49 hm9 hi9
   have hb9 : Cat.At _ g9 0 f.s p.s := ⟨Mem.of_get at1003, hin.1⟩
   obtain ⟨c09, c19, c29, c39, c49, i19, i29, i39, i49⟩ := hb9.get
   have hm9 : MemN _ _ _ _ _ := ⟨rfl, hb9.1⟩
   have hi9 := hb9.2
   clear i46
   have i46 := Ints.of_get at46
   replace at57 : GHeap.get H57 g57 = some (.row (ints []) 2 true) := at57
   refine .m rfl rfl rfl (.assign rfl) (.nil ?_)
   refine hK17 _ _ ?_
   refine .seq (fun K18 hK18 => ?_)
   refine .seq (fun K19 hK19 => ?_)
   refine .region (.m rfl rfl rfl (.assign rfl) (.nil ?_))
   refine hK19 _ _ ?_
   refine .block ?_
   refine .loopR (σ := Nat × Nat × Nat) [(2, some _), (3, some _), (4, some _), (5, some _), (12, some _), (13, some _), (14, some _)] (fun (y, gL15, nL15) => [(16, some (.int .i64 (y : Int))), (15, some (.slice (some ⟨gL15, 0, none⟩) nL15 nL15))]) (fun (y, gL15, nL15) H' => St [g57] H57 H' ∧ H'.get gL15 = some (.row (ints (startL (joinL f.ob.length ((f.s.endL f.s.src.length).map fun p => (pA p, pB p))) x y)) 2 true) ∧ (gL15 = g57 ∨ H57.next ≤ gL15) ∧ nL15 = (startL (joinL f.ob.length ((f.s.endL f.s.src.length).map fun p => (pA p, pB p))) x y).length ∧ y ≤ f.ob.length) (fun (y, gL15, nL15) => f.ob.length - y) ((0, _, _)) ⟨rfl, rfl, rfl, rfl, rfl, rfl, rfl, trivial⟩ ⟨rfl, rfl, trivial⟩ ?_ ?_
   ·
    refine ⟨.refl _ _, by first | assumption | exact at57 | simpa using at57, .inl rfl, by first | rfl | assumption | simp | omega, ?_⟩
    omega
   rintro ⟨y, gL15, nL15⟩ HL3 ⟨lst3, at_L15, pl_L15, ln_L15, hI⟩ KL3 hKL3
   refine .forget (fr' := [(16, some (.int .i64 (y : Int))), (15, some (.slice (some ⟨gL15, 0, none⟩) nL15 nL15)), (2, some _), (3, some _), (4, some _), (5, some _), (12, some _), (13, some _), (14, some _)]) ⟨rfl, rfl, rfl, rfl, rfl, rfl, rfl, rfl, rfl, trivial⟩ ?_
   have ge_L15 : H.next ≤ gL15 := by omega
   have nx_HL3 := lst3.nx
   replace hle := hle.st lst3 (fun k hk => ⟨by omega, trivial⟩)
   replace lst2 := lst2.st lst3 (fun k hk ho => by simp only [out, and_true] at ho ⊢ <;> omega)
   replace at4 := lst3.same _ _ ⟨by omega, trivial⟩ at4
   replace at5 := lst3.same _ _ ⟨by omega, trivial⟩ at5
   replace at1003 := lst3.same _ _ ⟨by omega, trivial⟩ at1003
   replace at_L10 := lst3.same _ _ ⟨by omega, trivial⟩ at_L10
   replace at46 := lst3.same _ _ ⟨by omega, trivial⟩ at46
   replace at55 := lst3.same _ _ ⟨by omega, trivial⟩ at55
   replace at56 := lst3.same _ _ ⟨by omega, trivial⟩ at56
   have lt_at_L15 := GHeap.lt_of_get at_L15
   replace hin := base_hin.mono hle
   replace hin1 := base_hin1.mono hle
   clear hb4 fs4 ft4 c104 c114 j14 j24 hm4 hi4 hms4 his4 hmt4 hit4
   have hb4 : Fun.At _ g4 0 f p := ⟨Mem.of_get at4, hin⟩
   obtain ⟨fs4, ft4, c104, c114, j14, j24⟩ := hb4.get
   have hm4 : MemN _ _ _ _ _ := ⟨rfl, hb4.1⟩
   have hi4 := hb4.2
   have hms4 : MemN _ _ _ _ _ := ⟨rfl, fs4.1⟩
   have his4 := fs4.2
   have hmt4 : MemN _ _ _ _ _ := ⟨rfl, ft4.1⟩
   have hit4 := ft4.2
   clear hb5 fs5 ft5 c105 c115 j15 j25 hm5 hi5 hms5 his5 hmt5 hit5
   have hb5 : Fun.At _ g5 0 k q := ⟨Mem.of_get at5, hin1⟩
   obtain ⟨fs5, ft5, c105, c115, j15, j25⟩ := hb5.get
   have hm5 : MemN _ _ _ _ _ := ⟨rfl, hb5.1⟩
   have hi5 := hb5.2
   have hms5 : MemN _ _ _ _ _ := ⟨rfl, fs5.1⟩
   have his5 := fs5.2
   have hmt5 : MemN _ _ _ _ _ := ⟨rfl, ft5.1⟩
   have hit5 := ft5.2
   clear mm1003
   have mm1003 : MemN _ _ _ _ _ := ⟨rfl, Mem.of_get at1003⟩
   clear hb9 c09 c19 c29 c39 c49 i19 i29 i39 i49 hm9 hi9
   have hb9 : Cat.At _ g9 0 f.s p.s := ⟨Mem.of_get at1003, hin.1⟩
   obtain ⟨c09, c19, c29, c39, c49, i19, i29, i39, i49⟩ := hb9.get
   have hm9 : MemN _ _ _ _ _ := ⟨rfl, hb9.1⟩
   have hi9 := hb9.2
   clear i46
   have i46 := Ints.of_get at46
   have hyl := length_startL (joinL f.ob.length ((f.s.endL f.s.src.length).map fun p => (pA p, pB p))) x y
   refine .seq (fun K20 hK20 => ?_)
   refine .seq (fun K21 hK21 => ?_)
   refine .region (.m rfl rfl rfl (.move rfl) (.m rfl rfl rfl (.move rfl) (.m rfl rfl rfl (.len sl_22_A rfl) ?_)))
   refine .m rfl rfl rfl (.cmp rfl rfl rfl) (.nil ?_)
   refine hK21 _ _ ?_
   refine .cond rfl (fun h61 => ?_) (fun h61 => ?_)
   ·
    simp only [sps, length_joinL] at h61
    refine .skip ?_
    refine hK20 _ _ ?_
    refine .seq (fun K22 hK22 => ?_)
    refine .block ?_
    refine .seq (fun K23 hK23 => ?_)
    refine .region (.m rfl rfl rfl (.move rfl) (.m rfl rfl rfl (.move rfl) ?_))
    refine .m rfl rfl rfl (.idxN sl_22_A (by first | assumption | exact SlA.of_row at46 (by first | rfl | (simp; done) | (simp <;> omega))) rfl rfl (by omega)) ?_
    refine .m rfl rfl rfl (.loadI on_2_A (by first | assumption | exact Ints.of_get at46) rfl (by omega)) ?_
    refine .m rfl rfl rfl (.move rfl) (.m rfl rfl rfl (.cmp rfl rfl rfl) (.nil ?_))
    refine hK23 _ _ ?_
    refine .cond rfl (fun h69 => ?_) (fun h69 => ?_)
    ·
     simp only [sps] at h69
     refine .region (.m rfl rfl rfl (.move rfl) ?_)
     refine .r rfl rfl rfl (.litR rfl sl_22_A ze_2_E rfl rfl (by omega) (by omega) rfl rfl) ?_
     rintro _ H71 ⟨g71, rfl, le71, ge71, at71⟩
     have nx_H71 := le71.1
     replace hle := hle.trans le71
     replace lst2 := lst2.le le71
     replace lst3 := lst3.le le71
     replace at4 := le71.2 _ _ at4
     replace at5 := le71.2 _ _ at5
     replace at1003 := le71.2 _ _ at1003
     replace at_L10 := le71.2 _ _ at_L10
     replace at46 := le71.2 _ _ at46
     replace at55 := le71.2 _ _ at55
     replace at56 := le71.2 _ _ at56
     replace at_L15 := le71.2 _ _ at_L15
     have lt_at71 := GHeap.lt_of_get at71
     replace hin := base_hin.mono hle
     replace hin1 := base_hin1.mono hle
     clear hb4 fs4 ft4 c104 c114 j14 j24 hm4 hi4 hms4 his4 hmt4 hit4
     have hb4 : Fun.At _ g4 0 f p := ⟨Mem.of_get at4, hin⟩
     obtain ⟨fs4, ft4, c104, c114, j14, j24⟩ := hb4.get
     have hm4 : MemN _ _ _ _ _ := ⟨rfl, hb4.1⟩
     have hi4 := hb4.2
     have hms4 : MemN _ _ _ _ _ := ⟨rfl, fs4.1⟩
     have his4 := fs4.2
     have hmt4 : MemN _ _ _ _ _ := ⟨rfl, ft4.1⟩
     have hit4 := ft4.2
     clear hb5 fs5 ft5 c105 c115 j15 j25 hm5 hi5 hms5 his5 hmt5 hit5
     have hb5 : Fun.At _ g5 0 k q := ⟨Mem.of_get at5, hin1⟩
     obtain ⟨fs5, ft5, c105, c115, j15, j25⟩ := hb5.get
     have hm5 : MemN _ _ _ _ _ := ⟨rfl, hb5.1⟩
     have hi5 := hb5.2
     have hms5 : MemN _ _ _ _ _ := ⟨rfl, fs5.1⟩
     have his5 := fs5.2
     have hmt5 : MemN _ _ _ _ _ := ⟨rfl, ft5.1⟩
     have hit5 := ft5.2
     clear mm1003
     have mm1003 : MemN _ _ _ _ _ := ⟨rfl, Mem.of_get at1003⟩
     clear hb9 c09 c19 c29 c39 c49 i19 i29 i39 i49 hm9 hi9
     have hb9 : Cat.At _ g9 0 f.s p.s := ⟨Mem.of_get at1003, hin.1⟩
     obtain ⟨c09, c19, c29, c39, c49, i19, i29, i39, i49⟩ := hb9.get
     have hm9 : MemN _ _ _ _ _ := ⟨rfl, hb9.1⟩
     have hi9 := hb9.2
     clear i46
     have i46 := Ints.of_get at46
     refine .r rfl rfl rfl (.appendI rfl sl_22_A ze_2_E rfl by_2_E sl_22_A rfl rfl (by assumption) (by assumption) (by first | omega | (simp <;> omega)) (by omega) (by omega)) ?_
     rintro _ H72 ⟨g72, rfl, st72, ge72, at72⟩
     have nx_H72 := st72.nx
     replace hle := hle.st st72 (fun k hk => ⟨by omega, trivial⟩)
     replace lst2 := lst2.st st72 (fun k hk ho => by simp only [out, and_true] at ho ⊢ <;> omega)
     replace lst3 := lst3.st st72 (fun k hk ho => by simp only [out, and_true] at ho ⊢ <;> omega)
     replace at4 := st72.same _ _ ⟨by omega, trivial⟩ at4
     replace at5 := st72.same _ _ ⟨by omega, trivial⟩ at5
     replace at1003 := st72.same _ _ ⟨by omega, trivial⟩ at1003
     replace at_L10 := st72.same _ _ ⟨by omega, trivial⟩ at_L10
     replace at46 := st72.same _ _ ⟨by omega, trivial⟩ at46
     replace at55 := st72.same _ _ ⟨by omega, trivial⟩ at55
     replace at56 := st72.same _ _ ⟨by omega, trivial⟩ at56
     replace at71 := st72.same _ _ ⟨by omega, trivial⟩ at71
     have lt_at72 := GHeap.lt_of_get at72
     replace hin := base_hin.mono hle
     replace hin1 := base_hin1.mono hle
     clear hb4 fs4 ft4 c104 c114 j14 j24 hm4 hi4 hms4 his4 hmt4 hit4
     have hb4 : Fun.At _ g4 0 f p := ⟨Mem.of_get at4, hin⟩
     obtain ⟨fs4, ft4, c104, c114, j14, j24⟩ := hb4.get
     have hm4 : MemN _ _ _ _ _ := ⟨rfl, hb4.1⟩
     have hi4 := hb4.2
     have hms4 : MemN _ _ _ _ _ := ⟨rfl, fs4.1⟩
     have his4 := fs4.2
     have hmt4 : MemN _ _ _ _ _ := ⟨rfl, ft4.1⟩
     have hit4 := ft4.2
     clear hb5 fs5 ft5 c105 c115 j15 j25 hm5 hi5 hms5 his5 hmt5 hit5
     have hb5 : Fun.At _ g5 0 k q := ⟨Mem.of_get at5, hin1⟩
     obtain ⟨fs5, ft5, c105, c115, j15, j25⟩ := hb5.get
     have hm5 : MemN _ _ _ _ _ := ⟨rfl, hb5.1⟩
     have hi5 := hb5.2
     have hms5 : MemN _ _ _ _ _ := ⟨rfl, fs5.1⟩
     have his5 := fs5.2
     have hmt5 : MemN _ _ _ _ _ := ⟨rfl, ft5.1⟩
     have hit5 := ft5.2
     clear mm1003
     have mm1003 : MemN _ _ _ _ _ := ⟨rfl, Mem.of_get at1003⟩
     clear hb9 c09 c19 c29 c39 c49 i19 i29 i39 i49 hm9 hi9
     have hb9 : Cat.At _ g9 0 f.s p.s := ⟨Mem.of_get at1003, hin.1⟩
     obtain ⟨c09, c19, c29, c39, c49, i19, i29, i39, i49⟩ := hb9.get
     have hm9 : MemN _ _ _ _ _ := ⟨rfl, hb9.1⟩
     have hi9 := hb9.2
     clear i46
     have i46 := Ints.of_get at46
     refine .m rfl rfl rfl (.assign rfl) (.nil ?_)
     refine hK22 _ _ ?_
     refine .region (.m rfl rfl rfl (.move rfl) ?_)
     refine .m rfl rfl rfl (.add rfl rfl rfl (by omega) (by omega)) ?_
     refine .m rfl rfl rfl (.assign rfl) (.nil ?_)
     refine hKL3 ((y + 1, _, _)) _ _ ?_ ?_ ⟨rfl, rfl, rfl, rfl, rfl, rfl, rfl, rfl, rfl, trivial⟩
     ·
      refine ⟨lst3, by first | assumption | (rw [startL_T h69]; assumption) | (rw [startL_F h69]; assumption), by omega, by first | omega | (simp only [List.length_append, List.length_cons, List.length_nil] <;> omega) | (rw [startL_T h69] <;> (first | omega | (simp only [List.length_append, List.length_cons, List.length_nil] <;> omega))) | (rw [startL_F h69] <;> (first | omega | (simp only [List.length_append, List.length_cons, List.length_nil] <;> omega))), ?_⟩
      omega
     (dsimp only; omega)
    simp only [sps] at h69
    refine .region (.m rfl rfl rfl (.move rfl) ?_)
    refine .r rfl rfl rfl (.litR rfl sl_22_A ze_2_E rfl rfl (by omega) (by omega) rfl rfl) ?_
    rintro _ H74 ⟨g74, rfl, le74, ge74, at74⟩
    have nx_H74 := le74.1
    replace hle := hle.trans le74
    replace lst2 := lst2.le le74
    replace lst3 := lst3.le le74
    replace at4 := le74.2 _ _ at4
    replace at5 := le74.2 _ _ at5
    replace at1003 := le74.2 _ _ at1003
    replace at_L10 := le74.2 _ _ at_L10
    replace at46 := le74.2 _ _ at46
    replace at55 := le74.2 _ _ at55
    replace at56 := le74.2 _ _ at56
    replace at_L15 := le74.2 _ _ at_L15
    have lt_at74 := GHeap.lt_of_get at74
    replace hin := base_hin.mono hle
    replace hin1 := base_hin1.mono hle
    clear hb4 fs4 ft4 c104 c114 j14 j24 hm4 hi4 hms4 his4 hmt4 hit4
    have hb4 : Fun.At _ g4 0 f p := ⟨Mem.of_get at4, hin⟩
    obtain ⟨fs4, ft4, c104, c114, j14, j24⟩ := hb4.get
    have hm4 : MemN _ _ _ _ _ := ⟨rfl, hb4.1⟩
    have hi4 := hb4.2
    have hms4 : MemN _ _ _ _ _ := ⟨rfl, fs4.1⟩
    have his4 := fs4.2
    have hmt4 : MemN _ _ _ _ _ := ⟨rfl, ft4.1⟩
    have hit4 := ft4.2
    clear hb5 fs5 ft5 c105 c115 j15 j25 hm5 hi5 hms5 his5 hmt5 hit5
    have hb5 : Fun.At _ g5 0 k q := ⟨Mem.of_get at5, hin1⟩
    obtain ⟨fs5, ft5, c105, c115, j15, j25⟩ := hb5.get
    have hm5 : MemN _ _ _ _ _ := ⟨rfl, hb5.1⟩
    have hi5 := hb5.2
    have hms5 : MemN _ _ _ _ _ := ⟨rfl, fs5.1⟩
    have his5 := fs5.2
    have hmt5 : MemN _ _ _ _ _ := ⟨rfl, ft5.1⟩
    have hit5 := ft5.2
    clear mm1003
    have mm1003 : MemN _ _ _ _ _ := ⟨rfl, Mem.of_get at1003⟩
    clear hb9 c09 c19 c29 c39 c49 i19 i29 i39 i49 hm9 hi9
    have hb9 : Cat.At _ g9 0 f.s p.s := ⟨Mem.of_get at1003, hin.1⟩
    obtain ⟨c09, c19, c29, c39, c49, i19, i29, i39, i49⟩ := hb9.get
    have hm9 : MemN _ _ _ _ _ := ⟨rfl, hb9.1⟩
    have hi9 := hb9.2
    clear i46
    have i46 := Ints.of_get at46
    refine .r rfl rfl rfl (.appendI rfl sl_22_A ze_2_E rfl by_2_E sl_22_A rfl rfl (by assumption) (by assumption) (by first | omega | (simp <;> omega)) (by omega) (by omega)) ?_
    rintro _ H75 ⟨g75, rfl, st75, ge75, at75⟩
    have nx_H75 := st75.nx
    replace hle := hle.st st75 (fun k hk => ⟨by omega, trivial⟩)
    replace lst2 := lst2.st st75 (fun k hk ho => by simp only [out, and_true] at ho ⊢ <;> omega)
    replace lst3 := lst3.st st75 (fun k hk ho => by simp only [out, and_true] at ho ⊢ <;> omega)
    replace at4 := st75.same _ _ ⟨by omega, trivial⟩ at4
    replace at5 := st75.same _ _ ⟨by omega, trivial⟩ at5
    replace at1003 := st75.same _ _ ⟨by omega, trivial⟩ at1003
    replace at_L10 := st75.same _ _ ⟨by omega, trivial⟩ at_L10
    replace at46 := st75.same _ _ ⟨by omega, trivial⟩ at46
    replace at55 := st75.same _ _ ⟨by omega, trivial⟩ at55
    replace at56 := st75.same _ _ ⟨by omega, trivial⟩ at56
    replace at74 := st75.same _ _ ⟨by omega, trivial⟩ at74
    have lt_at75 := GHeap.lt_of_get at75
    replace hin := base_hin.mono hle
    replace hin1 := base_hin1.mono hle
    clear hb4 fs4 ft4 c104 c114 j14 j24 hm4 hi4 hms4 his4 hmt4 hit4
    have hb4 : Fun.At _ g4 0 f p := ⟨Mem.of_get at4, hin⟩
    obtain ⟨fs4, ft4, c104, c114, j14, j24⟩ := hb4.get
    have hm4 : MemN _ _ _ _ _ := ⟨rfl, hb4.1⟩
    have hi4 := hb4.2
    have hms4 : MemN _ _ _ _ _ := ⟨rfl, fs4.1⟩
    have his4 := fs4.2
    have hmt4 : MemN _ _ _ _ _ := ⟨rfl, ft4.1⟩
    have hit4 := ft4.2
    clear hb5 fs5 ft5 c105 c115 j15 j25 hm5 hi5 hms5 his5 hmt5 hit5
    have hb5 : Fun.At _ g5 0 k q := ⟨Mem.of_get at5, hin1⟩
    obtain ⟨fs5, ft5, c105, c115, j15, j25⟩ := hb5.get
    have hm5 : MemN _ _ _ _ _ := ⟨rfl, hb5.1⟩
    have hi5 := hb5.2
    have hms5 : MemN _ _ _ _ _ := ⟨rfl, fs5.1⟩
    have his5 := fs5.2
    have hmt5 : MemN _ _ _ _ _ := ⟨rfl, ft5.1⟩
    have hit5 := ft5.2
    clear mm1003
    have mm1003 : MemN _ _ _ _ _ := ⟨rfl, Mem.of_get at1003⟩
    clear hb9 c09 c19 c29 c39 c49 i19 i29 i39 i49 hm9 hi9
    have hb9 : Cat.At _ g9 0 f.s p.s := ⟨Mem.of_get at1003, hin.1⟩
    obtain ⟨c09, c19, c29, c39, c49, i19, i29, i39, i49⟩ := hb9.get
    have hm9 : MemN _ _ _ _ _ := ⟨rfl, hb9.1⟩
    have hi9 := hb9.2
    clear i46
    have i46 := Ints.of_get at46
    refine .m rfl rfl rfl (.assign rfl) (.nil ?_)
    refine hK22 _ _ ?_
    refine .region (.m rfl rfl rfl (.move rfl) ?_)
    refine .m rfl rfl rfl (.add rfl rfl rfl (by omega) (by omega)) ?_
    refine .m rfl rfl rfl (.assign rfl) (.nil ?_)
    refine hKL3 ((y + 1, _, _)) _ _ ?_ ?_ ⟨rfl, rfl, rfl, rfl, rfl, rfl, rfl, rfl, rfl, trivial⟩
    ·
     refine ⟨lst3, by first | assumption | (rw [startL_T h69]; assumption) | (rw [startL_F h69]; assumption), by omega, by first | omega | (simp only [List.length_append, List.length_cons, List.length_nil] <;> omega) | (rw [startL_T h69] <;> (first | omega | (simp only [List.length_append, List.length_cons, List.length_nil] <;> omega))) | (rw [startL_F h69] <;> (first | omega | (simp only [List.length_append, List.length_cons, List.length_nil] <;> omega))), ?_⟩
     omega
    (dsimp only; omega)
   simp only [sps, length_joinL] at h61
   obtain rfl : y = f.ob.length := by omega
   refine .exit ?_
   refine hK18 _ _ ?_
   refine .seq (fun K24 hK24 => ?_)
   refine .region ?_
   refine .m rfl rfl rfl (.loadM ag_34_E rfl ⟨rfl, Mem.of_get at4⟩) ?_
   refine .m rfl rfl rfl (.loadM ag_34_E rfl ⟨rfl, Mem.of_get at5⟩) ?_
   refine .m rfl rfl rfl (.move rfl) (.m rfl rfl rfl (.build bt_122_Hc rfl rfl st_build1) ?_)
   refine .r rfl rfl rfl (.boxR rfl sz_122_Hc rfl) ?_
   rintro _ H80 ⟨g80, rfl, le80, ge80, at80⟩
   have nx_H80 := le80.1
   replace hle := hle.trans le80
   replace lst2 := lst2.le le80
   replace at4 := le80.2 _ _ at4
   replace at5 := le80.2 _ _ at5
   replace at1003 := le80.2 _ _ at1003
   replace at_L10 := le80.2 _ _ at_L10
   replace at46 := le80.2 _ _ at46
   replace at55 := le80.2 _ _ at55
   replace at56 := le80.2 _ _ at56
   replace at_L15 := le80.2 _ _ at_L15
   have lt_at80 := GHeap.lt_of_get at80
   replace hin := base_hin.mono hle
   replace hin1 := base_hin1.mono hle
   clear hb4 fs4 ft4 c104 c114 j14 j24 hm4 hi4 hms4 his4 hmt4 hit4
   have hb4 : Fun.At _ g4 0 f p := ⟨Mem.of_get at4, hin⟩
   obtain ⟨fs4, ft4, c104, c114, j14, j24⟩ := hb4.get
   have hm4 : MemN _ _ _ _ _ := ⟨rfl, hb4.1⟩
   have hi4 := hb4.2
   have hms4 : MemN _ _ _ _ _ := ⟨rfl, fs4.1⟩
   have his4 := fs4.2
   have hmt4 : MemN _ _ _ _ _ := ⟨rfl, ft4.1⟩
   have hit4 := ft4.2
   clear hb5 fs5 ft5 c105 c115 j15 j25 hm5 hi5 hms5 his5 hmt5 hit5
   have hb5 : Fun.At _ g5 0 k q := ⟨Mem.of_get at5, hin1⟩
   obtain ⟨fs5, ft5, c105, c115, j15, j25⟩ := hb5.get
   have hm5 : MemN _ _ _ _ _ := ⟨rfl, hb5.1⟩
   have hi5 := hb5.2
   have hms5 : MemN _ _ _ _ _ := ⟨rfl, fs5.1⟩
   have his5 := fs5.2
   have hmt5 : MemN _ _ _ _ _ := ⟨rfl, ft5.1⟩
   have hit5 := ft5.2
   clear mm1003
   have mm1003 : MemN _ _ _ _ _ := ⟨rfl, Mem.of_get at1003⟩
   clear hb9 c09 c19 c29 c39 c49 i19 i29 i39 i49 hm9 hi9
   have hb9 : Cat.At _ g9 0 f.s p.s := ⟨Mem.of_get at1003, hin.1⟩
   obtain ⟨c09, c19, c29, c39, c49, i19, i29, i39, i49⟩ := hb9.get
   have hm9 : MemN _ _ _ _ _ := ⟨rfl, hb9.1⟩
   have hi9 := hb9.2
   clear i46
   have i46 := Ints.of_get at46
   have mm80 : MemN _ _ _ _ _ := ⟨rfl, Mem.of_get at80⟩
   refine .m rfl rfl rfl (.assign rfl) (.nil ?_)
   refine hK24 _ _ ?_
   refine .seq (fun K25 hK25 => ?_)
   refine .region (.m rfl rfl rfl (.move rfl) (.m rfl rfl rfl (.move rfl) ?_))
   refine .call rfl rfl rfl rfl @Try.call99 rfl ((l07Go_c base_hin base_hin1 hP (M := 1) (iso := iso) (by omega) _ g80 g55 gL15 H.next nL15 (startL (joinL f.ob.length ((f.s.endL f.s.src.length).map fun p => (pA p, pB p))) x f.ob.length) [] _ rfl hle (by omega) (by omega) (by omega) (by omega) (by omega) (by omega) (by omega) at_L15 ln_L15.symm (ln_L15.trans (length_startL _ _ _)) (fun i hi => startL_lt (by rw [ln_L15, length_startL] at hi; exact hi)) ⟨none, fun _ => none, at80, .inl ⟨rfl, rfl, rfl⟩, .nil _ _ _ _⟩ (by simp))) ?_
   rintro _ H83 ⟨gF83, hg83, st83, hl83, hF83⟩
   have nx_H83 := st83.nx
   replace hle := hle.st st83 (fun k hk => ⟨by omega, by omega, trivial⟩)
   replace lst2 := lst2.st st83 (fun k hk ho => by simp only [out, and_true] at ho ⊢ <;> omega)
   replace at4 := st83.same _ _ ⟨by omega, by omega, trivial⟩ at4
   replace at5 := st83.same _ _ ⟨by omega, by omega, trivial⟩ at5
   replace at1003 := st83.same _ _ ⟨by omega, by omega, trivial⟩ at1003
   replace at_L10 := st83.same _ _ ⟨by omega, by omega, trivial⟩ at_L10
   replace at46 := st83.same _ _ ⟨by omega, by omega, trivial⟩ at46
   replace at56 := st83.same _ _ ⟨by omega, by omega, trivial⟩ at56
   replace at_L15 := st83.same _ _ ⟨by omega, by omega, trivial⟩ at_L15
   replace hin := base_hin.mono hle
   replace hin1 := base_hin1.mono hle
   clear hb4 fs4 ft4 c104 c114 j14 j24 hm4 hi4 hms4 his4 hmt4 hit4
   have hb4 : Fun.At _ g4 0 f p := ⟨Mem.of_get at4, hin⟩
   obtain ⟨fs4, ft4, c104, c114, j14, j24⟩ := hb4.get
   have hm4 : MemN _ _ _ _ _ := ⟨rfl, hb4.1⟩
   have hi4 := hb4.2
   have hms4 : MemN _ _ _ _ _ := ⟨rfl, fs4.1⟩
   have his4 := fs4.2
   have hmt4 : MemN _ _ _ _ _ := ⟨rfl, ft4.1⟩
   have hit4 := ft4.2
   clear hb5 fs5 ft5 c105 c115 j15 j25 hm5 hi5 hms5 his5 hmt5 hit5
   have hb5 : Fun.At _ g5 0 k q := ⟨Mem.of_get at5, hin1⟩
   obtain ⟨fs5, ft5, c105, c115, j15, j25⟩ := hb5.get
   have hm5 : MemN _ _ _ _ _ := ⟨rfl, hb5.1⟩
   have hi5 := hb5.2
   have hms5 : MemN _ _ _ _ _ := ⟨rfl, fs5.1⟩
   have his5 := fs5.2
   have hmt5 : MemN _ _ _ _ _ := ⟨rfl, ft5.1⟩
   have hit5 := ft5.2
   clear mm1003
   have mm1003 : MemN _ _ _ _ _ := ⟨rfl, Mem.of_get at1003⟩
   clear hb9 c09 c19 c29 c39 c49 i19 i29 i39 i49 hm9 hi9
   have hb9 : Cat.At _ g9 0 f.s p.s := ⟨Mem.of_get at1003, hin.1⟩
   obtain ⟨c09, c19, c29, c39, c49, i19, i29, i39, i49⟩ := hb9.get
   have hm9 : MemN _ _ _ _ _ := ⟨rfl, hb9.1⟩
   have hi9 := hb9.2
   clear i46
   have i46 := Ints.of_get at46
   clear mm80
   have mm80 : MemN _ _ _ _ _ := ⟨rfl, Mem.of_get at80⟩
   refine .nil ?_
   refine hK25 _ _ ?_
   refine .seq (fun K26 hK26 => ?_)
   refine .region ?_
   obtain ⟨af2, r2, e1, _, _⟩ := hF83.ex
   have c26 : GHeap.cell H83 g80 (0 + 26) = some (.slice af2 _ _) := Mem.of_get e1 26 _ rfl
   refine .m rfl rfl rfl (.move rfl) (.m rfl rfl rfl (.nilCheck rfl) (.m rfl rfl rfl (.fieldAddr fo_122_4_Hb rfl) ?_))
   refine .m rfl rfl rfl (.load on_23_B rfl (by assumption)) ?_
   refine .m rfl rfl rfl (.len sl_23_B rfl) (.m rfl rfl rfl (.cmp rfl rfl rfl) (.nil ?_))
   refine hK26 _ _ ?_
   refine .cond rfl (fun h89 => ?_) (fun h89 => ?_)
   ·
    simp only [sps] at h89
    have h0 : (([] ++ (f.net k iso).go (startL (joinL f.ob.length ((f.s.endL f.s.src.length).map fun p => (pA p, pB p))) x f.ob.length)).take 1).length = 0 := by omega
    rw [List.nil_append] at h0
    have hnil := Net.sols_nil hgood (take_one_nil h0)
    refine .seq (fun K27 hK27 => ?_)
    refine .region ?_
    refine .r rfl rfl rfl (.litR rfl sl_23_B ze_22_E rfl rfl (by omega) (by omega) rfl rfl) ?_
    rintro _ H90 ⟨g90, rfl, le90, ge90, at90⟩
    have nx_H90 := le90.1
    replace hle := hle.trans le90
    replace lst2 := lst2.le le90
    replace at4 := le90.2 _ _ at4
    replace at5 := le90.2 _ _ at5
    replace at1003 := le90.2 _ _ at1003
    replace at_L10 := le90.2 _ _ at_L10
    replace at46 := le90.2 _ _ at46
    replace at56 := le90.2 _ _ at56
    replace at_L15 := le90.2 _ _ at_L15
    have lt_at90 := GHeap.lt_of_get at90
    replace hin := base_hin.mono hle
    replace hin1 := base_hin1.mono hle
    clear hb4 fs4 ft4 c104 c114 j14 j24 hm4 hi4 hms4 his4 hmt4 hit4
    have hb4 : Fun.At _ g4 0 f p := ⟨Mem.of_get at4, hin⟩
    obtain ⟨fs4, ft4, c104, c114, j14, j24⟩ := hb4.get
    have hm4 : MemN _ _ _ _ _ := ⟨rfl, hb4.1⟩
    have hi4 := hb4.2
    have hms4 : MemN _ _ _ _ _ := ⟨rfl, fs4.1⟩
    have his4 := fs4.2
    have hmt4 : MemN _ _ _ _ _ := ⟨rfl, ft4.1⟩
    have hit4 := ft4.2
    clear hb5 fs5 ft5 c105 c115 j15 j25 hm5 hi5 hms5 his5 hmt5 hit5
    have hb5 : Fun.At _ g5 0 k q := ⟨Mem.of_get at5, hin1⟩
    obtain ⟨fs5, ft5, c105, c115, j15, j25⟩ := hb5.get
    have hm5 : MemN _ _ _ _ _ := ⟨rfl, hb5.1⟩
    have hi5 := hb5.2
    have hms5 : MemN _ _ _ _ _ := ⟨rfl, fs5.1⟩
    have his5 := fs5.2
    have hmt5 : MemN _ _ _ _ _ := ⟨rfl, ft5.1⟩
    have hit5 := ft5.2
    clear mm1003
    have mm1003 : MemN _ _ _ _ _ := ⟨rfl, Mem.of_get at1003⟩
    clear hb9 c09 c19 c29 c39 c49 i19 i29 i39 i49 hm9 hi9
    have hb9 : Cat.At _ g9 0 f.s p.s := ⟨Mem.of_get at1003, hin.1⟩
    obtain ⟨c09, c19, c29, c39, c49, i19, i29, i39, i49⟩ := hb9.get
    have hm9 : MemN _ _ _ _ _ := ⟨rfl, hb9.1⟩
    have hi9 := hb9.2
    clear i46
    have i46 := Ints.of_get at46
    clear mm80
    have mm80 : MemN _ _ _ _ _ := ⟨rfl, Mem.of_get at80⟩
    refine .m rfl rfl rfl (.assign rfl) (.nil ?_)
    refine hK27 _ _ ?_
    refine .ret ?_
    refine hret _ _ ?_
    refine ⟨_, rfl, ?_⟩
    rw [hnil, List.take_nil]
    exact ⟨hle, some ⟨g90, 0, none⟩, fun _ => none, rfl, (OwnL.nil H.next _ 2 (fun _ => none)).done at90 (by omega)⟩
   try simp only [sps] at h89
   refine .skip ?_
   refine hK15 _ _ ?_
   refine .region (.m rfl rfl rfl (.move rfl) ?_)
   refine .m rfl rfl rfl (.add rfl rfl rfl (by omega) (by omega)) ?_
   refine .m rfl rfl rfl (.assign rfl) (.nil ?_)
   refine hKL2 ((x + 1, _, _)) _ _ ?_ ?_ ⟨rfl, rfl, rfl, rfl, rfl, rfl, rfl, trivial⟩
   ·
    refine ⟨lst2, by first | assumption | (rw [List.replicate_succ']; assumption), by omega, by first | omega | (simp only [List.length_append, List.length_cons, List.length_nil] <;> omega) | (rw [List.replicate_succ'] <;> (first | omega | (simp only [List.length_append, List.length_cons, List.length_nil] <;> omega))), ?_⟩
    omega
   (dsimp only; omega)
  simp only [sps, length_joinL] at h51
  obtain rfl : x = f.ob.length := by omega
  refine .exit ?_
  refine hK11 _ _ ?_
  refine .seq (fun K28 hK28 => ?_)
  refine .region ?_
  refine .m rfl rfl rfl (.loadM ag_34_E rfl ⟨rfl, Mem.of_get at4⟩) ?_
  refine .m rfl rfl rfl (.loadM ag_34_E rfl ⟨rfl, Mem.of_get at5⟩) ?_
  refine .m rfl rfl rfl (.move rfl) (.m rfl rfl rfl (.move rfl) ?_)
  refine .r rfl rfl rfl (.litR rfl sl_23_B ze_22_E rfl rfl (by omega) (by omega) rfl rfl) ?_
  rintro _ H95 ⟨g95, rfl, le95, ge95, at95⟩
  have nx_H95 := le95.1
  replace hle := hle.trans le95
  replace lst2 := lst2.le le95
  replace at4 := le95.2 _ _ at4
  replace at5 := le95.2 _ _ at5
  replace at1003 := le95.2 _ _ at1003
  replace at_L10 := le95.2 _ _ at_L10
  replace at46 := le95.2 _ _ at46
  replace at_L13 := le95.2 _ _ at_L13
  have lt_at95 := GHeap.lt_of_get at95
  replace hin := base_hin.mono hle
  replace hin1 := base_hin1.mono hle
  clear hb4 fs4 ft4 c104 c114 j14 j24 hm4 hi4 hms4 his4 hmt4 hit4
  have hb4 : Fun.At _ g4 0 f p := ⟨Mem.of_get at4, hin⟩
  obtain ⟨fs4, ft4, c104, c114, j14, j24⟩ := hb4.get
  have hm4 : MemN _ _ _ _ _ := ⟨rfl, hb4.1⟩
  have hi4 := hb4.2
  have hms4 : MemN _ _ _ _ _ := ⟨rfl, fs4.1⟩
  have his4 := fs4.2
  have hmt4 : MemN _ _ _ _ _ := ⟨rfl, ft4.1⟩
  have hit4 := ft4.2
  clear hb5 fs5 ft5 c105 c115 j15 j25 hm5 hi5 hms5 his5 hmt5 hit5
  have hb5 : Fun.At _ g5 0 k q := ⟨Mem.of_get at5, hin1⟩
  obtain ⟨fs5, ft5, c105, c115, j15, j25⟩ := hb5.get
  have hm5 : MemN _ _ _ _ _ := ⟨rfl, hb5.1⟩
  have hi5 := hb5.2
  have hms5 : MemN _ _ _ _ _ := ⟨rfl, fs5.1⟩
  have his5 := fs5.2
  have hmt5 : MemN _ _ _ _ _ := ⟨rfl, ft5.1⟩
  have hit5 := ft5.2
  clear mm1003
  have mm1003 : MemN _ _ _ _ _ := ⟨rfl, Mem.of_get at1003⟩
  clear hb9 c09 c19 c29 c39 c49 i19 i29 i39 i49 hm9 hi9
  have hb9 : Cat.At _ g9 0 f.s p.s := ⟨Mem.of_get at1003, hin.1⟩
  obtain ⟨c09, c19, c29, c39, c49, i19, i29, i39, i49⟩ := hb9.get
  have hm9 : MemN _ _ _ _ _ := ⟨rfl, hb9.1⟩
  have hi9 := hb9.2
  clear i46
  have i46 := Ints.of_get at46
  refine .m rfl rfl rfl (.build bt_122_Hc rfl rfl st_build2) ?_
  refine .r rfl rfl rfl (.boxR rfl sz_122_Hc rfl) ?_
  rintro _ H97 ⟨g97, rfl, le97, ge97, at97⟩
  have nx_H97 := le97.1
  replace hle := hle.trans le97
  replace lst2 := lst2.le le97
  replace at4 := le97.2 _ _ at4
  replace at5 := le97.2 _ _ at5
  replace at1003 := le97.2 _ _ at1003
  replace at_L10 := le97.2 _ _ at_L10
  replace at46 := le97.2 _ _ at46
  replace at_L13 := le97.2 _ _ at_L13
  replace at95 := le97.2 _ _ at95
  have lt_at97 := GHeap.lt_of_get at97
  replace hin := base_hin.mono hle
  replace hin1 := base_hin1.mono hle
  clear hb4 fs4 ft4 c104 c114 j14 j24 hm4 hi4 hms4 his4 hmt4 hit4
  have hb4 : Fun.At _ g4 0 f p := ⟨Mem.of_get at4, hin⟩
  obtain ⟨fs4, ft4, c104, c114, j14, j24⟩ := hb4.get
  have hm4 : MemN _ _ _ _ _ := ⟨rfl, hb4.1⟩
  have hi4 := hb4.2
  have hms4 : MemN _ _ _ _ _ := ⟨rfl, fs4.1⟩
  have his4 := fs4.2
  have hmt4 : MemN _ _ _ _ _ := ⟨rfl, ft4.1⟩
  have hit4 := ft4.2
  clear hb5 fs5 ft5 c105 c115 j15 j25 hm5 hi5 hms5 his5 hmt5 hit5
  have hb5 : Fun.At _ g5 0 k q := ⟨Mem.of_get at5, hin1⟩
  obtain ⟨fs5, ft5, c105, c115, j15, j25⟩ := hb5.get
  have hm5 : MemN _ _ _ _ _ := ⟨rfl, hb5.1⟩
  have hi5 := hb5.2
  have hms5 : MemN _ _ _ _ _ := ⟨rfl, fs5.1⟩
  have his5 := fs5.2
  have hmt5 : MemN _ _ _ _ _ := ⟨rfl, ft5.1⟩
  have hit5 := ft5.2
  clear mm1003
  have mm1003 : MemN _ _ _ _ _ := ⟨rfl, Mem.of_get at1003⟩
  clear hb9 c09 c19 c29 c39 c49 i19 i29 i39 i49 hm9 hi9
  have hb9 : Cat.At _ g9 0 f.s p.s := ⟨Mem.of_get at1003, hin.1⟩
  obtain ⟨c09, c19, c29, c39, c49, i19, i29, i39, i49⟩ := hb9.get
  have hm9 : MemN _ _ _ _ _ := ⟨rfl, hb9.1⟩
  have hi9 := hb9.2
  clear i46
  have i46 := Ints.of_get at46
  have mm97 : MemN _ _ _ _ _ := ⟨rfl, Mem.of_get at97⟩
  refine .m rfl rfl rfl (.assign rfl) (.nil ?_)
  refine hK28 _ _ ?_
  refine .seq (fun K29 hK29 => ?_)
  refine .region (.m rfl rfl rfl (.move rfl) (.m rfl rfl rfl (.move rfl) ?_))
  refine .call rfl rfl rfl rfl @Try.call99 rfl ((l07Go_c base_hin base_hin1 hP (M := M) (iso := iso) hM _ g97 g95 gL13 H.next nL13 (List.replicate f.ob.length (-1)) [] _ rfl hle (by omega) (by omega) (by omega) (by omega) (by omega) (by omega) (by omega) at_L13 ln_L13.symm (ln_L13.trans List.length_replicate) (fun i hi => repl_lt (by rw [ln_L13, List.length_replicate] at hi; exact hi)) ⟨some ⟨g95, 0, none⟩, fun _ => none, at97, .inr ⟨rfl, by omega, at95⟩, .nil _ _ _ _⟩ (by simp; omega))) ?_
  rintro _ H100 ⟨gF100, hg100, st100, hl100, hF100⟩
  have nx_H100 := st100.nx
  replace hle := hle.st st100 (fun k hk => ⟨by omega, by omega, trivial⟩)
  replace lst2 := lst2.st st100 (fun k hk ho => by simp only [out, and_true] at ho ⊢ <;> omega)
  replace at4 := st100.same _ _ ⟨by omega, by omega, trivial⟩ at4
  replace at5 := st100.same _ _ ⟨by omega, by omega, trivial⟩ at5
  replace at1003 := st100.same _ _ ⟨by omega, by omega, trivial⟩ at1003
  replace at_L10 := st100.same _ _ ⟨by omega, by omega, trivial⟩ at_L10
  replace at46 := st100.same _ _ ⟨by omega, by omega, trivial⟩ at46
  replace at_L13 := st100.same _ _ ⟨by omega, by omega, trivial⟩ at_L13
  replace hin := base_hin.mono hle
  replace hin1 := base_hin1.mono hle
  clear hb4 fs4 ft4 c104 c114 j14 j24 hm4 hi4 hms4 his4 hmt4 hit4
  have hb4 : Fun.At _ g4 0 f p := ⟨Mem.of_get at4, hin⟩
  obtain ⟨fs4, ft4, c104, c114, j14, j24⟩ := hb4.get
  have hm4 : MemN _ _ _ _ _ := ⟨rfl, hb4.1⟩
  have hi4 := hb4.2
  have hms4 : MemN _ _ _ _ _ := ⟨rfl, fs4.1⟩
  have his4 := fs4.2
  have hmt4 : MemN _ _ _ _ _ := ⟨rfl, ft4.1⟩
  have hit4 := ft4.2
  clear hb5 fs5 ft5 c105 c115 j15 j25 hm5 hi5 hms5 his5 hmt5 hit5
  have hb5 : Fun.At _ g5 0 k q := ⟨Mem.of_get at5, hin1⟩
  obtain ⟨fs5, ft5, c105, c115, j15, j25⟩ := hb5.get
  have hm5 : MemN _ _ _ _ _ := ⟨rfl, hb5.1⟩
  have hi5 := hb5.2
  have hms5 : MemN _ _ _ _ _ := ⟨rfl, fs5.1⟩
  have his5 := fs5.2
  have hmt5 : MemN _ _ _ _ _ := ⟨rfl, ft5.1⟩
  have hit5 := ft5.2
  clear mm1003
  have mm1003 : MemN _ _ _ _ _ := ⟨rfl, Mem.of_get at1003⟩
  clear hb9 c09 c19 c29 c39 c49 i19 i29 i39 i49 hm9 hi9
  have hb9 : Cat.At _ g9 0 f.s p.s := ⟨Mem.of_get at1003, hin.1⟩
  obtain ⟨c09, c19, c29, c39, c49, i19, i29, i39, i49⟩ := hb9.get
  have hm9 : MemN _ _ _ _ _ := ⟨rfl, hb9.1⟩
  have hi9 := hb9.2
  clear i46
  have i46 := Ints.of_get at46
  clear mm97
  have mm97 : MemN _ _ _ _ _ := ⟨rfl, Mem.of_get at97⟩
  refine .nil ?_
  refine hK29 _ _ ?_
  refine .seq (fun K30 hK30 => ?_)
  refine .region ?_
  obtain ⟨af2, r2, e1, e2, e3⟩ := hF100.ex
  have c26 : GHeap.cell H100 g97 (0 + 26) = some (.slice af2 _ _) := Mem.of_get e1 26 _ rfl
  refine .m rfl rfl rfl (.move rfl) (.m rfl rfl rfl (.nilCheck rfl) (.m rfl rfl rfl (.fieldAddr fo_122_4_Hb rfl) ?_))
  refine .m rfl rfl rfl (.load on_23_B rfl (by assumption)) ?_
  refine .m rfl rfl rfl (.assign rfl) (.nil ?_)
  refine hK30 _ _ ?_
  refine .ret ?_
  refine hret _ _ ?_
  refine ⟨_, rfl, ?_⟩
  rw [List.nil_append, Net.go_all hgood] at e2 e3
  refine ⟨hle, af2, r2, ?_, SlO.intssr e2 e3⟩
  rw [List.nil_append, Net.go_all hgood]
end Go.Proofs.Ytpmjlhbglcaokaa
/- Searches that tell a function of each list they find. No condition. -/
namespace Go.GL
/-- A function that is told of lists. A: what it has gathered; its first block is g1, its second one changes. -/
structure Hears (P : Program) (fn : Nat) (cap : Array Value) (e0 g1 most : Nat) (T : TypeId) (A : Nat → List (List Int) → Nat → GHeap → Prop) : Prop where
  code : ∀ (xs : Array Value) (w : World), (callFunc fn xs).run P w = .ok (.enter fn xs) w
  le : ∀ {b : Nat} {fs : List (List Int)} {gF : Nat} {H H' : GHeap}, A b fs gF H → H.Le H' → A b fs gF H'
  st : ∀ {b : Nat} {fs : List (List Int)} {gF gc : Nat} {H H' : GHeap}, A b fs gF H → e0 ≤ gc → gc < b → gc ≠ gF → St [gc] H H' → A b fs gF H'
  run : ∀ {b : Nat} {fs : List (List Int)} {gF gc : Nat} {q : List Int} {H : GHeap}, A b fs gF H → e0 ≤ gc → gc < b → gc ≠ gF → b ≤ H.next → H.get gc = some (.row (ints q) T true) → fs.length ≤ most → q.length ≤ 8 → gF < H.next →
    GCalls P fn ([.slice (some ⟨gc, 0, none⟩) q.length q.length] ++ cap.toList) H (fun v H' => v = .bool (decide (fs.length + 1 ≤ most)) ∧ ∃ gF', (gF' = gF ∨ H.next ≤ gF') ∧ gF' < H'.next ∧ St [g1, gF] H H' ∧ A b (fs ++ [q]) gF' H')
def Net.okAt (n : Net) (q : List Int) (x a : Nat) : Bool := !(max (n.sr a) (n.tg a) == x) || n.sq a (q.getD (n.sr a) 0) (q.getD (n.tg a) 0)
theorem Net.ok_eq (n : Net) (x : Nat) (q : List Int) : n.ok x q = allN n.A (n.okAt q x) := rfl
theorem Net.okAt_1 {n : Net} {q : List Int} {x a : Nat} (h : ¬ max (n.sr a) (n.tg a) = x) : n.okAt q x a = true := by simp [okAt, h]
theorem Net.okAt_2 {n : Net} {q : List Int} {x a : Nat} (h : max (n.sr a) (n.tg a) = x) : n.okAt q x a = n.sq a (q.getD (n.sr a) 0) (q.getD (n.tg a) 0) := by simp [okAt, h]
/-- What one candidate brings. -/
def chG (n : Net) (al : Int → Bool) (r : Nat) (p : List Int) (h : Int) : List (List Int) := bif al h then (bif n.ok p.length (p ++ [h]) then searchL n.cand n.ok r (p ++ [h]) else []) else []
theorem filter_flatMap {α β : Type} {l : List α} {P : α → Bool} {G : α → List β} : (l.filter P).flatMap G = l.flatMap fun h => bif P h then G h else [] := by
  induction l with
  | nil => rfl
  | cons a l ih =>
    rw [List.filter_cons, List.flatMap_cons, ← ih]
    cases P a <;> simp
theorem searchL_succ {n : Net} {hs : List Int} {al : Int → Bool} {r : Nat} {p : List Int} (h : n.cand p.length = hs.filter al) : searchL n.cand n.ok (r + 1) p = hs.flatMap (chG n al r p) := by
  conv => lhs; unfold searchL
  rw [h, filter_flatMap]
  rfl
theorem flatMap_snoc {α β : Type} {C : List α} {G : α → List β} {k : Nat} {d : α} (hk : k < C.length) : (C.take (k + 1)).flatMap G = (C.take k).flatMap G ++ G (C.getD k d) := by
  rw [List.take_add_one, List.getElem?_eq_getElem hk, List.flatMap_append, List.getD_eq_getElem?_getD, List.getElem?_eq_getElem hk]
  simp
theorem take_set_getD {co : List Int} {x i : Nat} {h : Int} (hx : x < co.length) (hi : i ≤ x) : (co.set x h).getD i 0 = (co.take x ++ [h]).getD i 0 := by
  rw [getD_set hx]
  by_cases e : i = x
  · subst e
    rw [if_pos rfl, List.getD_eq_getElem?_getD, List.getElem?_append_right (by rw [List.length_take]; omega), List.length_take]
    rw [show i - min i co.length = 0 by omega]; rfl
  · rw [if_neg e, getD_app_left (by rw [List.length_take]; omega), getD_take (by omega)]
theorem take_set_lt {co : List Int} {x : Nat} {h : Int} : (co.set x h).take x = co.take x := by
  apply List.ext_getElem?
  intro i
  by_cases hi : i < x
  · rw [List.getElem?_take_of_lt hi, List.getElem?_take_of_lt hi, List.getElem?_set_ne (by omega)]
  · rw [List.getElem?_eq_none (by rw [List.length_take]; omega), List.getElem?_eq_none (by rw [List.length_take]; omega)]
theorem take_set_succ {co : List Int} {x : Nat} {h : Int} (hx : x < co.length) : (co.set x h).take (x + 1) = co.take x ++ [h] := by
  rw [List.take_succ_eq_append_getElem (by simpa using hx), take_set_lt]
  simp
theorem take_le_eq {co co' : List Int} {x y : Nat} (h : co'.take y = co.take y) (hx : x ≤ y) : co'.take x = co.take x := by
  have := congrArg (List.take x) h
  rwa [List.take_take, List.take_take, show min x y = x by omega] at this
theorem takeD {co co' : List Int} {x i : Nat} (h : co'.take x = co.take x) (hi : i < x) : co'.getD i 0 = co.getD i 0 := by
  rw [← getD_take hi, h, getD_take hi]
/-- What the first candidates bring. -/
def chP (n : Net) (al : Int → Bool) (r : Nat) (p : List Int) (hs : List Int) (j : Nat) : List (List Int) := (hs.take j).flatMap (chG n al r p)
theorem chP_zero (n : Net) (al : Int → Bool) (r : Nat) (p hs : List Int) : chP n al r p hs 0 = [] := by simp [chP]
theorem chP_succ {n : Net} {al : Int → Bool} {r : Nat} {p hs : List Int} {j : Nat} (h : j < hs.length) : chP n al r p hs (j + 1) = chP n al r p hs j ++ chG n al r p (hs.getD j 0) := flatMap_snoc h
theorem chP_no {n : Net} {al : Int → Bool} {r : Nat} {p hs : List Int} {j : Nat} (h : j < hs.length) (h0 : chG n al r p (hs.getD j 0) = []) : chP n al r p hs (j + 1) = chP n al r p hs j := by rw [chP_succ h, h0, List.append_nil]
theorem chG_bad {n : Net} {al : Int → Bool} {r : Nat} {p : List Int} {h : Int} (h0 : n.ok p.length (p ++ [h]) = false) : chG n al r p h = [] := by unfold chG; rw [h0]; cases al h <;> rfl
theorem chG_yes {n : Net} {al : Int → Bool} {r : Nat} {p : List Int} {h : Int} (h0 : al h = true) (h1 : n.ok p.length (p ++ [h]) = true) : chG n al r p h = searchL n.cand n.ok r (p ++ [h]) := by unfold chG; rw [h0, h1]; rfl
theorem chP_all {n : Net} {al : Int → Bool} {r : Nat} {p hs : List Int} (h : n.cand p.length = hs.filter al) : searchL n.cand n.ok (r + 1) p = chP n al r p hs hs.length := by unfold chP; rw [List.take_length, searchL_succ h]
theorem chP_full {n : Net} {al : Int → Bool} {r M : Nat} {p hs : List Int} {fs : List (List Int)} {j : Nat} (h : n.cand p.length = hs.filter al) (hj : j < hs.length) (hM : M ≤ (fs ++ chP n al r p hs (j + 1)).length) :
    (fs ++ searchL n.cand n.ok (r + 1) p).take M = (fs ++ chP n al r p hs (j + 1)).take M ∧ M ≤ fs.length + (searchL n.cand n.ok (r + 1) p).length := by
  have e : searchL n.cand n.ok (r + 1) p = chP n al r p hs (j + 1) ++ (hs.drop (j + 1)).flatMap (chG n al r p) := by
    rw [searchL_succ h]
    unfold chP
    rw [← List.flatMap_append, List.take_append_drop]
  rw [List.length_append] at hM
  rw [e, ← List.append_assoc, List.take_append_of_le_length (by rw [List.length_append]; exact hM), List.length_append]
  exact ⟨rfl, by omega⟩
theorem bnot_T {b : Bool} (h : (!b) = true) : b = false := by cases b <;> simp_all
theorem bnot_f {b : Bool} (h : (!b) = false) : b = true := by cases b <;> simp_all
end Go.GL
/- What gathers lists: two ways. No condition. -/
namespace Go.GL
/-- All lists, one behind the other. -/
structure GathL (T1 T2 e : TypeId) (go gm most : Nat) (Tm : TypeId) (b : Nat) (fs : List (List Int)) (gF : Nat) (H : GHeap) : Prop where
  hd : H.get go = some (.row [.slice (some ⟨gF, 0, none⟩) fs.length fs.length] T1 true)
  most : H.get gm = some (.row [.int .i64 (most : Int)] Tm true)
  rows : ∃ r, H.get gF = some (.row (slsL r fs) T2 true) ∧ OwnL b H e r fs
theorem GathL.le {T1 T2 e : TypeId} {go gm most : Nat} {Tm : TypeId} {b : Nat} {fs : List (List Int)} {gF : Nat} {H H' : GHeap} (h : GathL T1 T2 e go gm most Tm b fs gF H) (s : H.Le H') : GathL T1 T2 e go gm most Tm b fs gF H' := by
  obtain ⟨r, h1, h2⟩ := h.rows
  exact ⟨s.2 _ _ h.hd, s.2 _ _ h.most, r, s.2 _ _ h1, h2.mono s⟩
theorem GathL.st {T1 T2 e : TypeId} {go gm most : Nat} {Tm : TypeId} {b : Nat} {fs : List (List Int)} {gF gc : Nat} {H H' : GHeap} (h : GathL T1 T2 e go gm most Tm b fs gF H) (s : St [gc] H H') (h1 : go ≠ gc) (h2 : gm ≠ gc) (h3 : gc ≠ gF) (h4 : gc < b) : GathL T1 T2 e go gm most Tm b fs gF H' := by
  obtain ⟨r, k1, k2⟩ := h.rows
  exact ⟨s.same _ _ ⟨h1, trivial⟩ h.hd, s.same _ _ ⟨h2, trivial⟩ h.most, r, s.same _ _ ⟨Ne.symm h3, trivial⟩ k1, k2.st s (.cons (k2.lowNe h4) (.nil _ _))⟩
theorem row_ne {H : GHeap} {g g' : Nat} {cs cs' : List Value} {e e' : TypeId} (h : H.get g = some (.row cs e true)) (h' : H.get g' = some (.row cs' e' true)) (hne : (e != e') = true) : g ≠ g' := fun ei => by
  subst ei
  rw [h] at h'
  cases h'
  simp at hne
/-- The last list. -/
structure GathI (T e : TypeId) (go : Nat) (b : Nat) (fs : List (List Int)) (gF : Nat) (H : GHeap) : Prop where
  ex : ∃ x, (fs = [] ∧ x = [] ∨ fs = [x]) ∧ H.get go = some (.row [.slice (some ⟨gF, 0, none⟩) x.length x.length] T true) ∧ H.get gF = some (.row (ints x) e true)
theorem GathI.le {T e : TypeId} {go b : Nat} {fs : List (List Int)} {gF : Nat} {H H' : GHeap} (h : GathI T e go b fs gF H) (s : H.Le H') : GathI T e go b fs gF H' := by
  obtain ⟨x, h1, h2, h3⟩ := h.ex
  exact ⟨x, h1, s.2 _ _ h2, s.2 _ _ h3⟩
theorem GathI.st {T e : TypeId} {go b : Nat} {fs : List (List Int)} {gF gc : Nat} {H H' : GHeap} (h : GathI T e go b fs gF H) (s : St [gc] H H') (h1 : go ≠ gc) (h3 : gc ≠ gF) : GathI T e go b fs gF H' := by
  obtain ⟨x, k1, k2, k3⟩ := h.ex
  exact ⟨x, k1, s.same _ _ ⟨h1, trivial⟩ k2, s.same _ _ ⟨Ne.symm h3, trivial⟩ k3⟩
end Go.GL
/- The search for the legs of cones. No condition. -/
namespace Go.GL
/-- The legs of a cone with apex w. -/
def Fun.cnet (d : Fun) (w : Int) : Net where
  cand j := d.t.hom w (d.ob.getD j 0)
  A := d.ar.length
  sr a := (d.s.src.getD a 0).toNat
  tg a := (d.s.tgt.getD a 0).toNat
  sq a u v := decide (d.t.th u (d.ar.getD a 0) = v)
theorem cnet_ne {d : Fun} {w : Int} {a : Nat} {q q' : List Int} (h1 : q.getD (d.s.src.getD a 0).toNat 0 = q'.getD (d.s.src.getD a 0).toNat 0) (h2 : q.getD (d.s.tgt.getD a 0).toNat 0 = q'.getD (d.s.tgt.getD a 0).toNat 0) :
    (!decide (d.t.th (q.getD (d.s.src.getD a 0).toNat 0) (d.ar.getD a 0) = q.getD (d.s.tgt.getD a 0).toNat 0)) = !((d.cnet w).sq a (q'.getD ((d.cnet w).sr a) 0) (q'.getD ((d.cnet w).tg a) 0)) := by
  rw [h1, h2]; rfl
end Go.GL
/- Lists of cones. No condition. -/
namespace Go.GL
def Con.z : Con := ⟨0, []⟩
/-- The cells of a list of cones. -/
def conV (r : Nat → Option Addr) (cs : List Con) : List Value := (List.range cs.length).flatMap fun i => (cs.getD i .z).cells ⟨r i⟩
theorem conV_snoc {r : Nat → Option Addr} {cs : List Con} {c : Con} {a : Option Addr} : conV (upd r cs.length a) (cs ++ [c]) = conV r cs ++ c.cells ⟨a⟩ := by
  unfold conV
  rw [List.length_append, List.length_singleton, List.range_succ, List.flatMap_append]
  congr 1
  · refine flatMap_congr' fun i hi => ?_
    have := List.mem_range.1 hi
    rw [getD_snoc, if_pos this, upd_ne (by omega)]
  · simp only [List.flatMap_cons, List.flatMap_nil, List.append_nil]
    rw [getD_snoc, if_neg (by omega), if_pos rfl, upd_eq]
@[simp] theorem length_conV (r : Nat → Option Addr) (cs : List Con) : (conV r cs).length = cs.length * 2 := by
  unfold conV
  generalize cs.length = n
  induction n with
  | zero => rfl
  | succ n ih => rw [List.range_succ, List.flatMap_append, List.length_append, ih]; simp [Con.cells]; omega
/-- A list of cones; b0, e0, b: where the legs lie. -/
structure ConsAt (T e : TypeId) (b0 : Nat) (H : GHeap) (g : Nat) (r : Nat → Option Addr) (cs : List Con) : Prop where
  hd : H.get g = some (.row (conV r cs) T true)
  rows : OwnL b0 H e r (cs.map Con.lg)
structure GathC (T1 T2 Tx e : TypeId) (go gx b0 e0 : Nat) (x : Int) (pre : List Con) (b : Nat) (fs : List (List Int)) (gF : Nat) (H : GHeap) : Prop where
  hd : H.get go = some (.row [.slice (some ⟨gF, 0, none⟩) (pre ++ fs.map fun l => (⟨x, l⟩ : Con)).length (pre ++ fs.map fun l => (⟨x, l⟩ : Con)).length] T1 true)
  ix : H.get gx = some (.row [.int .i64 x] Tx true)
  rows : ∃ r, H.get gF = some (.row (conV r (pre ++ fs.map fun l => (⟨x, l⟩ : Con))) T2 true) ∧ OwnL b0 H e r ((pre ++ fs.map fun l => (⟨x, l⟩ : Con)).map Con.lg) ∧ ∀ i, i < (pre ++ fs.map fun l => (⟨x, l⟩ : Con)).length → ∀ g, r i = some ⟨g, 0, none⟩ → g < e0 ∨ b ≤ g
theorem GathC.le {T1 T2 Tx e : TypeId} {go gx b0 e0 : Nat} {x : Int} {pre : List Con} {b : Nat} {fs : List (List Int)} {gF : Nat} {H H' : GHeap} (h : GathC T1 T2 Tx e go gx b0 e0 x pre b fs gF H) (s : H.Le H') : GathC T1 T2 Tx e go gx b0 e0 x pre b fs gF H' := by
  obtain ⟨r, h1, h2, h3⟩ := h.rows
  exact ⟨s.2 _ _ h.hd, s.2 _ _ h.ix, r, s.2 _ _ h1, h2.mono s, h3⟩
theorem GathC.st {T1 T2 Tx e : TypeId} {go gx b0 e0 : Nat} {x : Int} {pre : List Con} {b : Nat} {fs : List (List Int)} {gF gc : Nat} {H H' : GHeap} (h : GathC T1 T2 Tx e go gx b0 e0 x pre b fs gF H) (s : St [gc] H H') (h1 : go ≠ gc) (h2 : gx ≠ gc) (h3 : gc ≠ gF) (h4 : e0 ≤ gc) (h5 : gc < b) : GathC T1 T2 Tx e go gx b0 e0 x pre b fs gF H' := by
  obtain ⟨r, k1, k2, k3⟩ := h.rows
  refine ⟨s.same _ _ ⟨h1, trivial⟩ h.hd, s.same _ _ ⟨h2, trivial⟩ h.ix, r, s.same _ _ ⟨Ne.symm h3, trivial⟩ k1, k2.st s (.cons (fun i hi ei => ?_) (.nil _ _)), k3⟩
  rw [List.length_map] at hi
  have := k3 i hi gc ei
  omega
/-- All cones, apex by apex. -/
def Fun.coneL (d : Fun) (n : Nat) : List Con := (List.range n).flatMap fun (w : Nat) => ((d.cnet (w : Int)).sols d.ob.length).map fun l => (⟨(w : Int), l⟩ : Con)
theorem Fun.coneL_succ {d : Fun} {n : Nat} : d.coneL (n + 1) = d.coneL n ++ ((d.cnet (n : Int)).sols d.ob.length).map fun l => (⟨(n : Int), l⟩ : Con) := by
  unfold coneL; rw [List.range_succ, List.flatMap_append]; simp
theorem Fun.coneL_mono {d : Fun} {n m : Nat} (h : n ≤ m) : (d.coneL n).length ≤ (d.coneL m).length := by
  obtain ⟨k, rfl⟩ := Nat.le.dest h
  clear h
  induction k with
  | zero => exact Nat.le_refl _
  | succ k ih => rw [← Nat.add_assoc, Fun.coneL_succ, List.length_append]; omega
theorem Fun.coneL_big {d : Fun} {x n : Nat} (h : x < n) (hb : ¬ ((d.cnet (x : Int)).sols d.ob.length).length ≤ 400 - (d.coneL x).length) (hs : (d.coneL x).length ≤ 400) : 400 < (d.coneL n).length := by
  have h1 := Fun.coneL_mono (d := d) (n := x + 1) (m := n) h
  rw [Fun.coneL_succ, List.length_append, List.length_map] at h1
  omega
theorem Fun.coneL_next {d : Fun} {x : Nat} (hb : ((d.cnet (x : Int)).sols d.ob.length).length ≤ 400 - (d.coneL x).length) : d.coneL x ++ (([] ++ (d.cnet (x : Int)).sols d.ob.length).take (400 - (d.coneL x).length + 1)).map (fun l => (⟨(x : Int), l⟩ : Con)) = d.coneL (x + 1) := by
  rw [List.nil_append, List.take_of_length_le (by omega), Fun.coneL_succ]
theorem OwnL.side {b : Nat} {H : GHeap} {e : TypeId} {r : Nat → Option Addr} {cs : List Con} (h : OwnL b H e r (cs.map Con.lg)) : ∀ i, i < cs.length → ∀ g, r i = some ⟨g, 0, none⟩ → g < H.next := fun i hi g hg => by
  obtain ⟨x, h1, _, h3⟩ := h.row i (by rw [List.length_map]; exact hi)
  rw [h1] at hg
  cases hg
  exact GHeap.lt_of_get h3
theorem take_snocZ {l : List (List Int)} {i : Nat} (h : i < l.length) : l.take (i + 1) = l.take i ++ [l.getD i []] := by
  rw [List.take_add_one, List.getElem?_eq_getElem h, List.getD_eq_getElem?_getD, List.getElem?_eq_getElem h]; rfl
/-- The functor that takes everything to y. -/
def Fun.con (d : Fun) (y : Int) : Fun := ⟨d.s, d.t, List.replicate d.s.obj.toNat y, List.replicate d.s.src.length (d.t.idn.getD y.toNat 0)⟩
theorem repl_getD {n i : Nat} {v : Int} (h : i < n) : (List.replicate n v).getD i 0 = v := by
  rw [List.getD_eq_getElem?_getD, List.getElem?_replicate, if_pos h]; rfl
end Go.GL
