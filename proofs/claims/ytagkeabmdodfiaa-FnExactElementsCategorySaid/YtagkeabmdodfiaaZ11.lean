/- Categories of elements: the program's. No condition but those of each statement. -/
import Derived.Test.YtagkeabmdodfiaaZ10
namespace Go.Proofs.Ytagkeabmdodfiaa
open Go Go.GL Go.RowKit Go.Proofs
theorem on_86_Ee : oneT Try.prog 86 = true := by kernel_rfl
theorem fo_91_2_Ee : fieldOff Try.prog 91 2 = some 6 := by kernel_rfl
theorem fo_91_4_Ee : fieldOff Try.prog 91 4 = some 8 := by kernel_rfl
theorem on_89_Ee : oneT Try.prog 89 = true := by kernel_rfl
theorem on_127_Ee : oneT Try.prog 127 = true := by kernel_rfl
theorem zv_2_Ee : zvT Try.prog 2 = some (.int .i64 0) := by kernel_rfl
theorem ze_127_Ee : zeroT Try.prog 127 = some ([.pointer none], 1) := by kernel_rfl
theorem sz_127_Ee : (Try.prog.info? 127).map (·.size) = some 1 := by kernel_rfl
theorem bt_91_Ee : buildT Try.prog 91 = some ([.int .i64 0, .slice none 0 0, .slice none 0 0, .slice none 0 0, .slice none 0 0, .slice none 0 0, .slice none 0 0, .map none, .map none], [(0, 5), (5, 1), (6, 1), (7, 1), (8, 1)]) := by kernel_rfl
theorem sz_91_Ee : (Try.prog.info? 91).map (·.size) = some 9 := by kernel_rfl
theorem ze_86_Ee : zeroT Try.prog 86 = some ([.pointer none], 1) := by kernel_rfl
theorem sz_86_Ee : (Try.prog.info? 86).map (·.size) = some 1 := by kernel_rfl
theorem fo_91_1_Ee : fieldOff Try.prog 91 1 = some 5 := by kernel_rfl
theorem fo_91_3_Ee : fieldOff Try.prog 91 3 = some 7 := by kernel_rfl
theorem sz_89_Ee : (Try.prog.info? 89).map (·.size) = some 1 := by kernel_rfl
theorem bt_31_Ee : buildT Try.prog 31 = some ([.int .i64 0, .slice none 0 0, .slice none 0 0, .slice none 0 0, .slice none 0 0], [(0, 1), (1, 1), (2, 1), (3, 1), (4, 1)]) := by kernel_rfl
theorem fo_91_0_Ee : fieldOff Try.prog 91 0 = some 0 := by kernel_rfl
theorem column_c {a : Option Addr} {xss : List (List Int)} {r : Nat → Option Addr} {k : Nat} {H : GHeap} (h : Intss H a xss r := by assumption) (hk : ∀ i, i < xss.length → k < (xss.getD i []).length) (hl : xss.length ≤ 1048576 := by omega) (hl2 : ∀ i, i < xss.length → (xss.getD i []).length ≤ 1048576) :
    GCalls Try.prog 93 [.slice a xss.length xss.length, .int .i64 (k : Int)] H (NewInts 2 H (colI xss k)) := by
  refine GCalls.body (N := 24) (rs := [.tmp 4]) Try.func93 rfl rfl rfl rfl (fun Qx hret hend => ?_)
  refine .forget (fr' := [(0, some _), (1, some _)]) ⟨rfl, rfl, trivial⟩ ?_
  have hle := GHeap.Le.refl H
  have base_h := h
  refine .seq (fun K1 hK1 => .region (.mv rfl (.nil (hK1 _ _ (.seq (fun K2 hK2 => .region ?_))))))
  refine .r rfl rfl rfl (.litR rfl sl_22_A ze_2_E rfl rfl (by omega) (by omega) rfl rfl) ?_
  rintro _ H8 ⟨g8, rfl, le8, ge8, at8⟩
  have nx_H8 := le8.1
  replace hle := hle.trans le8
  have lt_at8 := GHeap.ltg at8
  replace h := base_h.mono hle
  replace at8 : GHeap.get H8 g8 = some (.row (ints []) 2 true) := at8
  refine .mv rfl (.nil (hK2 _ _ (.seq (fun K3 hK3 => .seq (fun K4 hK4 => .region (.mv rfl (.m rfl rfl rfl (.len sl_23_B rfl) (.mv rfl (.nil (hK4 _ _ ?_))))))))))
  refine .block ?_
  refine .loopR (σ := Nat × Nat × Nat) [(1, some _), (9, some _), (10, some _)] (fun (i, gL5, nL5) => [(11, some (.int .i64 (i : Int))), (5, some (.slice (some ⟨gL5, 0, none⟩) nL5 nL5))]) (fun (i, gL5, nL5) H' => St [g8] H8 H' ∧ H'.get gL5 = some (.row (ints (colI (xss.take i) k)) 2 true) ∧ (gL5 = g8 ∨ H8.next ≤ gL5) ∧ nL5 = (colI (xss.take i) k).length ∧ i ≤ xss.length) (fun (i, gL5, nL5) => xss.length - i) ((0, _, _)) ⟨rfl, rfl, rfl, trivial⟩ ⟨rfl, rfl, trivial⟩ ?_ ?_
  ·
   refine ⟨.refl _ _, by first | assumption | exact at8 | simpa using at8, .inl rfl, by first | rfl | assumption | simp | omega, ?_⟩
   omega
  rintro ⟨i, gL5, nL5⟩ HL1 ⟨lst1, at_L5, pl_L5, ln_L5, hI⟩ KL1 hKL1
  refine .forget (fr' := [(11, some (.int .i64 (i : Int))), (5, some (.slice (some ⟨gL5, 0, none⟩) nL5 nL5)), (1, some _), (9, some _), (10, some _)]) ⟨rfl, rfl, rfl, rfl, rfl, trivial⟩ ?_
  have ge_L5 : H.next ≤ gL5 := by omega
  have nx_HL1 := lst1.nx
  replace hle := hle.st lst1 (fun k hk => ⟨by omega, trivial⟩)
  have lt_at_L5 := GHeap.ltg at_L5
  replace h := base_h.mono hle
  have hfl : (colI (xss.take i) k).length = i := by rw [length_colI, List.length_take]; omega
  refine .seq (fun K5 hK5 => .region (.m rfl rfl rfl (.cmp rfl rfl rfl) (.nil (hK5 _ _ (.seq (fun K6 hK6 => ?_))))))
  refine .cond rfl (fun h12 => ?_) (fun h12 => ?_)
  ·
   simp only [sps] at h12
   have q1 := hk i (by omega)
   have q2 := hl2 i (by omega)
   have u1 := h.2 i (by omega)
   refine .skip ?_
   refine hK6 _ _ (.seq (fun K7 hK7 => ?_))
   refine .block ?_
   refine .seq (fun K8 hK8 => .region ?_)
   refine .m rfl rfl rfl (.idxN sl_23_B (Intss.sl (by assumption)) rfl rfl (by omega)) ?_
   refine .m rfl rfl rfl (.loadR on_22_B (by assumption) rfl (by omega)) ?_
   refine .mv rfl (.nil (hK8 _ _ (.region (.mv rfl (.mv rfl (.mv rfl ?_))))))
   refine .m rfl rfl rfl (.idxN sl_22_A (by assumption) rfl rfl (by omega)) ?_
   refine .m rfl rfl rfl (.loadI on_2_A (by assumption) rfl (by omega)) ?_
   refine .r rfl rfl rfl (.litR rfl sl_22_A ze_2_E rfl rfl (by omega) (by omega) rfl rfl) ?_
   rintro _ H20 ⟨g20, rfl, le20, ge20, at20⟩
   have nx_H20 := le20.1
   replace hle := hle.trans le20
   replace lst1 := lst1.le le20
   replace at_L5 := le20.2 _ _ at_L5
   have lt_at20 := GHeap.ltg at20
   replace h := base_h.mono hle
   clear u1
   have u1 := h.2 i (by omega)
   refine .r rfl rfl rfl (.appendI rfl sl_22_A ze_2_E rfl by_2_E sl_22_A rfl rfl (by assumption) (by assumption) (by first | omega | (simp <;> omega)) (by omega) (by omega)) ?_
   rintro _ H21 ⟨g21, rfl, st21, ge21, at21⟩
   have nx_H21 := st21.nx
   replace hle := hle.st st21 (fun k hk => ⟨by omega, trivial⟩)
   replace lst1 := lst1.st st21 (fun k hk ho => by simp only [out, and_true] at ho ⊢ <;> first | exact ho | exact ho.1 | exact ho.2 | exact ho.2.1 | exact ho.2.2 | exact ho.2.2.1 | exact ho.2.2.2 | omega)
   replace at20 := st21.same _ _ ⟨(by first | assumption | omega), trivial⟩ at20
   have lt_at21 := GHeap.ltg at21
   replace h := base_h.mono hle
   clear u1
   have u1 := h.2 i (by omega)
   refine .mv rfl (.nil (hK7 _ _ (.region ?_)))
   refine .m rfl rfl rfl (.add rfl rfl rfl (by omega) (by omega)) ?_
   refine .mv rfl (.nil ?_)
   refine hKL1 ((i + 1, _, _)) _ _ ?_ ?_ ⟨rfl, rfl, rfl, rfl, rfl, trivial⟩
   ·
    refine ⟨lst1, by first | assumption | (rw [colI_take (by omega)]; assumption), by omega, by first | omega | (simp only [List.length_append, List.length_cons, List.length_nil] <;> omega) | (rw [colI_take (by omega)] <;> (first | omega | (simp only [List.length_append, List.length_cons, List.length_nil] <;> omega))), ?_⟩
    omega
   (dsimp only; omega)
  try simp only [sps] at h12
  refine .exit ?_
  refine hK3 _ _ (.seq (fun K9 hK9 => .region (.mv rfl (.mv rfl (.nil (hK9 _ _ ?_))))))
  refine .ret ?_
  refine hret _ _ ?_
  refine ⟨_, rfl, ?_⟩
  obtain rfl : i = xss.length := by omega
  rw [List.take_length] at at_L5 ln_L5
  exact ⟨hle, _, by rw [ln_L5], at_L5, by omega⟩
theorem elementsCategory1_c {g o g4 g5 gK gM a b : Nat} {f : SFun} {p : SFunP} {v0 v1 v2 v3 v4 v5 v7 : Value} {aA : Option Addr} {r : Nat → Option Addr} {e1 e2 T : TypeId} {H : GHeap} (hk : H.get g5 = some (.row [.pointer (some ⟨gK, 0, none⟩)] e1 true)) (hc : H.get g4 = some (.row [.pointer (some ⟨g, o, none⟩)] e2 true))
    (hK : H.get gK = some (.row [v0, v1, v2, v3, v4, v5, .slice aA (ecA f).length (ecA f).length, v7, .map (some gM)] T true)) (hM : H.get gM = some (.map (smap (plE (ecA f) (ecA f).length)))) (iA : Intss H aA (ecA f) r) (hcat : Cat.At H g o f.sh p.sh) (hf : f.Is) (hn : (elE f).length ≤ 8) (ha : a < (ecA f).length) (hb : b < (ecA f).length) (e : ((ecA f).getD a []).getD 1 0 = ((ecA f).getD b []).getD 0 0) :
    GCalls Try.prog 95 [.int .i64 (a : Int), .int .i64 (b : Int), .pointer (some ⟨g5, 0, none⟩), .pointer (some ⟨g4, 0, none⟩)] H (fun v H' => H.Le H' ∧ v = .int .i64 (idxLL (ecA f) (ecC f a b))) := by
  have hS := hf.1.c.1
  have hal := ecA_le hf hn
  have hKA := ecA_keys hf hn
  have hcm := ecC_mem hf ha hb e
  have kb := hKA.ok _ hcm
  have hp := lookS_all hKA hcm
  obtain ⟨oa1, oa2, oa3, oa4, oa5, oa6, oa7⟩ := ecA_get ha
  obtain ⟨ob1, ob2, ob3, ob4, ob5, ob6, ob7⟩ := ecA_get hb
  have hcl := hS.cl
  have hrw := hS.row (((ecA f).getD a []).getD 2 0).toNat (by omega)
  refine GCalls.body (N := 45) (rs := [.tmp 6]) Try.func95 rfl rfl rfl rfl (fun Qx hret hend => ?_)
  refine .forget (fr' := [(0, some _), (1, some _), (2, some _), (3, some _)]) ⟨rfl, rfl, rfl, rfl, trivial⟩ ?_
  have hle := GHeap.Le.refl H
  have lt_hk := GHeap.ltg hk
  have lt_hc := GHeap.ltg hc
  have lt_hK := GHeap.ltg hK
  have lt_hM := GHeap.ltg hM
  have base_iA := iA
  have base_hcat := hcat
  have u1 := iA.2 a ha
  have u2 := iA.2 b hb
  refine .seq (fun K1 hK1 => .region (.mv rfl (.nil (hK1 _ _ (.seq (fun K2 hK2 => ?_))))))
  refine .regionD mo_B (.q 0 (.q 1 (.q 2 (.q 3 (.q 4 (.q 5 (.q 6 (.q 7 (.q 8 (.q 9 (.q 10 (.q 11 (.q 12 (.q 13 (.q 14 (.q 15 (.done))))))))))))))))) (by kernel_rfl) ?_
  refine .m rfl rfl rfl rfl (.refl _) (.load on_86_Ee rfl (by first | assumption | exact Mem.of_get hk 0 _ rfl)) ?_
  refine .m rfl rfl rfl rfl (.refl _) (.nilCheck rfl) (.m rfl rfl rfl rfl (.refl _) (.fieldAddr fo_91_2_Ee rfl) ?_)
  refine .m rfl rfl rfl rfl (.refl _) (.load on_23_B rfl (by first | assumption | exact Mem.of_get hK 6 _ rfl)) ?_
  refine .mv rfl rfl ?_
  refine .m rfl rfl rfl rfl (.refl _) (.idxN sl_23_B (Intss.sl (by assumption)) rfl rfl (by omega)) ?_
  refine .m rfl rfl rfl rfl (.refl _) (.loadR on_22_B (by assumption) rfl (by omega)) ?_
  refine .m rfl rfl rfl rfl (.refl _) (.load on_86_Ee rfl (by first | assumption | exact Mem.of_get hk 0 _ rfl)) ?_
  refine .m rfl rfl rfl rfl (.refl _) (.nilCheck rfl) (.m rfl rfl rfl rfl (.refl _) (.fieldAddr fo_91_2_Ee rfl) ?_)
  refine .m rfl rfl rfl rfl (.refl _) (.load on_23_B rfl (by first | assumption | exact Mem.of_get hK 6 _ rfl)) ?_
  refine .mv rfl rfl ?_
  refine .m rfl rfl rfl rfl (.refl _) (.idxN sl_23_B (Intss.sl (by assumption)) rfl rfl (by omega)) ?_
  refine .m rfl rfl rfl rfl (.refl _) (.loadR on_22_B (by assumption) rfl (by omega)) ?_
  refine .mv rfl rfl (.mv rfl rfl ?_)
  refine .done ?_
  refine hK2 _ _ (.seq (fun K3 hK3 => ?_))
  refine .regionD mo_B (.q 0 (.q 1 (.q 2 (.q 3 (.q 4 (.q 5 (.q 6 (.q 7 (.q 8 (.q 9 (.q 10 (.q 11 (.q 12 (.q 13 (.q 14 (.q 15 (.q 16 (.c 17 1 (.c 18 1 (.c 19 1 (.c 20 1 (.q 21 (.q 22 (.done)))))))))))))))))))))))) (by kernel_rfl) ?_
  refine .m rfl rfl rfl rfl (.refl _) (.load on_86_Ee rfl (by first | assumption | exact Mem.of_get hk 0 _ rfl)) ?_
  refine .m rfl rfl rfl rfl (.refl _) (.nilCheck rfl) (.m rfl rfl rfl rfl (.refl _) (.fieldAddr fo_91_4_Ee rfl) ?_)
  refine .m rfl rfl rfl rfl (.refl _) (.load on_89_Ee rfl (by first | assumption | exact Mem.of_get hK 8 _ rfl)) ?_
  refine .mv rfl rfl ?_
  refine .m rfl rfl rfl rfl (.refl _) (.idxN (j := 0) sl_22_A (by assumption) rfl rfl (by omega)) ?_
  refine .m rfl rfl rfl rfl (.refl _) (.loadI on_2_A (by assumption) rfl (by omega)) ?_
  refine .mv rfl rfl ?_
  refine .m rfl rfl rfl rfl (.refl _) (.idxN (j := 1) sl_22_A (by assumption) rfl rfl (by omega)) ?_
  refine .m rfl rfl rfl rfl (.refl _) (.loadI on_2_A (by assumption) rfl (by omega)) ?_
  refine .m rfl rfl rfl rfl (.refl _) (.load on_127_Ee rfl (by first | assumption | exact Mem.of_get hc 0 _ rfl)) ?_
  refine .mv rfl rfl ?_
  refine .m rfl rfl rfl rfl (.refl _) (.idxN (j := 2) sl_22_A (by assumption) rfl rfl (by omega)) ?_
  refine .m rfl rfl rfl rfl (.refl _) (.loadI on_2_A (by assumption) rfl (by omega)) ?_
  refine .mv rfl rfl ?_
  refine .m rfl rfl rfl rfl (.refl _) (.idxN (j := 2) sl_22_A (by assumption) rfl rfl (by omega)) ?_
  refine .m rfl rfl rfl rfl (.refl _) (.loadI on_2_A (by assumption) rfl (by omega)) ?_
  refine .callQ1 rfl rfl rfl rfl rfl @Try.call65 rfl (then_s) (.refl _) ?_
  refine .c1 rfl rfl rfl rfl (.litR rfl sl_22_A ze_2_E rfl rfl (by omega) (by omega) rfl rfl) ?_
  rintro _ H41 ⟨g41, rfl, le41, ge41, at41⟩
  have hbl := le41
  refine ⟨hbl, ?_⟩
  have nx_H41 := le41.1
  replace hle := hle.trans le41
  replace hk := le41.2 _ _ hk
  replace hc := le41.2 _ _ hc
  replace hK := le41.2 _ _ hK
  replace hM := le41.2 _ _ hM
  have lt_at41 := GHeap.ltg at41
  replace iA := base_iA.mono hle
  replace hcat := base_hcat.mono hle
  clear u1 u2
  have u1 := iA.2 a ha
  have u2 := iA.2 b hb
  refine .c1 rfl rfl rfl rfl (.litR rfl sl_23_B ze_22_E rfl rfl (by omega) (by omega) rfl rfl) ?_
  rintro _ H42 ⟨g42, rfl, le42, ge42, at42⟩
  replace hbl := hbl.trans le42
  refine ⟨hbl, ?_⟩
  have nx_H42 := le42.1
  replace hle := hle.trans le42
  replace hk := le42.2 _ _ hk
  replace hc := le42.2 _ _ hc
  replace hK := le42.2 _ _ hK
  replace hM := le42.2 _ _ hM
  replace at41 := le42.2 _ _ at41
  have lt_at42 := GHeap.ltg at42
  replace iA := base_iA.mono hle
  replace hcat := base_hcat.mono hle
  clear u1 u2
  have u1 := iA.2 a ha
  have u2 := iA.2 b hb
  refine .callQ1 rfl rfl rfl rfl rfl @Try.call94 rfl (key_c (xs := ecC f a b) (by assumption) (Ints.of_get (xs := ecC f a b) (by assumption)) rfl (fun j hj => kb.2 j hj) (by show 3 ≤ 1000; omega)) hbl ?_
  refine .m rfl rfl rfl rfl hbl (.lookupS mps_89_Ke zv_2_Ee rfl rfl (by assumption)) ?_
  refine .mv rfl rfl ?_
  refine .done ?_
  refine hK3 _ _ ?_
  refine .ret ?_
  refine hret _ _ ?_
  refine ⟨_, rfl, ?_⟩
  exact ⟨hle, by rw [hp]⟩
def EiNew (T : TypeId) (H : GHeap) (f : SFun) (v : Value) (H' : GHeap) : Prop := H.Le H' ∧ ∃ g, v = .tuple #[.pointer (bif B f.ecOk then some ⟨g, 0, none⟩ else none), .bool (B f.ecOk)] ∧ (f.ecOk → ∃ p a r a2 r2 m1 m2, H'.get g = some (.row ((elsC f).cells p ++ [Value.slice a (elE f).length (elE f).length, Value.slice a2 (ecA f).length (ecA f).length, .map m1, .map m2]) T true) ∧ H.next ≤ g ∧ Three H.next H' (elsC f) p a r (elE f) a2 r2 (ecA f))
set_option maxHeartbeats 16000000 in
theorem elementsCategory_c {g o : Nat} {f : SFun} {p : SFunP} {H : GHeap} (h : SFun.At H g o f p := by assumption) (hf : f.Is) :
    GCalls Try.prog 50 [.pointer (some ⟨g, o, none⟩)] H (EiNew 91 H f) := by
  obtain ⟨l1, l2, l3, l4, l5⟩ := hf.nums
  have hS := hf.1.c.1
  have hsh := hf.1
  refine GCalls.body (N := 177) (rs := [.tmp 2, .tmp 3]) Try.func50 rfl rfl rfl rfl (fun Qx hret hend => ?_)
  refine .forget (fr' := [(0, some _)]) ⟨rfl, trivial⟩ ?_
  have hle := GHeap.Le.refl H
  have base_h := h
  obtain ⟨fshb, c5b, c6b, i1b, i2b⟩ := h.get
  have hmb : MemN _ _ _ _ _ := ⟨rfl, h.1⟩
  have hib := h.2
  have hmshb : MemN _ _ _ _ _ := ⟨rfl, fshb.1⟩
  have hishb := fshb.2
  refine .seq (fun K1 hK1 => .region (.mv rfl (.mv rfl (.nil (hK1 _ _ (.seq (fun K2 hK2 => .seq (fun K3 hK3 => .region ?_))))))))
  have hsum := elE_sum f (fun i hi => (hf.1.sz i hi).1)
  refine .mv rfl ?_
  refine .callQ rfl rfl rfl rfl @Try.call89 rfl (elements_c) ?_
  refine .m rfl rfl rfl (.cmp rfl rfl rfl) (.nil (hK3 _ _ ?_))
  refine .cond rfl (fun h16 => ?_) (fun h16 => ?_)
  ·
   simp only [sps] at h16
   rw [hsum] at h16
   refine .seq (fun K4 hK4 => .region (.mv rfl (.mv rfl (.nil (hK4 _ _ ?_)))))
   refine .ret ?_
   refine hret _ _ ?_
   refine ⟨_, _, rfl, rfl, ?_⟩
   exact ⟨hle, 0, by rw [B_false (p := f.ecOk) (fun h => by have := h.2.1; omega)]; rfl, fun h => by have := h.2.1; omega⟩
  simp only [sps] at h16
  rw [hsum] at h16
  have hn8 : (elE f).length ≤ 8 := by omega
  refine .skip ?_
  refine hK2 _ _ (.seq (fun K5 hK5 => .region (.mv rfl (.m rfl rfl rfl (.nilCheck rfl) (.m rfl rfl rfl (.fieldAddr fo_46_0_P rfl) ?_)))))
  refine .r rfl rfl rfl (.allocR rfl ze_127_Ee rfl) ?_
  rintro _ H4 ⟨g4, rfl, le4, ge4, at4⟩
  have nx_H4 := le4.1
  replace hle := hle.trans le4
  have lt_at4 := GHeap.ltg at4
  replace h := base_h.mono hle
  clear fshb c5b c6b i1b i2b hmb hib hmshb hishb
  obtain ⟨fshb, c5b, c6b, i1b, i2b⟩ := h.get
  have hmb : MemN _ _ _ _ _ := ⟨rfl, h.1⟩
  have hib := h.2
  have hmshb : MemN _ _ _ _ _ := ⟨rfl, fshb.1⟩
  have hishb := fshb.2
  refine .r0 rfl rfl (.storeR rfl sz_127_Ee rfl rfl rfl (by assumption) (by first | exact Nat.le_of_ble_eq_true rfl | (simp; done) | (simp <;> omega))) ?_
  rintro _ H3004 ⟨rfl, st3004, at3004⟩
  have nx_H3004 := st3004.nx
  replace hle := hle.st st3004 (fun k hk => ⟨by omega, trivial⟩)
  have lt_at3004 := GHeap.ltg at3004
  replace h := base_h.mono hle
  clear fshb c5b c6b i1b i2b hmb hib hmshb hishb
  obtain ⟨fshb, c5b, c6b, i1b, i2b⟩ := h.get
  have hmb : MemN _ _ _ _ _ := ⟨rfl, h.1⟩
  have hib := h.2
  have hmshb : MemN _ _ _ _ _ := ⟨rfl, fshb.1⟩
  have hishb := fshb.2
  try simp only [Nat.zero_add, List.set_cons_succ, List.set_cons_zero] at at3004
  refine .nil (hK5 _ _ (.seq (fun K6 hK6 => .region (.mv rfl ?_))))
  refine .call rfl rfl rfl rfl @Try.call90 rfl (elementPairs_c (hf := hf)) ?_
  rintro _ H21 ⟨le21, a21, r21, rfl, v21⟩
  have nx_H21 := le21.1
  replace hle := hle.trans le21
  replace at3004 := le21.2 _ _ at3004
  have bs_v21 := v21
  have lv_v21 : Keep H3004.next H21 H21 := fun _ _ _ h => h
  replace h := base_h.mono hle
  clear fshb c5b c6b i1b i2b hmb hib hmshb hishb
  obtain ⟨fshb, c5b, c6b, i1b, i2b⟩ := h.get
  have hmb : MemN _ _ _ _ _ := ⟨rfl, h.1⟩
  have hib := h.2
  have hmshb : MemN _ _ _ _ _ := ⟨rfl, fshb.1⟩
  have hishb := fshb.2
  have i21 := v21.intss
  refine .m rfl rfl rfl (.build bt_91_Ee rfl rfl rfl) ?_
  refine .r rfl rfl rfl (.boxR rfl sz_91_Ee rfl) ?_
  rintro _ H23 ⟨g23, rfl, le23, ge23, at23⟩
  have nx_H23 := le23.1
  replace hle := hle.trans le23
  replace at3004 := le23.2 _ _ at3004
  replace lv_v21 := Keep.le lv_v21 le23
  replace v21 := bs_v21.keep lv_v21 (Nat.le_refl _)
  have lt_at23 := GHeap.ltg at23
  replace h := base_h.mono hle
  clear fshb c5b c6b i1b i2b hmb hib hmshb hishb
  obtain ⟨fshb, c5b, c6b, i1b, i2b⟩ := h.get
  have hmb : MemN _ _ _ _ _ := ⟨rfl, h.1⟩
  have hib := h.2
  have hmshb : MemN _ _ _ _ _ := ⟨rfl, fshb.1⟩
  have hishb := fshb.2
  clear i21
  have i21 := v21.intss
  have mm23 : MemN _ _ _ _ _ := ⟨rfl, Mem.of_get at23⟩
  refine .r rfl rfl rfl (.allocR rfl ze_86_Ee rfl) ?_
  rintro _ H5 ⟨g5, rfl, le5, ge5, at5⟩
  have nx_H5 := le5.1
  replace hle := hle.trans le5
  replace at3004 := le5.2 _ _ at3004
  replace at23 := le5.2 _ _ at23
  replace lv_v21 := Keep.le lv_v21 le5
  replace v21 := bs_v21.keep lv_v21 (Nat.le_refl _)
  have lt_at5 := GHeap.ltg at5
  replace h := base_h.mono hle
  clear fshb c5b c6b i1b i2b hmb hib hmshb hishb
  obtain ⟨fshb, c5b, c6b, i1b, i2b⟩ := h.get
  have hmb : MemN _ _ _ _ _ := ⟨rfl, h.1⟩
  have hib := h.2
  have hmshb : MemN _ _ _ _ _ := ⟨rfl, fshb.1⟩
  have hishb := fshb.2
  clear i21
  have i21 := v21.intss
  clear mm23
  have mm23 : MemN _ _ _ _ _ := ⟨rfl, Mem.of_get at23⟩
  refine .r0 rfl rfl (.storeR rfl sz_86_Ee rfl rfl rfl (by assumption) (by first | exact Nat.le_of_ble_eq_true rfl | (simp; done) | (simp <;> omega))) ?_
  rintro _ H4005 ⟨rfl, st4005, at4005⟩
  have nx_H4005 := st4005.nx
  replace hle := hle.st st4005 (fun k hk => ⟨by omega, trivial⟩)
  replace at3004 := st4005.same _ _ ⟨(by first | assumption | omega), trivial⟩ at3004
  have ne_g23_g5 : g23 ≠ g5 := by first | assumption | omega
  replace at23 := st4005.same _ _ ⟨ne_g23_g5, trivial⟩ at23
  replace lv_v21 := Keep.st lv_v21 st4005 (fun k hb hk => ⟨(by omega), trivial⟩)
  replace v21 := bs_v21.keep lv_v21 (Nat.le_refl _)
  have lt_at4005 := GHeap.ltg at4005
  replace h := base_h.mono hle
  clear fshb c5b c6b i1b i2b hmb hib hmshb hishb
  obtain ⟨fshb, c5b, c6b, i1b, i2b⟩ := h.get
  have hmb : MemN _ _ _ _ _ := ⟨rfl, h.1⟩
  have hib := h.2
  have hmshb : MemN _ _ _ _ _ := ⟨rfl, fshb.1⟩
  have hishb := fshb.2
  clear i21
  have i21 := v21.intss
  clear mm23
  have mm23 : MemN _ _ _ _ _ := ⟨rfl, Mem.of_get at23⟩
  try simp only [Nat.zero_add, List.set_cons_succ, List.set_cons_zero] at at4005
  refine .nil (hK6 _ _ (.seq (fun K7 hK7 => .seq (fun K8 hK8 => .region ?_))))
  refine .m rfl rfl rfl (.load on_86_Ee rfl (by first | assumption | exact Mem.of_get at4005 0 _ rfl)) ?_
  refine .m rfl rfl rfl (.nilCheck rfl) (.m rfl rfl rfl (.fieldAddr fo_91_1_Ee rfl) ?_)
  refine .m rfl rfl rfl (.load on_23_B rfl (by first | assumption | exact Mem.of_get at23 5 _ rfl)) ?_
  refine .m rfl rfl rfl (.len sl_23_B rfl) (.mv rfl (.nil (hK8 _ _ ?_)))
  refine .block ?_
  refine .hold (fun HhA lehA nxhA => ?_)
  obtain ⟨ghA, hghA⟩ : ∃ g, g = GHeap.next H4005 := ⟨_, rfl⟩
  have no_hA : NO HhA ghA [] 22 0 := NO.start (by omega) rfl rfl
  have nx_HhA := lehA.1
  replace hle := hle.trans lehA
  replace at3004 := lehA.2 _ _ at3004
  replace at23 := lehA.2 _ _ at23
  replace at4005 := lehA.2 _ _ at4005
  replace lv_v21 := Keep.le lv_v21 lehA
  replace v21 := bs_v21.keep lv_v21 (Nat.le_refl _)
  have lt_no_hA := no_hA.lt
  replace h := base_h.mono hle
  clear fshb c5b c6b i1b i2b hmb hib hmshb hishb
  obtain ⟨fshb, c5b, c6b, i1b, i2b⟩ := h.get
  have hmb : MemN _ _ _ _ _ := ⟨rfl, h.1⟩
  have hib := h.2
  have hmshb : MemN _ _ _ _ _ := ⟨rfl, fshb.1⟩
  have hishb := fshb.2
  clear i21
  have i21 := v21.intss
  clear mm23
  have mm23 : MemN _ _ _ _ _ := ⟨rfl, Mem.of_get at23⟩
  refine .loopR (σ := Nat × (Nat → Option Addr) × Nat) [(0, some _), (4, some _), (5, some _), (27, some _), (28, some _)] (fun (i, ra, gLA) => [(29, some (.int .i64 (i : Int)))]) (fun (i, ra, gLA) H' => St [ghA, g23] HhA H' ∧ NO H' gLA (slsL ra (ecL f i 0 0)) 22 ((ecL f i 0 0).length) ∧ PL gLA ghA HhA.next ∧ H'.get g23 = some (.row ([.int .i64 0, .slice none 0 0, .slice none 0 0, .slice none 0 0, .slice none 0 0, .slice a21 (elE f).length (elE f).length, .slice (nz (ecL f i 0 0).length gLA) (ecL f i 0 0).length (ecL f i 0 0).length, .map none, .map none]) 91 true) ∧ gLA ≠ g23 ∧ i ≤ (elE f).length ∧ OwnL H4005.next H' 2 ra (ecL f i 0 0)) (fun (i, ra, gLA) => (elE f).length - i) ((0, fun _ => none, ghA)) ⟨rfl, rfl, rfl, rfl, rfl, trivial⟩ ⟨rfl, trivial⟩ ?_ ?_
  ·
   refine ⟨.refl _ _, by first | assumption | exact NO.start (by omega) (by first | rfl | (simp; done) | omega) (by first | rfl | (simp; done)), ⟨.inl rfl⟩, by first | assumption | exact at23 | simpa using at23, by omega, ?_⟩
   exact ⟨by omega, .nil _ _ _ _⟩
  rintro ⟨i, ra, gLA⟩ HL1 ⟨lst1, no_LA, pl_LA, at_Lg23, ap1_0, hI⟩ KL1 hKL1
  refine .forget (fr' := [(29, some (.int .i64 (i : Int))), (0, some _), (4, some _), (5, some _), (27, some _), (28, some _)]) ⟨rfl, rfl, rfl, rfl, rfl, rfl, trivial⟩ ?_
  have ge_LA : H.next ≤ gLA := pl_LA.ge (by omega) (by omega)
  have nx_HL1 := lst1.nx
  replace hle := hle.st lst1 (fun k hk => ⟨by omega, by omega, trivial⟩)
  have ne_g4_ghA : g4 ≠ ghA := by first | assumption | omega
  have ne_g4_g23 : g4 ≠ g23 := by first | assumption | omega
  replace at3004 := lst1.same _ _ ⟨ne_g4_ghA, ne_g4_g23, trivial⟩ at3004
  have ne_g5_ghA : g5 ≠ ghA := by first | assumption | omega
  replace at4005 := lst1.same _ _ ⟨ne_g5_ghA, (Ne.symm ne_g23_g5), trivial⟩ at4005
  replace lv_v21 := Keep.st lv_v21 lst1 (fun k hb hk => ⟨(by omega), (by omega), trivial⟩)
  replace v21 := bs_v21.keep lv_v21 (Nat.le_refl _)
  have lt_no_LA := no_LA.lt
  have lt_at_Lg23 := GHeap.ltg at_Lg23
  replace h := base_h.mono hle
  clear fshb c5b c6b i1b i2b hmb hib hmshb hishb
  obtain ⟨fshb, c5b, c6b, i1b, i2b⟩ := h.get
  have hmb : MemN _ _ _ _ _ := ⟨rfl, h.1⟩
  have hib := h.2
  have hmshb : MemN _ _ _ _ _ := ⟨rfl, fshb.1⟩
  have hishb := fshb.2
  clear i21
  have i21 := v21.intss
  clear mm23
  have mm23 : MemN _ _ _ _ _ := ⟨rfl, Mem.of_get at23⟩
  obtain ⟨hi2, hR⟩ := hI
  refine .seq (fun K9 hK9 => .region (.m rfl rfl rfl (.cmp rfl rfl rfl) (.nil (hK9 _ _ (.seq (fun K10 hK10 => ?_))))))
  refine .cond rfl (fun h30 => ?_) (fun h30 => ?_)
  ·
   simp only [sps] at h30
   obtain ⟨oi1, oi2, oi3, oi4, oi5, oi6, oi7, oi8⟩ := hf.ecO (i := i) (by omega)
   simp only [ecO] at oi1 oi2 oi3 oi4 oi5 oi6 oi7
   have u1 := i21.2 i (by omega)
   refine .skip ?_
   refine hK10 _ _ (.seq (fun K11 hK11 => ?_))
   refine .block ?_
   refine .seq (fun K12 hK12 => .region (.mv rfl ?_))
   refine .m rfl rfl rfl (.idxN sl_23_B (Intss.sl (by assumption)) rfl rfl (by omega)) ?_
   refine .m rfl rfl rfl (.loadR on_22_B (by assumption) rfl (by omega)) ?_
   refine .mv rfl (.mv rfl (.nil (hK12 _ _ (.seq (fun K13 hK13 => .region ?_)))))
   refine .m rfl rfl rfl (.load on_86_Ee rfl (by first | assumption | exact Mem.of_get at4005 0 _ rfl)) ?_
   refine .m rfl rfl rfl (.nilCheck rfl) (.m rfl rfl rfl (.fieldAddr fo_91_1_Ee rfl) ?_)
   refine .m rfl rfl rfl (.load on_23_B rfl (by first | assumption | exact Mem.of_get at_Lg23 5 _ rfl)) ?_
   refine .m rfl rfl rfl (.len sl_23_B rfl) (.mv rfl (.nil (hK13 _ _ ?_)))
   refine .block ?_
   refine .loopR (σ := Nat × (Nat → Option Addr) × Nat) [(0, some _), (4, some _), (5, some _), (6, some _), (7, some _), (27, some _), (28, some _), (29, some _), (37, some _), (38, some _)] (fun (j, ra2, gLA2) => [(39, some (.int .i64 (j : Int)))]) (fun (j, ra2, gLA2) H' => St [gLA, g23] HL1 H' ∧ NO H' gLA2 (slsL ra2 (ecL f i j 0)) 22 ((ecL f i j 0).length) ∧ PL gLA2 gLA HL1.next ∧ H'.get g23 = some (.row ([.int .i64 0, .slice none 0 0, .slice none 0 0, .slice none 0 0, .slice none 0 0, .slice a21 (elE f).length (elE f).length, .slice (nz (ecL f i j 0).length gLA2) (ecL f i j 0).length (ecL f i j 0).length, .map none, .map none]) 91 true) ∧ gLA2 ≠ g23 ∧ j ≤ (elE f).length ∧ OwnL H4005.next H' 2 ra2 (ecL f i j 0)) (fun (j, ra2, gLA2) => (elE f).length - j) ((0, ra, gLA)) ⟨rfl, rfl, rfl, rfl, rfl, rfl, rfl, rfl, rfl, rfl, trivial⟩ ⟨rfl, trivial⟩ ?_ ?_
   ·
    refine ⟨.refl _ _, by first | assumption | exact NO.start (by omega) (by first | rfl | (simp; done) | omega) (by first | rfl | (simp; done)), ⟨.inl rfl⟩, by first | assumption | exact at_Lg23 | simpa using at_Lg23, by omega, ?_⟩
    exact ⟨by omega, hR⟩
   rintro ⟨j, ra2, gLA2⟩ HL2 ⟨lst2, no_LA2, pl_LA2, at_Lg23, ap2_0, hI⟩ KL2 hKL2
   refine .forget (fr' := [(39, some (.int .i64 (j : Int))), (0, some _), (4, some _), (5, some _), (6, some _), (7, some _), (27, some _), (28, some _), (29, some _), (37, some _), (38, some _)]) ⟨rfl, rfl, rfl, rfl, rfl, rfl, rfl, rfl, rfl, rfl, rfl, trivial⟩ ?_
   have ge_LA2 : H.next ≤ gLA2 := pl_LA2.ge (by omega) (by omega)
   have nx_HL2 := lst2.nx
   replace hle := hle.st lst2 (fun k hk => ⟨by omega, by omega, trivial⟩)
   replace lst1 := lst1.st lst2 (fun k hk ho => by simp only [out, and_true] at ho ⊢ <;> exact ⟨by first | exact ho | exact ho.1 | exact ho.2 | exact ho.2.1 | exact ho.2.2 | exact ho.2.2.1 | exact ho.2.2.2 | exact pl_LA.ne (by first | exact ho | exact ho.1 | exact ho.2 | exact ho.2.1 | exact ho.2.2 | exact ho.2.2.1 | exact ho.2.2.2 | omega) (by omega) | omega, by first | exact ho | exact ho.1 | exact ho.2 | exact ho.2.1 | exact ho.2.2 | exact ho.2.2.1 | exact ho.2.2.2 | omega⟩)
   have ne_g4_gLA : g4 ≠ gLA := pl_LA.ne ne_g4_ghA (by omega)
   replace at3004 := lst2.same _ _ ⟨ne_g4_gLA, ne_g4_g23, trivial⟩ at3004
   have ne_g5_gLA : g5 ≠ gLA := pl_LA.ne ne_g5_ghA (by omega)
   replace at4005 := lst2.same _ _ ⟨ne_g5_gLA, (Ne.symm ne_g23_g5), trivial⟩ at4005
   replace lv_v21 := Keep.st lv_v21 lst2 (fun k hb hk => ⟨(by first | exact pl_LA.ne (by omega) (by omega) | omega), (by omega), trivial⟩)
   replace v21 := bs_v21.keep lv_v21 (Nat.le_refl _)
   have lt_no_LA2 := no_LA2.lt
   have lt_at_Lg23 := GHeap.ltg at_Lg23
   replace h := base_h.mono hle
   clear fshb c5b c6b i1b i2b hmb hib hmshb hishb
   obtain ⟨fshb, c5b, c6b, i1b, i2b⟩ := h.get
   have hmb : MemN _ _ _ _ _ := ⟨rfl, h.1⟩
   have hib := h.2
   have hmshb : MemN _ _ _ _ _ := ⟨rfl, fshb.1⟩
   have hishb := fshb.2
   clear i21
   have i21 := v21.intss
   clear mm23
   have mm23 : MemN _ _ _ _ _ := ⟨rfl, Mem.of_get at23⟩
   clear u1
   have u1 := i21.2 i (by omega)
   obtain ⟨hj2, hR⟩ := hI
   refine .seq (fun K14 hK14 => .region (.m rfl rfl rfl (.cmp rfl rfl rfl) (.nil (hK14 _ _ (.seq (fun K15 hK15 => ?_))))))
   refine .cond rfl (fun h40 => ?_) (fun h40 => ?_)
   ·
    simp only [sps] at h40
    obtain ⟨oj1, oj2, oj3, oj4, oj5, oj6, oj7, oj8⟩ := hf.ecO (i := j) (by omega)
    simp only [ecO] at oj1 oj2 oj3 oj4 oj5 oj6 oj7
    have u2 := i21.2 j (by omega)
    refine .skip ?_
    refine hK15 _ _ (.seq (fun K16 hK16 => ?_))
    refine .block ?_
    refine .seq (fun K17 hK17 => .region (.mv rfl ?_))
    refine .m rfl rfl rfl (.idxN sl_23_B (Intss.sl (by assumption)) rfl rfl (by omega)) ?_
    refine .m rfl rfl rfl (.loadR on_22_B (by assumption) rfl (by omega)) ?_
    refine .mv rfl (.mv rfl (.nil (hK17 _ _ (.seq (fun K18 hK18 => ?_)))))
    refine .regionD mo_B (.q 0 (.q 1 (.q 2 (.q 3 (.q 4 (.q 5 (.q 6 (.q 9 (.c 7 1 (.q 8 (.done))))))))))) (by kernel_rfl) ?_
    refine .m rfl rfl rfl rfl (.refl _) (.load on_127_Ee rfl (by first | assumption | exact Mem.of_get at3004 0 _ rfl)) ?_
    refine .mv rfl rfl ?_
    refine .m rfl rfl rfl rfl (.refl _) (.idxN (j := 0) sl_22_A (by assumption) rfl rfl (by omega)) ?_
    refine .m rfl rfl rfl rfl (.refl _) (.loadI on_2_A (by assumption) rfl (by omega)) ?_
    refine .mv rfl rfl ?_
    refine .m rfl rfl rfl rfl (.refl _) (.idxN (j := 0) sl_22_A (by assumption) rfl rfl (by omega)) ?_
    refine .m rfl rfl rfl rfl (.refl _) (.loadI on_2_A (by assumption) rfl (by omega)) ?_
    refine .mv rfl rfl ?_
    refine .call1 rfl rfl rfl rfl rfl @Try.call91 rfl (hom_c) ?_
    rintro _ H51 ⟨le51, g51, rfl, at51, ge51⟩
    have hbl := le51
    refine ⟨hbl, ?_⟩
    have nx_H51 := le51.1
    replace hle := hle.trans le51
    replace lst1 := lst1.le le51
    replace lst2 := lst2.le le51
    replace at3004 := le51.2 _ _ at3004
    replace at4005 := le51.2 _ _ at4005
    replace no_LA2 := no_LA2.le le51
    replace at_Lg23 := le51.2 _ _ at_Lg23
    replace lv_v21 := Keep.le lv_v21 le51
    replace v21 := bs_v21.keep lv_v21 (Nat.le_refl _)
    have lt_at51 := GHeap.ltg at51
    replace h := base_h.mono hle
    clear fshb c5b c6b i1b i2b hmb hib hmshb hishb
    obtain ⟨fshb, c5b, c6b, i1b, i2b⟩ := h.get
    have hmb : MemN _ _ _ _ _ := ⟨rfl, h.1⟩
    have hib := h.2
    have hmshb : MemN _ _ _ _ _ := ⟨rfl, fshb.1⟩
    have hishb := fshb.2
    clear i21
    have i21 := v21.intss
    clear mm23
    have mm23 : MemN _ _ _ _ _ := ⟨rfl, Mem.of_get at23⟩
    clear u1
    have u1 := i21.2 i (by omega)
    clear u2
    have u2 := i21.2 j (by omega)
    have i51 := Ints.of_get at51
    refine .m rfl rfl rfl rfl hbl (.len sl_22_A rfl) ?_
    refine .done ?_
    refine hK18 _ _ ?_
    refine .block ?_
    refine .loopR (σ := Nat × (Nat → Option Addr) × Nat) [(0, some _), (4, some _), (5, some _), (6, some _), (7, some _), (8, some _), (9, some _), (27, some _), (28, some _), (29, some _), (37, some _), (38, some _), (39, some _), (51, some _), (52, some _)] (fun (k, ra3, gLA3) => [(53, some (.int .i64 (k : Int)))]) (fun (k, ra3, gLA3) H' => St [gLA2, g23] H51 H' ∧ NO H' gLA3 (slsL ra3 (ecL f i j k)) 22 ((ecL f i j k).length) ∧ PL gLA3 gLA2 H51.next ∧ H'.get g23 = some (.row ([.int .i64 0, .slice none 0 0, .slice none 0 0, .slice none 0 0, .slice none 0 0, .slice a21 (elE f).length (elE f).length, .slice (nz (ecL f i j k).length gLA3) (ecL f i j k).length (ecL f i j k).length, .map none, .map none]) 91 true) ∧ gLA3 ≠ g23 ∧ k ≤ (f.sh.hom (((elE f).getD i []).getD 0 0) (((elE f).getD j []).getD 0 0)).length ∧ OwnL H4005.next H' 2 ra3 (ecL f i j k)) (fun (k, ra3, gLA3) => (f.sh.hom (((elE f).getD i []).getD 0 0) (((elE f).getD j []).getD 0 0)).length - k) ((0, ra2, gLA2)) ⟨rfl, rfl, rfl, rfl, rfl, rfl, rfl, rfl, rfl, rfl, rfl, rfl, rfl, rfl, rfl, trivial⟩ ⟨rfl, trivial⟩ ?_ ?_
    ·
     refine ⟨.refl _ _, by first | assumption | exact NO.start (by omega) (by first | rfl | (simp; done) | omega) (by first | rfl | (simp; done)), ⟨.inl rfl⟩, by first | assumption | exact at_Lg23 | simpa using at_Lg23, by omega, ?_⟩
     exact ⟨by omega, hR.keep (.of_le le51)⟩
    rintro ⟨k, ra3, gLA3⟩ HL3 ⟨lst3, no_LA3, pl_LA3, at_Lg23, ap3_0, hI⟩ KL3 hKL3
    refine .forget (fr' := [(53, some (.int .i64 (k : Int))), (0, some _), (4, some _), (5, some _), (6, some _), (7, some _), (8, some _), (9, some _), (27, some _), (28, some _), (29, some _), (37, some _), (38, some _), (39, some _), (51, some _), (52, some _)]) ⟨rfl, rfl, rfl, rfl, rfl, rfl, rfl, rfl, rfl, rfl, rfl, rfl, rfl, rfl, rfl, rfl, trivial⟩ ?_
    have ge_LA3 : H.next ≤ gLA3 := pl_LA3.ge (by omega) (by omega)
    have nx_HL3 := lst3.nx
    replace hle := hle.st lst3 (fun k hk => ⟨by omega, by omega, trivial⟩)
    replace lst1 := lst1.st lst3 (fun k hk ho => by simp only [out, and_true] at ho ⊢ <;> exact ⟨by first | exact ho | exact ho.1 | exact ho.2 | exact ho.2.1 | exact ho.2.2 | exact ho.2.2.1 | exact ho.2.2.2 | exact pl_LA2.ne (by first | exact ho | exact ho.1 | exact ho.2 | exact ho.2.1 | exact ho.2.2 | exact ho.2.2.1 | exact ho.2.2.2 | exact pl_LA.ne (by first | exact ho | exact ho.1 | exact ho.2 | exact ho.2.1 | exact ho.2.2 | exact ho.2.2.1 | exact ho.2.2.2 | omega) (by omega) | omega) (by omega) | omega, by first | exact ho | exact ho.1 | exact ho.2 | exact ho.2.1 | exact ho.2.2 | exact ho.2.2.1 | exact ho.2.2.2 | omega⟩)
    replace lst2 := lst2.st lst3 (fun k hk ho => by simp only [out, and_true] at ho ⊢ <;> exact ⟨by first | exact ho | exact ho.1 | exact ho.2 | exact ho.2.1 | exact ho.2.2 | exact ho.2.2.1 | exact ho.2.2.2 | exact pl_LA2.ne (by first | exact ho | exact ho.1 | exact ho.2 | exact ho.2.1 | exact ho.2.2 | exact ho.2.2.1 | exact ho.2.2.2 | exact pl_LA.ne (by first | exact ho | exact ho.1 | exact ho.2 | exact ho.2.1 | exact ho.2.2 | exact ho.2.2.1 | exact ho.2.2.2 | omega) (by omega) | omega) (by omega) | omega, by first | exact ho | exact ho.1 | exact ho.2 | exact ho.2.1 | exact ho.2.2 | exact ho.2.2.1 | exact ho.2.2.2 | omega⟩)
    have ne_g4_gLA2 : g4 ≠ gLA2 := pl_LA2.ne ne_g4_gLA (by omega)
    replace at3004 := lst3.same _ _ ⟨ne_g4_gLA2, ne_g4_g23, trivial⟩ at3004
    have ne_g5_gLA2 : g5 ≠ gLA2 := pl_LA2.ne ne_g5_gLA (by omega)
    replace at4005 := lst3.same _ _ ⟨ne_g5_gLA2, (Ne.symm ne_g23_g5), trivial⟩ at4005
    have ne_g51_gLA2 : g51 ≠ gLA2 := by first | assumption | omega
    have ne_g51_g23 : g51 ≠ g23 := by first | assumption | omega
    replace at51 := lst3.same _ _ ⟨ne_g51_gLA2, ne_g51_g23, trivial⟩ at51
    replace lv_v21 := Keep.st lv_v21 lst3 (fun k hb hk => ⟨(by first | exact pl_LA2.ne (by first | exact pl_LA.ne (by omega) (by omega) | omega) (by omega) | omega), (by omega), trivial⟩)
    replace v21 := bs_v21.keep lv_v21 (Nat.le_refl _)
    have lt_no_LA3 := no_LA3.lt
    have lt_at_Lg23 := GHeap.ltg at_Lg23
    replace h := base_h.mono hle
    clear fshb c5b c6b i1b i2b hmb hib hmshb hishb
    obtain ⟨fshb, c5b, c6b, i1b, i2b⟩ := h.get
    have hmb : MemN _ _ _ _ _ := ⟨rfl, h.1⟩
    have hib := h.2
    have hmshb : MemN _ _ _ _ _ := ⟨rfl, fshb.1⟩
    have hishb := fshb.2
    clear i21
    have i21 := v21.intss
    clear mm23
    have mm23 : MemN _ _ _ _ _ := ⟨rfl, Mem.of_get at23⟩
    clear u1
    have u1 := i21.2 i (by omega)
    clear u2
    have u2 := i21.2 j (by omega)
    clear i51
    have i51 := Ints.of_get at51
    have rk := St.refl [gLA3, g23] HL3
    obtain ⟨hk2, hR⟩ := hI
    have hatA := no_LA3
    have hat23 := at_Lg23
    have hln := ecL_le hf hn8 (i := i) (j := j) (k := k) (by omega) (by omega) hk2
    have hfl : (slsL ra3 (ecL f i j k)).length = (ecL f i j k).length := length_slsL _ _
    refine .seq (fun K19 hK19 => .region (.m rfl rfl rfl (.cmp rfl rfl rfl) (.nil (hK19 _ _ (.seq (fun K20 hK20 => ?_))))))
    refine .cond rfl (fun h54 => ?_) (fun h54 => ?_)
    ·
     simp only [sps] at h54
     have hhl := f.sh.hom_le (((elE f).getD i []).getD 0 0) (((elE f).getD j []).getD 0 0)
     obtain ⟨hh1, hh2, hh3⟩ := hf.ecH (i := i) (j := j) (k := k) (by omega) (show k < (ecH f i j).length from (by omega : k < (f.sh.hom (((elE f).getD i []).getD 0 0) (((elE f).getD j []).getD 0 0)).length))
     simp only [ecO, ecH] at hh1 hh2 hh3
     have u3 := i2b.2 ((f.sh.hom (((elE f).getD i []).getD 0 0) (((elE f).getD j []).getD 0 0)).getD k 0).toNat (by omega)
     refine .skip ?_
     refine hK20 _ _ (.seq (fun K21 hK21 => ?_))
     refine .block ?_
     refine .seq (fun K22 hK22 => .region ?_)
     refine .m rfl rfl rfl (.idxN sl_22_A (by first | assumption | exact SlA.of_row at51 (by first | rfl | (simp; done) | (simp <;> omega))) rfl rfl (by omega)) ?_
     refine .m rfl rfl rfl (.loadI on_2_A (by first | assumption | exact Ints.of_get at51) rfl (by omega)) ?_
     refine .mv rfl (.nil (hK22 _ _ (.seq (fun K23 hK23 => ?_))))
     refine .regionD mo_B (.q 0 (.q 1 (.q 2 (.q 3 (.q 4 (.q 5 (.q 6 (.q 7 (.q 8 (.q 9 (.q 10 (.q 11 (.q 12 (.q 13 (.q 14 (.q 15 (.done))))))))))))))))) (by kernel_rfl) ?_
     refine .mv rfl rfl (.m rfl rfl rfl rfl (.refl _) (.nilCheck rfl) (.m rfl rfl rfl rfl (.refl _) (.fieldAddr fo_46_2_P rfl) ?_))
     refine .m rfl rfl rfl rfl (.refl _) (.load on_23_B rfl (by assumption)) ?_
     refine .mv rfl rfl ?_
     refine .m rfl rfl rfl rfl (.refl _) (.idx1 sl_23_B (Intss.sl (by assumption)) rfl rfl (by omega) (by omega)) ?_
     refine .m rfl rfl rfl rfl (.refl _) (.loadR on_22_B (by assumption) rfl (by omega)) ?_
     refine .mv rfl rfl ?_
     refine .m rfl rfl rfl rfl (.refl _) (.idxN (j := 1) sl_22_A (by assumption) rfl rfl (by omega)) ?_
     refine .m rfl rfl rfl rfl (.refl _) (.loadI on_2_A (by assumption) rfl (by omega)) ?_
     refine .m rfl rfl rfl rfl (.refl _) (.idx1 sl_22_A (by assumption) rfl rfl (by omega) (by omega)) ?_
     refine .m rfl rfl rfl rfl (.refl _) (.loadI on_2_A (by assumption) rfl (by omega)) ?_
     refine .mv rfl rfl ?_
     refine .m rfl rfl rfl rfl (.refl _) (.idxN (j := 1) sl_22_A (by assumption) rfl rfl (by omega)) ?_
     refine .m rfl rfl rfl rfl (.refl _) (.loadI on_2_A (by assumption) rfl (by omega)) ?_
     refine .m rfl rfl rfl rfl (.refl _) (.cmp rfl rfl rfl) ?_
     refine .done ?_
     refine hK23 _ _ ?_
     refine .cond rfl (fun h72 => ?_) (fun h72 => ?_)
     ·
      simp only [sps] at h72
      have nA5 : g5 ≠ gLA3 := pl_LA3.ne (pl_LA2.ne (pl_LA.ne (by omega) (by omega)) (by omega)) (by omega)
      have nA23 : g23 ≠ gLA3 := pl_LA3.ne (pl_LA2.ne (pl_LA.ne (by omega) (by omega)) (by omega)) (by omega)
      have hsl : (ecL f i j (k + 1)).length = (ecL f i j k).length + 1 := by rw [ecL_T h72, List.length_append]; rfl
      refine .regionDB mo_B (.q 0 (.q 1 (.q 2 (.q 3 (.q 4 (.q 5 (.q 6 (.q 7 (.c 8 1 (.c 9 1 (.c 10 1 (.q 11 (.q 12 (.c 13 0 (.done))))))))))))))) (by kernel_rfl) (GHeap.le_erase HL3 gLA3) ?_
      have hbl := GHeap.le_erase HL3 gLA3
      have at5B := GHeap.get_erase_of (g := gLA3) at4005 nA5
      have at23B := GHeap.get_erase_of (g := gLA3) at_Lg23 nA23
      refine .mB rfl rfl rfl rfl hbl (.load on_86_Ee rfl (Mem.of_get at5B 0 _ rfl)) ?_
      refine .mB rfl rfl rfl rfl hbl (.load on_86_Ee rfl (Mem.of_get at5B 0 _ rfl)) ?_
      refine .mB rfl rfl rfl rfl hbl (.nilCheck rfl) ?_
      refine .mB rfl rfl rfl rfl hbl (.fieldAddr fo_91_2_Ee rfl) ?_
      refine .mB rfl rfl rfl rfl hbl (.load on_23_B rfl (Mem.of_get at23B 6 _ rfl)) ?_
      refine .mB rfl rfl rfl rfl hbl (.move rfl) ?_
      refine .mB rfl rfl rfl rfl hbl (.move rfl) ?_
      refine .mB rfl rfl rfl rfl hbl (.move rfl) ?_
      refine .c1 rfl rfl rfl rfl (.litR rfl sl_22_A ze_2_E rfl rfl (by omega) (by omega) rfl rfl) ?_
      rintro _ H81 ⟨g81, rfl, le81, ge81, at81⟩
      replace hbl := hbl.trans le81
      refine ⟨hbl, ?_⟩
      have nx_H81 := le81.1
      replace hle := hle.trans le81
      replace lst1 := lst1.le le81
      replace lst2 := lst2.le le81
      replace lst3 := lst3.le le81
      replace rk := rk.le le81
      replace at3004 := le81.2 _ _ at3004
      replace at4005 := le81.2 _ _ at4005
      replace at51 := le81.2 _ _ at51
      replace no_LA3 := no_LA3.le le81
      replace at_Lg23 := le81.2 _ _ at_Lg23
      replace lv_v21 := Keep.le lv_v21 le81
      replace v21 := bs_v21.keep lv_v21 (Nat.le_refl _)
      have lt_at81 := GHeap.ltg at81
      replace h := base_h.mono hle
      clear fshb c5b c6b i1b i2b hmb hib hmshb hishb
      obtain ⟨fshb, c5b, c6b, i1b, i2b⟩ := h.get
      have hmb : MemN _ _ _ _ _ := ⟨rfl, h.1⟩
      have hib := h.2
      have hmshb : MemN _ _ _ _ _ := ⟨rfl, fshb.1⟩
      have hishb := fshb.2
      clear i21
      have i21 := v21.intss
      clear mm23
      have mm23 : MemN _ _ _ _ _ := ⟨rfl, Mem.of_get at23⟩
      clear u1
      have u1 := i21.2 i (by omega)
      clear u2
      have u2 := i21.2 j (by omega)
      clear i51
      have i51 := Ints.of_get at51
      clear u3
      have u3 := i2b.2 ((f.sh.hom (((elE f).getD i []).getD 0 0) (((elE f).getD j []).getD 0 0)).getD k 0).toNat (by omega)
      refine .c1 rfl rfl rfl rfl (.litR rfl sl_23_B ze_22_E rfl rfl (by omega) (by omega) rfl rfl) ?_
      rintro _ H82 ⟨g82, rfl, le82, ge82, at82⟩
      replace hbl := hbl.trans le82
      refine ⟨hbl, ?_⟩
      have nx_H82 := le82.1
      replace hle := hle.trans le82
      replace lst1 := lst1.le le82
      replace lst2 := lst2.le le82
      replace lst3 := lst3.le le82
      replace rk := rk.le le82
      replace at3004 := le82.2 _ _ at3004
      replace at4005 := le82.2 _ _ at4005
      replace at51 := le82.2 _ _ at51
      replace no_LA3 := no_LA3.le le82
      replace at_Lg23 := le82.2 _ _ at_Lg23
      replace at81 := le82.2 _ _ at81
      replace lv_v21 := Keep.le lv_v21 le82
      replace v21 := bs_v21.keep lv_v21 (Nat.le_refl _)
      have lt_at82 := GHeap.ltg at82
      replace h := base_h.mono hle
      clear fshb c5b c6b i1b i2b hmb hib hmshb hishb
      obtain ⟨fshb, c5b, c6b, i1b, i2b⟩ := h.get
      have hmb : MemN _ _ _ _ _ := ⟨rfl, h.1⟩
      have hib := h.2
      have hmshb : MemN _ _ _ _ _ := ⟨rfl, fshb.1⟩
      have hishb := fshb.2
      clear i21
      have i21 := v21.intss
      clear mm23
      have mm23 : MemN _ _ _ _ _ := ⟨rfl, Mem.of_get at23⟩
      clear u1
      have u1 := i21.2 i (by omega)
      clear u2
      have u2 := i21.2 j (by omega)
      clear i51
      have i51 := Ints.of_get at51
      clear u3
      have u3 := i2b.2 ((f.sh.hom (((elE f).getD i []).getD 0 0) (((elE f).getD j []).getD 0 0)).getD k 0).toNat (by omega)
      refine .c1 rfl rfl rfl rfl (.appendNO rfl sl_23_B ze_22_E rfl by_22_E sl_23_B rfl rfl no_LA3 (by assumption) (by first | omega | (simp <;> omega)) rfl rfl (by omega) (by omega)) ?_
      rintro _ H83 ⟨g83, rfl, st83, ge83, at83⟩
      refine ⟨(hbl.erase_st st83), ?_⟩
      have nx_H83 := st83.nx
      replace hle := hle.st st83 (fun k hk => ⟨by omega, trivial⟩)
      replace lst1 := lst1.st st83 (fun k hk ho => by simp only [out, and_true] at ho ⊢ <;> first | exact ho | exact ho.1 | exact ho.2 | exact ho.2.1 | exact ho.2.2 | exact ho.2.2.1 | exact ho.2.2.2 | exact pl_LA3.ne (by first | exact ho | exact ho.1 | exact ho.2 | exact ho.2.1 | exact ho.2.2 | exact ho.2.2.1 | exact ho.2.2.2 | exact pl_LA2.ne (by first | exact ho | exact ho.1 | exact ho.2 | exact ho.2.1 | exact ho.2.2 | exact ho.2.2.1 | exact ho.2.2.2 | exact pl_LA.ne (by first | exact ho | exact ho.1 | exact ho.2 | exact ho.2.1 | exact ho.2.2 | exact ho.2.2.1 | exact ho.2.2.2 | omega) (by omega) | omega) (by omega) | omega) (by omega) | omega)
      replace lst2 := lst2.st st83 (fun k hk ho => by simp only [out, and_true] at ho ⊢ <;> first | exact ho | exact ho.1 | exact ho.2 | exact ho.2.1 | exact ho.2.2 | exact ho.2.2.1 | exact ho.2.2.2 | exact pl_LA3.ne (by first | exact ho | exact ho.1 | exact ho.2 | exact ho.2.1 | exact ho.2.2 | exact ho.2.2.1 | exact ho.2.2.2 | exact pl_LA2.ne (by first | exact ho | exact ho.1 | exact ho.2 | exact ho.2.1 | exact ho.2.2 | exact ho.2.2.1 | exact ho.2.2.2 | exact pl_LA.ne (by first | exact ho | exact ho.1 | exact ho.2 | exact ho.2.1 | exact ho.2.2 | exact ho.2.2.1 | exact ho.2.2.2 | omega) (by omega) | omega) (by omega) | omega) (by omega) | omega)
      replace lst3 := lst3.st st83 (fun k hk ho => by simp only [out, and_true] at ho ⊢ <;> first | exact ho | exact ho.1 | exact ho.2 | exact ho.2.1 | exact ho.2.2 | exact ho.2.2.1 | exact ho.2.2.2 | exact pl_LA3.ne (by first | exact ho | exact ho.1 | exact ho.2 | exact ho.2.1 | exact ho.2.2 | exact ho.2.2.1 | exact ho.2.2.2 | exact pl_LA2.ne (by first | exact ho | exact ho.1 | exact ho.2 | exact ho.2.1 | exact ho.2.2 | exact ho.2.2.1 | exact ho.2.2.2 | exact pl_LA.ne (by first | exact ho | exact ho.1 | exact ho.2 | exact ho.2.1 | exact ho.2.2 | exact ho.2.2.1 | exact ho.2.2.2 | omega) (by omega) | omega) (by omega) | omega) (by omega) | omega)
      replace rk := rk.st st83 (fun k hk ho => by simp only [out, and_true] at ho ⊢ <;> first | exact ho | exact ho.1 | exact ho.2 | exact ho.2.1 | exact ho.2.2 | exact ho.2.2.1 | exact ho.2.2.2 | exact pl_LA3.ne (by first | exact ho | exact ho.1 | exact ho.2 | exact ho.2.1 | exact ho.2.2 | exact ho.2.2.1 | exact ho.2.2.2 | exact pl_LA2.ne (by first | exact ho | exact ho.1 | exact ho.2 | exact ho.2.1 | exact ho.2.2 | exact ho.2.2.1 | exact ho.2.2.2 | exact pl_LA.ne (by first | exact ho | exact ho.1 | exact ho.2 | exact ho.2.1 | exact ho.2.2 | exact ho.2.2.1 | exact ho.2.2.2 | omega) (by omega) | omega) (by omega) | omega) (by omega) | omega)
      have ne_g4_gLA3 : g4 ≠ gLA3 := pl_LA3.ne ne_g4_gLA2 (by omega)
      replace at3004 := st83.same _ _ ⟨ne_g4_gLA3, trivial⟩ at3004
      have ne_g5_gLA3 : g5 ≠ gLA3 := pl_LA3.ne ne_g5_gLA2 (by omega)
      replace at4005 := st83.same _ _ ⟨ne_g5_gLA3, trivial⟩ at4005
      have ne_g51_gLA3 : g51 ≠ gLA3 := pl_LA3.ne ne_g51_gLA2 (by omega)
      replace at51 := st83.same _ _ ⟨ne_g51_gLA3, trivial⟩ at51
      replace at_Lg23 := st83.same _ _ ⟨(Ne.symm ap3_0), trivial⟩ at_Lg23
      replace at81 := st83.same _ _ ⟨(by first | assumption | omega), trivial⟩ at81
      replace at82 := st83.same _ _ ⟨(by first | assumption | omega), trivial⟩ at82
      replace lv_v21 := Keep.st lv_v21 st83 (fun k hb hk => ⟨(by first | exact pl_LA3.ne (by first | exact pl_LA2.ne (by first | exact pl_LA.ne (by omega) (by omega) | omega) (by omega) | omega) (by omega) | omega), trivial⟩)
      replace v21 := bs_v21.keep lv_v21 (Nat.le_refl _)
      have lt_at83 := GHeap.ltg at83
      replace h := base_h.mono hle
      clear fshb c5b c6b i1b i2b hmb hib hmshb hishb
      obtain ⟨fshb, c5b, c6b, i1b, i2b⟩ := h.get
      have hmb : MemN _ _ _ _ _ := ⟨rfl, h.1⟩
      have hib := h.2
      have hmshb : MemN _ _ _ _ _ := ⟨rfl, fshb.1⟩
      have hishb := fshb.2
      clear i21
      have i21 := v21.intss
      clear mm23
      have mm23 : MemN _ _ _ _ _ := ⟨rfl, Mem.of_get at23⟩
      clear u1
      have u1 := i21.2 i (by omega)
      clear u2
      have u2 := i21.2 j (by omega)
      clear i51
      have i51 := Ints.of_get at51
      clear u3
      have u3 := i2b.2 ((f.sh.hom (((elE f).getD i []).getD 0 0) (((elE f).getD j []).getD 0 0)).getD k 0).toNat (by omega)
      replace hbl := hbl.erase_st st83
      refine .mB rfl rfl rfl rfl hbl (.nilCheck rfl) ?_
      refine .mB rfl rfl rfl rfl hbl (.fieldAddr fo_91_2_Ee rfl) ?_
      refine .r0 rfl rfl rfl (.storeR rfl sz_23_E rfl rfl rfl (by assumption) (by first | exact Nat.le_of_ble_eq_true rfl | (simp; done) | (simp <;> omega))) ?_
      rintro _ H15013 ⟨rfl, st15013, at15013⟩
      have nx_H15013 := st15013.nx
      replace hle := hle.st st15013 (fun k hk => ⟨by omega, trivial⟩)
      replace lst1 := lst1.st st15013 (fun k hk ho => by simp only [out, and_true] at ho ⊢ <;> first | exact ho | exact ho.1 | exact ho.2 | exact ho.2.1 | exact ho.2.2 | exact ho.2.2.1 | exact ho.2.2.2 | omega)
      replace lst2 := lst2.st st15013 (fun k hk ho => by simp only [out, and_true] at ho ⊢ <;> first | exact ho | exact ho.1 | exact ho.2 | exact ho.2.1 | exact ho.2.2 | exact ho.2.2.1 | exact ho.2.2.2 | omega)
      replace lst3 := lst3.st st15013 (fun k hk ho => by simp only [out, and_true] at ho ⊢ <;> first | exact ho | exact ho.1 | exact ho.2 | exact ho.2.1 | exact ho.2.2 | exact ho.2.2.1 | exact ho.2.2.2 | omega)
      replace rk := rk.st st15013 (fun k hk ho => by simp only [out, and_true] at ho ⊢ <;> first | exact ho | exact ho.1 | exact ho.2 | exact ho.2.1 | exact ho.2.2 | exact ho.2.2.1 | exact ho.2.2.2 | omega)
      replace at3004 := st15013.same _ _ ⟨ne_g4_g23, trivial⟩ at3004
      replace at4005 := st15013.same _ _ ⟨(Ne.symm ne_g23_g5), trivial⟩ at4005
      replace at51 := st15013.same _ _ ⟨ne_g51_g23, trivial⟩ at51
      replace at81 := st15013.same _ _ ⟨(by first | assumption | omega), trivial⟩ at81
      replace at82 := st15013.same _ _ ⟨(by first | assumption | omega), trivial⟩ at82
      replace at83 := st15013.same _ _ ⟨(by first | assumption | omega), trivial⟩ at83
      replace lv_v21 := Keep.st lv_v21 st15013 (fun k hb hk => ⟨(by omega), trivial⟩)
      replace v21 := bs_v21.keep lv_v21 (Nat.le_refl _)
      have lt_at15013 := GHeap.ltg at15013
      replace h := base_h.mono hle
      clear fshb c5b c6b i1b i2b hmb hib hmshb hishb
      obtain ⟨fshb, c5b, c6b, i1b, i2b⟩ := h.get
      have hmb : MemN _ _ _ _ _ := ⟨rfl, h.1⟩
      have hib := h.2
      have hmshb : MemN _ _ _ _ _ := ⟨rfl, fshb.1⟩
      have hishb := fshb.2
      clear i21
      have i21 := v21.intss
      clear mm23
      have mm23 : MemN _ _ _ _ _ := ⟨rfl, Mem.of_get at23⟩
      clear u1
      have u1 := i21.2 i (by omega)
      clear u2
      have u2 := i21.2 j (by omega)
      clear i51
      have i51 := Ints.of_get at51
      clear u3
      have u3 := i2b.2 ((f.sh.hom (((elE f).getD i []).getD 0 0) (((elE f).getD j []).getD 0 0)).getD k 0).toNat (by omega)
      try simp only [Nat.zero_add, List.set_cons_succ, List.set_cons_zero] at at15013
      refine .done ?_
      refine hK21 _ _ (.region ?_)
      refine .m rfl rfl rfl (.add rfl rfl rfl (by omega) (by omega)) ?_
      refine .mv rfl (.nil ?_)
      refine hKL3 ((k + 1, by first | exact upd ra3 (ecL f i j k).length (some ⟨g81, 0, none⟩) | exact ra3, g83)) _ _ ?_ ?_ ⟨rfl, rfl, rfl, rfl, rfl, rfl, rfl, rfl, rfl, rfl, rfl, rfl, rfl, rfl, rfl, rfl, trivial⟩
      ·
       refine ⟨lst3, by first | (first | assumption | (rw [ecL_T h72, slsL_snoc]; assumption) | (rw [ecL_T h72, List.length_append]; assumption) | (rw [ecL_F h72]; assumption)) | exact NO.of (by first | assumption | (rw [ecL_T h72, slsL_snoc]; assumption) | (rw [ecL_T h72, List.length_append]; assumption) | (rw [ecL_F h72]; assumption)) (by omega), by first | assumption | exact ⟨.inr (by omega)⟩ | exact ⟨.inl rfl⟩, by first | assumption | (rw [ecL_T h72, slsL_snoc]; assumption) | (rw [ecL_T h72, List.length_append]; assumption) | (rw [ecL_F h72]; assumption), by first | assumption | omega, ?_⟩
       first | (rw [ecL_F h72]; exact ⟨by omega, hR⟩) | (rw [ecL_T h72]; exact ⟨by omega, (hR.st rk (.cons (hR.neNO hatA rfl rfl) (.cons (hR.neT hat23 rfl) (.nil _ _)))).snoc2 (x := ecP f i j k) (by assumption) (hR.ne (by omega)) (by omega)⟩)
      (dsimp only; omega)
     simp only [sps] at h72
     refine .skip ?_
     refine hK21 _ _ (.region ?_)
     refine .m rfl rfl rfl (.add rfl rfl rfl (by omega) (by omega)) ?_
     refine .mv rfl (.nil ?_)
     refine hKL3 ((k + 1, by first | exact upd ra3 (ecL f i j k).length (some ⟨g81, 0, none⟩) | exact ra3, gLA3)) _ _ ?_ ?_ ⟨rfl, rfl, rfl, rfl, rfl, rfl, rfl, rfl, rfl, rfl, rfl, rfl, rfl, rfl, rfl, rfl, trivial⟩
     ·
      refine ⟨lst3, by first | (first | assumption | (rw [ecL_T h72, slsL_snoc]; assumption) | (rw [ecL_T h72, List.length_append]; assumption) | (rw [ecL_F h72]; assumption)) | exact NO.of (by first | assumption | (rw [ecL_T h72, slsL_snoc]; assumption) | (rw [ecL_T h72, List.length_append]; assumption) | (rw [ecL_F h72]; assumption)) (by omega), by first | assumption | exact ⟨.inr (by omega)⟩ | exact ⟨.inl rfl⟩, by first | assumption | (rw [ecL_T h72, slsL_snoc]; assumption) | (rw [ecL_T h72, List.length_append]; assumption) | (rw [ecL_F h72]; assumption), by first | assumption | omega, ?_⟩
      first | (rw [ecL_F h72]; exact ⟨by omega, hR⟩) | (rw [ecL_T h72]; exact ⟨by omega, (hR.st rk (.cons (hR.neNO hatA rfl rfl) (.cons (hR.neT hat23 rfl) (.nil _ _)))).snoc2 (x := ecP f i j k) (by assumption) (hR.ne (by omega)) (by omega)⟩)
     (dsimp only; omega)
    try simp only [sps] at h54
    refine .exit ?_
    refine hK16 _ _ (.region ?_)
    refine .m rfl rfl rfl (.add rfl rfl rfl (by omega) (by omega)) ?_
    refine .mv rfl (.nil ?_)
    obtain rfl : k = (f.sh.hom (((elE f).getD i []).getD 0 0) (((elE f).getD j []).getD 0 0)).length := by omega
    refine hKL2 ((j + 1, ra3, gLA3)) _ _ ?_ ?_ ⟨rfl, rfl, rfl, rfl, rfl, rfl, rfl, rfl, rfl, rfl, rfl, trivial⟩
    ·
     refine ⟨lst2, by first | (first | assumption | (rw [ecL_next2]; assumption)) | exact NO.of (by first | assumption | (rw [ecL_next2]; assumption)) (by omega), by first | assumption | exact pl_LA3.trans pl_LA2 (by omega) | exact ⟨.inr (by omega)⟩ | exact ⟨.inl rfl⟩, by first | assumption | (rw [ecL_next2]; assumption), by first | assumption | omega, ?_⟩
     exact ⟨by omega, by rw [ecL_next2]; exact hR⟩
    (dsimp only; omega)
   try simp only [sps] at h40
   refine .exit ?_
   refine hK11 _ _ (.region ?_)
   refine .m rfl rfl rfl (.add rfl rfl rfl (by omega) (by omega)) ?_
   refine .mv rfl (.nil ?_)
   obtain rfl : j = (elE f).length := by omega
   refine hKL1 ((i + 1, ra2, gLA2)) _ _ ?_ ?_ ⟨rfl, rfl, rfl, rfl, rfl, rfl, trivial⟩
   ·
    refine ⟨lst1, by first | (first | assumption | (rw [ecL_next1]; assumption)) | exact NO.of (by first | assumption | (rw [ecL_next1]; assumption)) (by omega), by first | assumption | exact pl_LA2.trans pl_LA (by omega) | exact ⟨.inr (by omega)⟩ | exact ⟨.inl rfl⟩, by first | assumption | (rw [ecL_next1]; assumption), by first | assumption | omega, ?_⟩
    exact ⟨by omega, by rw [ecL_next1]; exact hR⟩
   (dsimp only; omega)
  try simp only [sps] at h30
  refine .exit ?_
  refine hK7 _ _ (.seq (fun K24 hK24 => .seq (fun K25 hK25 => .region ?_)))
  obtain rfl : i = (elE f).length := by omega
  rw [show ecL f (elE f).length 0 0 = ecA f from rfl] at no_LA at_Lg23 hR
  have gA : H4005.next ≤ gLA := pl_LA.ge (by omega) (by omega)
  have vA : IntssR H4005.next HL1 (nz (ecA f).length gLA) (ecA f) ra := hR.doneNO no_LA rfl gA
  have vA0 := vA
  have hal := ecA_le hf hn8
  have hat1 := at_Lg23
  refine .m rfl rfl rfl (.load on_86_Ee rfl (by first | assumption | exact Mem.of_get at4005 0 _ rfl)) ?_
  have bs_vA := vA
  have lv_vA : Keep H4005.next HL1 HL1 := fun _ _ _ h => h
  have iA := vA.intss
  refine .m rfl rfl rfl (.nilCheck rfl) (.m rfl rfl rfl (.fieldAddr fo_91_2_Ee rfl) ?_)
  refine .m rfl rfl rfl (.load on_23_B rfl (by first | assumption | exact Mem.of_get at_Lg23 6 _ rfl)) ?_
  refine .m rfl rfl rfl (.len sl_23_B rfl) (.m rfl rfl rfl (.cmp rfl rfl rfl) (.nil (hK25 _ _ ?_)))
  refine .cond rfl (fun h94 => ?_) (fun h94 => ?_)
  ·
   simp only [sps] at h94
   refine .seq (fun K26 hK26 => .region (.mv rfl (.mv rfl (.nil (hK26 _ _ ?_)))))
   refine .ret ?_
   refine hret _ _ ?_
   refine ⟨_, _, rfl, rfl, ?_⟩
   exact ⟨hle, 0, by rw [B_false (p := f.ecOk) (fun h => by have := h.2.2; omega)]; rfl, fun h => by have := h.2.2; omega⟩
  simp only [sps] at h94
  have hm40 : (ecA f).length ≤ 40 := by omega
  have hKE := elE_keys hf
  have hKA := ecA_keys hf hn8
  refine .skip ?_
  refine hK24 _ _ (.seq (fun K27 hK27 => ?_))
  refine .regionDB mo_B (.q 0 (.q 1 (.q 2 (.q 3 (.q 4 (.q 7 (.q 8 (.q 9 (.or (.c 5 1 (.or (.c 6 1 (.c 10 1 (.c 11 1 (.q 12 (.q 13 (.c 14 1 (.q 15 (.q 16 (.c 17 0 (.done)))))))))) (.c 10 1 (.c 6 1 (.c 11 1 (.q 12 (.q 13 (.c 14 1 (.q 15 (.q 16 (.c 17 0 (.done)))))))))))) (.c 10 1 (.c 5 1 (.c 6 1 (.c 11 1 (.q 12 (.q 13 (.c 14 1 (.q 15 (.q 16 (.c 17 0 (.done)))))))))))))))))))) (by kernel_rfl) (GHeap.le_erase HL1 g23) ?_
  have hbl := GHeap.le_erase HL1 g23
  have at5B := GHeap.get_erase_of (g := g23) at4005 (by omega)
  refine .cut [(0, some _), (4, some _), (5, some _), (27, some _), (28, some _), (29, some _), (30, some _), (89, some _), (90, some _), (91, some _), (92, some _), (93, some _), (94, some _)] ⟨rfl, rfl, rfl, rfl, rfl, rfl, rfl, rfl, rfl, rfl, rfl, rfl, rfl, trivial⟩ (fun rest fr' H' => ∃ (gO : Nat) (gM : Nat), Sub rest fr' ∧ St [g23] HL1 H' ∧ H'.get g23 = some (.row [.int .i64 0, .slice none 0 0, .slice none 0 0, .slice none 0 0, .slice none 0 0, .slice a21 (elE f).length (elE f).length, .slice (nz (ecA f).length gLA) (ecA f).length (ecA f).length, .map (some gO), .map (some gM)] 91 true) ∧ H'.get gM = some (.map (smap (plE (ecA f) (ecA f).length))) ∧ HL1.next ≤ gM) ?_ ?_
  ·
   have hf0 := St.refl [g23] HL1
   refine .mB rfl rfl rfl rfl hbl (.load on_86_Ee rfl (Mem.of_get at5B 0 _ rfl)) ?_
   refine .mB rfl rfl rfl rfl hbl (.load on_86_Ee rfl (Mem.of_get at5B 0 _ rfl)) ?_
   refine .mB rfl rfl rfl rfl hbl (.load on_86_Ee rfl (Mem.of_get at5B 0 _ rfl)) ?_
   refine .mB rfl rfl rfl rfl hbl (.nilCheck rfl) ?_
   refine .mB rfl rfl rfl rfl hbl (.fieldAddr fo_91_1_Ee rfl) ?_
   refine .mB rfl rfl rfl rfl hbl (.load on_86_Ee rfl (Mem.of_get at5B 0 _ rfl)) ?_
   refine .mB rfl rfl rfl rfl hbl (.nilCheck rfl) ?_
   refine .mB rfl rfl rfl rfl hbl (.fieldAddr fo_91_2_Ee rfl) ?_
   refine .orI ?_ ?_
   ·
    refine .d1 rfl rfl rfl rfl (.quiet (.load on_23_B rfl (by first | assumption | exact Mem.of_get at_Lg23 5 _ rfl)) CIs.mk) hbl ?_
    refine .orI ?_ ?_
    ·
     refine .call1 rfl rfl rfl rfl rfl @Try.call92 rfl (places_c i21 hKE (by omega) (by omega)) ?_
     rintro _ H101 ⟨le101, g101, rfl, at101, ge101⟩
     replace hbl := hbl.trans le101
     refine ⟨hbl, ?_⟩
     have nx_H101 := le101.1
     replace hle := hle.trans le101
     replace lst1 := lst1.le le101
     replace hf0 := hf0.le le101
     replace at3004 := le101.2 _ _ at3004
     replace at4005 := le101.2 _ _ at4005
     replace no_LA := no_LA.le le101
     replace at_Lg23 := le101.2 _ _ at_Lg23
     replace lv_v21 := Keep.le lv_v21 le101
     replace v21 := bs_v21.keep lv_v21 (Nat.le_refl _)
     replace lv_vA := Keep.le lv_vA le101
     replace vA := bs_vA.keep lv_vA (Nat.le_refl _)
     have lt_at101 := GHeap.ltg at101
     replace h := base_h.mono hle
     clear fshb c5b c6b i1b i2b hmb hib hmshb hishb
     obtain ⟨fshb, c5b, c6b, i1b, i2b⟩ := h.get
     have hmb : MemN _ _ _ _ _ := ⟨rfl, h.1⟩
     have hib := h.2
     have hmshb : MemN _ _ _ _ _ := ⟨rfl, fshb.1⟩
     have hishb := fshb.2
     clear i21
     have i21 := v21.intss
     clear mm23
     have mm23 : MemN _ _ _ _ _ := ⟨rfl, Mem.of_get at23⟩
     clear iA
     have iA := vA.intss
     refine .d1 rfl rfl rfl rfl (.quiet (.load on_23_B rfl (by first | assumption | exact Mem.of_get at_Lg23 6 _ rfl)) CIs.mk) hbl ?_
     refine .call1 rfl rfl rfl rfl rfl @Try.call92 rfl (places_c iA hKA (by omega) (by omega)) ?_
     rintro _ H106 ⟨le106, g106, rfl, at106, ge106⟩
     replace hbl := hbl.trans le106
     refine ⟨hbl, ?_⟩
     have nx_H106 := le106.1
     replace hle := hle.trans le106
     replace lst1 := lst1.le le106
     replace hf0 := hf0.le le106
     replace at3004 := le106.2 _ _ at3004
     replace at4005 := le106.2 _ _ at4005
     replace no_LA := no_LA.le le106
     replace at_Lg23 := le106.2 _ _ at_Lg23
     replace at101 := le106.2 _ _ at101
     replace lv_v21 := Keep.le lv_v21 le106
     replace v21 := bs_v21.keep lv_v21 (Nat.le_refl _)
     replace lv_vA := Keep.le lv_vA le106
     replace vA := bs_vA.keep lv_vA (Nat.le_refl _)
     have lt_at106 := GHeap.ltg at106
     replace h := base_h.mono hle
     clear fshb c5b c6b i1b i2b hmb hib hmshb hishb
     obtain ⟨fshb, c5b, c6b, i1b, i2b⟩ := h.get
     have hmb : MemN _ _ _ _ _ := ⟨rfl, h.1⟩
     have hib := h.2
     have hmshb : MemN _ _ _ _ _ := ⟨rfl, fshb.1⟩
     have hishb := fshb.2
     clear i21
     have i21 := v21.intss
     clear mm23
     have mm23 : MemN _ _ _ _ _ := ⟨rfl, Mem.of_get at23⟩
     clear iA
     have iA := vA.intss
     refine .mB rfl rfl rfl rfl hbl (.nilCheck rfl) ?_
     refine .mB rfl rfl rfl rfl hbl (.fieldAddr fo_91_3_Ee rfl) ?_
     refine .r1 rfl rfl rfl (.storeR rfl sz_89_Ee rfl rfl rfl (by assumption) (by first | exact Nat.le_of_ble_eq_true rfl | (simp; done) | (simp <;> omega))) ?_
     rintro _ H21014 ⟨rfl, st21014, at21014⟩
     replace hbl := hbl.erase_st st21014
     refine ⟨hbl, ?_⟩
     have nx_H21014 := st21014.nx
     replace hle := hle.st st21014 (fun k hk => ⟨by omega, trivial⟩)
     replace lst1 := lst1.st st21014 (fun k hk ho => by simp only [out, and_true] at ho ⊢ <;> first | exact ho | exact ho.1 | exact ho.2 | exact ho.2.1 | exact ho.2.2 | exact ho.2.2.1 | exact ho.2.2.2 | omega)
     replace hf0 := hf0.st st21014 (fun k hk ho => by simp only [out, and_true] at ho ⊢ <;> first | exact ho | exact ho.1 | exact ho.2 | exact ho.2.1 | exact ho.2.2 | exact ho.2.2.1 | exact ho.2.2.2 | omega)
     replace at3004 := st21014.same _ _ ⟨ne_g4_g23, trivial⟩ at3004
     replace at4005 := st21014.same _ _ ⟨(Ne.symm ne_g23_g5), trivial⟩ at4005
     replace no_LA := no_LA.st st21014 ⟨ap1_0, trivial⟩
     have ne_g101_g23 : g101 ≠ g23 := by first | assumption | omega
     replace at101 := st21014.same _ _ ⟨ne_g101_g23, trivial⟩ at101
     have ne_g106_g23 : g106 ≠ g23 := by first | assumption | omega
     replace at106 := st21014.same _ _ ⟨ne_g106_g23, trivial⟩ at106
     replace lv_v21 := Keep.st lv_v21 st21014 (fun k hb hk => ⟨(by omega), trivial⟩)
     replace v21 := bs_v21.keep lv_v21 (Nat.le_refl _)
     replace lv_vA := Keep.st lv_vA st21014 (fun k hb hk => ⟨(by omega), trivial⟩)
     replace vA := bs_vA.keep lv_vA (Nat.le_refl _)
     have lt_at21014 := GHeap.ltg at21014
     replace h := base_h.mono hle
     clear fshb c5b c6b i1b i2b hmb hib hmshb hishb
     obtain ⟨fshb, c5b, c6b, i1b, i2b⟩ := h.get
     have hmb : MemN _ _ _ _ _ := ⟨rfl, h.1⟩
     have hib := h.2
     have hmshb : MemN _ _ _ _ _ := ⟨rfl, fshb.1⟩
     have hishb := fshb.2
     clear i21
     have i21 := v21.intss
     clear mm23
     have mm23 : MemN _ _ _ _ _ := ⟨rfl, Mem.of_get at23⟩
     clear iA
     have iA := vA.intss
     try simp only [Nat.zero_add, List.set_cons_succ, List.set_cons_zero] at at21014
     refine .mB rfl rfl rfl rfl hbl (.nilCheck rfl) ?_
     refine .mB rfl rfl rfl rfl hbl (.fieldAddr fo_91_4_Ee rfl) ?_
     refine .r0 rfl rfl rfl (.storeR rfl sz_89_Ee rfl rfl rfl (by assumption) (by first | exact Nat.le_of_ble_eq_true rfl | (simp; done) | (simp <;> omega))) ?_
     rintro _ H21017 ⟨rfl, st21017, at21017⟩
     have nx_H21017 := st21017.nx
     replace hle := hle.st st21017 (fun k hk => ⟨by omega, trivial⟩)
     replace lst1 := lst1.st st21017 (fun k hk ho => by simp only [out, and_true] at ho ⊢ <;> first | exact ho | exact ho.1 | exact ho.2 | exact ho.2.1 | exact ho.2.2 | exact ho.2.2.1 | exact ho.2.2.2 | omega)
     replace hf0 := hf0.st st21017 (fun k hk ho => by simp only [out, and_true] at ho ⊢ <;> first | exact ho | exact ho.1 | exact ho.2 | exact ho.2.1 | exact ho.2.2 | exact ho.2.2.1 | exact ho.2.2.2 | omega)
     replace at3004 := st21017.same _ _ ⟨ne_g4_g23, trivial⟩ at3004
     replace at4005 := st21017.same _ _ ⟨(Ne.symm ne_g23_g5), trivial⟩ at4005
     replace no_LA := no_LA.st st21017 ⟨ap1_0, trivial⟩
     replace at101 := st21017.same _ _ ⟨ne_g101_g23, trivial⟩ at101
     replace at106 := st21017.same _ _ ⟨ne_g106_g23, trivial⟩ at106
     replace lv_v21 := Keep.st lv_v21 st21017 (fun k hb hk => ⟨(by omega), trivial⟩)
     replace v21 := bs_v21.keep lv_v21 (Nat.le_refl _)
     replace lv_vA := Keep.st lv_vA st21017 (fun k hb hk => ⟨(by omega), trivial⟩)
     replace vA := bs_vA.keep lv_vA (Nat.le_refl _)
     have lt_at21017 := GHeap.ltg at21017
     replace h := base_h.mono hle
     clear fshb c5b c6b i1b i2b hmb hib hmshb hishb
     obtain ⟨fshb, c5b, c6b, i1b, i2b⟩ := h.get
     have hmb : MemN _ _ _ _ _ := ⟨rfl, h.1⟩
     have hib := h.2
     have hmshb : MemN _ _ _ _ _ := ⟨rfl, fshb.1⟩
     have hishb := fshb.2
     clear i21
     have i21 := v21.intss
     clear mm23
     have mm23 : MemN _ _ _ _ _ := ⟨rfl, Mem.of_get at23⟩
     clear iA
     have iA := vA.intss
     try simp only [Nat.zero_add, List.set_cons_succ, List.set_cons_zero] at at21017
     refine .done ?_
     exact ⟨_, _, ⟨rfl, rfl, rfl, rfl, rfl, rfl, rfl, rfl, rfl, rfl, rfl, rfl, rfl, trivial⟩, hf0, by assumption, by assumption, by omega⟩
    refine .d1 rfl rfl rfl rfl (.quiet (.load on_23_B rfl (by first | assumption | exact Mem.of_get at_Lg23 6 _ rfl)) CIs.mk) hbl ?_
    refine .call1 rfl rfl rfl rfl rfl @Try.call92 rfl (places_c i21 hKE (by omega) (by omega)) ?_
    rintro _ H101x2 ⟨le101x2, g101x2, rfl, at101x2, ge101x2⟩
    replace hbl := hbl.trans le101x2
    refine ⟨hbl, ?_⟩
    have nx_H101x2 := le101x2.1
    replace hle := hle.trans le101x2
    replace lst1 := lst1.le le101x2
    replace hf0 := hf0.le le101x2
    replace at3004 := le101x2.2 _ _ at3004
    replace at4005 := le101x2.2 _ _ at4005
    replace no_LA := no_LA.le le101x2
    replace at_Lg23 := le101x2.2 _ _ at_Lg23
    replace lv_v21 := Keep.le lv_v21 le101x2
    replace v21 := bs_v21.keep lv_v21 (Nat.le_refl _)
    replace lv_vA := Keep.le lv_vA le101x2
    replace vA := bs_vA.keep lv_vA (Nat.le_refl _)
    have lt_at101x2 := GHeap.ltg at101x2
    replace h := base_h.mono hle
    clear fshb c5b c6b i1b i2b hmb hib hmshb hishb
    obtain ⟨fshb, c5b, c6b, i1b, i2b⟩ := h.get
    have hmb : MemN _ _ _ _ _ := ⟨rfl, h.1⟩
    have hib := h.2
    have hmshb : MemN _ _ _ _ _ := ⟨rfl, fshb.1⟩
    have hishb := fshb.2
    clear i21
    have i21 := v21.intss
    clear mm23
    have mm23 : MemN _ _ _ _ _ := ⟨rfl, Mem.of_get at23⟩
    clear iA
    have iA := vA.intss
    refine .call1 rfl rfl rfl rfl rfl @Try.call92 rfl (places_c iA hKA (by omega) (by omega)) ?_
    rintro _ H106x2 ⟨le106x2, g106x2, rfl, at106x2, ge106x2⟩
    replace hbl := hbl.trans le106x2
    refine ⟨hbl, ?_⟩
    have nx_H106x2 := le106x2.1
    replace hle := hle.trans le106x2
    replace lst1 := lst1.le le106x2
    replace hf0 := hf0.le le106x2
    replace at3004 := le106x2.2 _ _ at3004
    replace at4005 := le106x2.2 _ _ at4005
    replace no_LA := no_LA.le le106x2
    replace at_Lg23 := le106x2.2 _ _ at_Lg23
    replace at101x2 := le106x2.2 _ _ at101x2
    replace lv_v21 := Keep.le lv_v21 le106x2
    replace v21 := bs_v21.keep lv_v21 (Nat.le_refl _)
    replace lv_vA := Keep.le lv_vA le106x2
    replace vA := bs_vA.keep lv_vA (Nat.le_refl _)
    have lt_at106x2 := GHeap.ltg at106x2
    replace h := base_h.mono hle
    clear fshb c5b c6b i1b i2b hmb hib hmshb hishb
    obtain ⟨fshb, c5b, c6b, i1b, i2b⟩ := h.get
    have hmb : MemN _ _ _ _ _ := ⟨rfl, h.1⟩
    have hib := h.2
    have hmshb : MemN _ _ _ _ _ := ⟨rfl, fshb.1⟩
    have hishb := fshb.2
    clear i21
    have i21 := v21.intss
    clear mm23
    have mm23 : MemN _ _ _ _ _ := ⟨rfl, Mem.of_get at23⟩
    clear iA
    have iA := vA.intss
    refine .mB rfl rfl rfl rfl hbl (.nilCheck rfl) ?_
    refine .mB rfl rfl rfl rfl hbl (.fieldAddr fo_91_3_Ee rfl) ?_
    refine .r1 rfl rfl rfl (.storeR rfl sz_89_Ee rfl rfl rfl (by assumption) (by first | exact Nat.le_of_ble_eq_true rfl | (simp; done) | (simp <;> omega))) ?_
    rintro _ H21014x2 ⟨rfl, st21014x2, at21014x2⟩
    replace hbl := hbl.erase_st st21014x2
    refine ⟨hbl, ?_⟩
    have nx_H21014x2 := st21014x2.nx
    replace hle := hle.st st21014x2 (fun k hk => ⟨by omega, trivial⟩)
    replace lst1 := lst1.st st21014x2 (fun k hk ho => by simp only [out, and_true] at ho ⊢ <;> first | exact ho | exact ho.1 | exact ho.2 | exact ho.2.1 | exact ho.2.2 | exact ho.2.2.1 | exact ho.2.2.2 | omega)
    replace hf0 := hf0.st st21014x2 (fun k hk ho => by simp only [out, and_true] at ho ⊢ <;> first | exact ho | exact ho.1 | exact ho.2 | exact ho.2.1 | exact ho.2.2 | exact ho.2.2.1 | exact ho.2.2.2 | omega)
    replace at3004 := st21014x2.same _ _ ⟨ne_g4_g23, trivial⟩ at3004
    replace at4005 := st21014x2.same _ _ ⟨(Ne.symm ne_g23_g5), trivial⟩ at4005
    replace no_LA := no_LA.st st21014x2 ⟨ap1_0, trivial⟩
    have ne_g101x2_g23 : g101x2 ≠ g23 := by first | assumption | omega
    replace at101x2 := st21014x2.same _ _ ⟨ne_g101x2_g23, trivial⟩ at101x2
    have ne_g106x2_g23 : g106x2 ≠ g23 := by first | assumption | omega
    replace at106x2 := st21014x2.same _ _ ⟨ne_g106x2_g23, trivial⟩ at106x2
    replace lv_v21 := Keep.st lv_v21 st21014x2 (fun k hb hk => ⟨(by omega), trivial⟩)
    replace v21 := bs_v21.keep lv_v21 (Nat.le_refl _)
    replace lv_vA := Keep.st lv_vA st21014x2 (fun k hb hk => ⟨(by omega), trivial⟩)
    replace vA := bs_vA.keep lv_vA (Nat.le_refl _)
    have lt_at21014x2 := GHeap.ltg at21014x2
    replace h := base_h.mono hle
    clear fshb c5b c6b i1b i2b hmb hib hmshb hishb
    obtain ⟨fshb, c5b, c6b, i1b, i2b⟩ := h.get
    have hmb : MemN _ _ _ _ _ := ⟨rfl, h.1⟩
    have hib := h.2
    have hmshb : MemN _ _ _ _ _ := ⟨rfl, fshb.1⟩
    have hishb := fshb.2
    clear i21
    have i21 := v21.intss
    clear mm23
    have mm23 : MemN _ _ _ _ _ := ⟨rfl, Mem.of_get at23⟩
    clear iA
    have iA := vA.intss
    try simp only [Nat.zero_add, List.set_cons_succ, List.set_cons_zero] at at21014x2
    refine .mB rfl rfl rfl rfl hbl (.nilCheck rfl) ?_
    refine .mB rfl rfl rfl rfl hbl (.fieldAddr fo_91_4_Ee rfl) ?_
    refine .r0 rfl rfl rfl (.storeR rfl sz_89_Ee rfl rfl rfl (by assumption) (by first | exact Nat.le_of_ble_eq_true rfl | (simp; done) | (simp <;> omega))) ?_
    rintro _ H21017x2 ⟨rfl, st21017x2, at21017x2⟩
    have nx_H21017x2 := st21017x2.nx
    replace hle := hle.st st21017x2 (fun k hk => ⟨by omega, trivial⟩)
    replace lst1 := lst1.st st21017x2 (fun k hk ho => by simp only [out, and_true] at ho ⊢ <;> first | exact ho | exact ho.1 | exact ho.2 | exact ho.2.1 | exact ho.2.2 | exact ho.2.2.1 | exact ho.2.2.2 | omega)
    replace hf0 := hf0.st st21017x2 (fun k hk ho => by simp only [out, and_true] at ho ⊢ <;> first | exact ho | exact ho.1 | exact ho.2 | exact ho.2.1 | exact ho.2.2 | exact ho.2.2.1 | exact ho.2.2.2 | omega)
    replace at3004 := st21017x2.same _ _ ⟨ne_g4_g23, trivial⟩ at3004
    replace at4005 := st21017x2.same _ _ ⟨(Ne.symm ne_g23_g5), trivial⟩ at4005
    replace no_LA := no_LA.st st21017x2 ⟨ap1_0, trivial⟩
    replace at101x2 := st21017x2.same _ _ ⟨ne_g101x2_g23, trivial⟩ at101x2
    replace at106x2 := st21017x2.same _ _ ⟨ne_g106x2_g23, trivial⟩ at106x2
    replace lv_v21 := Keep.st lv_v21 st21017x2 (fun k hb hk => ⟨(by omega), trivial⟩)
    replace v21 := bs_v21.keep lv_v21 (Nat.le_refl _)
    replace lv_vA := Keep.st lv_vA st21017x2 (fun k hb hk => ⟨(by omega), trivial⟩)
    replace vA := bs_vA.keep lv_vA (Nat.le_refl _)
    have lt_at21017x2 := GHeap.ltg at21017x2
    replace h := base_h.mono hle
    clear fshb c5b c6b i1b i2b hmb hib hmshb hishb
    obtain ⟨fshb, c5b, c6b, i1b, i2b⟩ := h.get
    have hmb : MemN _ _ _ _ _ := ⟨rfl, h.1⟩
    have hib := h.2
    have hmshb : MemN _ _ _ _ _ := ⟨rfl, fshb.1⟩
    have hishb := fshb.2
    clear i21
    have i21 := v21.intss
    clear mm23
    have mm23 : MemN _ _ _ _ _ := ⟨rfl, Mem.of_get at23⟩
    clear iA
    have iA := vA.intss
    try simp only [Nat.zero_add, List.set_cons_succ, List.set_cons_zero] at at21017x2
    refine .done ?_
    exact ⟨_, _, ⟨rfl, rfl, rfl, rfl, rfl, rfl, rfl, rfl, rfl, rfl, rfl, rfl, rfl, trivial⟩, hf0, by assumption, by assumption, by omega⟩
   refine .d1 rfl rfl rfl rfl (.quiet (.load on_23_B rfl (by first | assumption | exact Mem.of_get at_Lg23 6 _ rfl)) CIs.mk) hbl ?_
   refine .d1 rfl rfl rfl rfl (.quiet (.load on_23_B rfl (by first | assumption | exact Mem.of_get at_Lg23 5 _ rfl)) CIs.mk) hbl ?_
   refine .call1 rfl rfl rfl rfl rfl @Try.call92 rfl (places_c i21 hKE (by omega) (by omega)) ?_
   rintro _ H101x3 ⟨le101x3, g101x3, rfl, at101x3, ge101x3⟩
   replace hbl := hbl.trans le101x3
   refine ⟨hbl, ?_⟩
   have nx_H101x3 := le101x3.1
   replace hle := hle.trans le101x3
   replace lst1 := lst1.le le101x3
   replace hf0 := hf0.le le101x3
   replace at3004 := le101x3.2 _ _ at3004
   replace at4005 := le101x3.2 _ _ at4005
   replace no_LA := no_LA.le le101x3
   replace at_Lg23 := le101x3.2 _ _ at_Lg23
   replace lv_v21 := Keep.le lv_v21 le101x3
   replace v21 := bs_v21.keep lv_v21 (Nat.le_refl _)
   replace lv_vA := Keep.le lv_vA le101x3
   replace vA := bs_vA.keep lv_vA (Nat.le_refl _)
   have lt_at101x3 := GHeap.ltg at101x3
   replace h := base_h.mono hle
   clear fshb c5b c6b i1b i2b hmb hib hmshb hishb
   obtain ⟨fshb, c5b, c6b, i1b, i2b⟩ := h.get
   have hmb : MemN _ _ _ _ _ := ⟨rfl, h.1⟩
   have hib := h.2
   have hmshb : MemN _ _ _ _ _ := ⟨rfl, fshb.1⟩
   have hishb := fshb.2
   clear i21
   have i21 := v21.intss
   clear mm23
   have mm23 : MemN _ _ _ _ _ := ⟨rfl, Mem.of_get at23⟩
   clear iA
   have iA := vA.intss
   refine .call1 rfl rfl rfl rfl rfl @Try.call92 rfl (places_c iA hKA (by omega) (by omega)) ?_
   rintro _ H106x3 ⟨le106x3, g106x3, rfl, at106x3, ge106x3⟩
   replace hbl := hbl.trans le106x3
   refine ⟨hbl, ?_⟩
   have nx_H106x3 := le106x3.1
   replace hle := hle.trans le106x3
   replace lst1 := lst1.le le106x3
   replace hf0 := hf0.le le106x3
   replace at3004 := le106x3.2 _ _ at3004
   replace at4005 := le106x3.2 _ _ at4005
   replace no_LA := no_LA.le le106x3
   replace at_Lg23 := le106x3.2 _ _ at_Lg23
   replace at101x3 := le106x3.2 _ _ at101x3
   replace lv_v21 := Keep.le lv_v21 le106x3
   replace v21 := bs_v21.keep lv_v21 (Nat.le_refl _)
   replace lv_vA := Keep.le lv_vA le106x3
   replace vA := bs_vA.keep lv_vA (Nat.le_refl _)
   have lt_at106x3 := GHeap.ltg at106x3
   replace h := base_h.mono hle
   clear fshb c5b c6b i1b i2b hmb hib hmshb hishb
   obtain ⟨fshb, c5b, c6b, i1b, i2b⟩ := h.get
   have hmb : MemN _ _ _ _ _ := ⟨rfl, h.1⟩
   have hib := h.2
   have hmshb : MemN _ _ _ _ _ := ⟨rfl, fshb.1⟩
   have hishb := fshb.2
   clear i21
   have i21 := v21.intss
   clear mm23
   have mm23 : MemN _ _ _ _ _ := ⟨rfl, Mem.of_get at23⟩
   clear iA
   have iA := vA.intss
   refine .mB rfl rfl rfl rfl hbl (.nilCheck rfl) ?_
   refine .mB rfl rfl rfl rfl hbl (.fieldAddr fo_91_3_Ee rfl) ?_
   refine .r1 rfl rfl rfl (.storeR rfl sz_89_Ee rfl rfl rfl (by assumption) (by first | exact Nat.le_of_ble_eq_true rfl | (simp; done) | (simp <;> omega))) ?_
   rintro _ H21014x3 ⟨rfl, st21014x3, at21014x3⟩
   replace hbl := hbl.erase_st st21014x3
   refine ⟨hbl, ?_⟩
   have nx_H21014x3 := st21014x3.nx
   replace hle := hle.st st21014x3 (fun k hk => ⟨by omega, trivial⟩)
   replace lst1 := lst1.st st21014x3 (fun k hk ho => by simp only [out, and_true] at ho ⊢ <;> first | exact ho | exact ho.1 | exact ho.2 | exact ho.2.1 | exact ho.2.2 | exact ho.2.2.1 | exact ho.2.2.2 | omega)
   replace hf0 := hf0.st st21014x3 (fun k hk ho => by simp only [out, and_true] at ho ⊢ <;> first | exact ho | exact ho.1 | exact ho.2 | exact ho.2.1 | exact ho.2.2 | exact ho.2.2.1 | exact ho.2.2.2 | omega)
   replace at3004 := st21014x3.same _ _ ⟨ne_g4_g23, trivial⟩ at3004
   replace at4005 := st21014x3.same _ _ ⟨(Ne.symm ne_g23_g5), trivial⟩ at4005
   replace no_LA := no_LA.st st21014x3 ⟨ap1_0, trivial⟩
   have ne_g101x3_g23 : g101x3 ≠ g23 := by first | assumption | omega
   replace at101x3 := st21014x3.same _ _ ⟨ne_g101x3_g23, trivial⟩ at101x3
   have ne_g106x3_g23 : g106x3 ≠ g23 := by first | assumption | omega
   replace at106x3 := st21014x3.same _ _ ⟨ne_g106x3_g23, trivial⟩ at106x3
   replace lv_v21 := Keep.st lv_v21 st21014x3 (fun k hb hk => ⟨(by omega), trivial⟩)
   replace v21 := bs_v21.keep lv_v21 (Nat.le_refl _)
   replace lv_vA := Keep.st lv_vA st21014x3 (fun k hb hk => ⟨(by omega), trivial⟩)
   replace vA := bs_vA.keep lv_vA (Nat.le_refl _)
   have lt_at21014x3 := GHeap.ltg at21014x3
   replace h := base_h.mono hle
   clear fshb c5b c6b i1b i2b hmb hib hmshb hishb
   obtain ⟨fshb, c5b, c6b, i1b, i2b⟩ := h.get
   have hmb : MemN _ _ _ _ _ := ⟨rfl, h.1⟩
   have hib := h.2
   have hmshb : MemN _ _ _ _ _ := ⟨rfl, fshb.1⟩
   have hishb := fshb.2
   clear i21
   have i21 := v21.intss
   clear mm23
   have mm23 : MemN _ _ _ _ _ := ⟨rfl, Mem.of_get at23⟩
   clear iA
   have iA := vA.intss
   try simp only [Nat.zero_add, List.set_cons_succ, List.set_cons_zero] at at21014x3
   refine .mB rfl rfl rfl rfl hbl (.nilCheck rfl) ?_
   refine .mB rfl rfl rfl rfl hbl (.fieldAddr fo_91_4_Ee rfl) ?_
   refine .r0 rfl rfl rfl (.storeR rfl sz_89_Ee rfl rfl rfl (by assumption) (by first | exact Nat.le_of_ble_eq_true rfl | (simp; done) | (simp <;> omega))) ?_
   rintro _ H21017x3 ⟨rfl, st21017x3, at21017x3⟩
   have nx_H21017x3 := st21017x3.nx
   replace hle := hle.st st21017x3 (fun k hk => ⟨by omega, trivial⟩)
   replace lst1 := lst1.st st21017x3 (fun k hk ho => by simp only [out, and_true] at ho ⊢ <;> first | exact ho | exact ho.1 | exact ho.2 | exact ho.2.1 | exact ho.2.2 | exact ho.2.2.1 | exact ho.2.2.2 | omega)
   replace hf0 := hf0.st st21017x3 (fun k hk ho => by simp only [out, and_true] at ho ⊢ <;> first | exact ho | exact ho.1 | exact ho.2 | exact ho.2.1 | exact ho.2.2 | exact ho.2.2.1 | exact ho.2.2.2 | omega)
   replace at3004 := st21017x3.same _ _ ⟨ne_g4_g23, trivial⟩ at3004
   replace at4005 := st21017x3.same _ _ ⟨(Ne.symm ne_g23_g5), trivial⟩ at4005
   replace no_LA := no_LA.st st21017x3 ⟨ap1_0, trivial⟩
   replace at101x3 := st21017x3.same _ _ ⟨ne_g101x3_g23, trivial⟩ at101x3
   replace at106x3 := st21017x3.same _ _ ⟨ne_g106x3_g23, trivial⟩ at106x3
   replace lv_v21 := Keep.st lv_v21 st21017x3 (fun k hb hk => ⟨(by omega), trivial⟩)
   replace v21 := bs_v21.keep lv_v21 (Nat.le_refl _)
   replace lv_vA := Keep.st lv_vA st21017x3 (fun k hb hk => ⟨(by omega), trivial⟩)
   replace vA := bs_vA.keep lv_vA (Nat.le_refl _)
   have lt_at21017x3 := GHeap.ltg at21017x3
   replace h := base_h.mono hle
   clear fshb c5b c6b i1b i2b hmb hib hmshb hishb
   obtain ⟨fshb, c5b, c6b, i1b, i2b⟩ := h.get
   have hmb : MemN _ _ _ _ _ := ⟨rfl, h.1⟩
   have hib := h.2
   have hmshb : MemN _ _ _ _ _ := ⟨rfl, fshb.1⟩
   have hishb := fshb.2
   clear i21
   have i21 := v21.intss
   clear mm23
   have mm23 : MemN _ _ _ _ _ := ⟨rfl, Mem.of_get at23⟩
   clear iA
   have iA := vA.intss
   try simp only [Nat.zero_add, List.set_cons_succ, List.set_cons_zero] at at21017x3
   refine .done ?_
   exact ⟨_, _, ⟨rfl, rfl, rfl, rfl, rfl, rfl, rfl, rfl, rfl, rfl, rfl, rfl, rfl, trivial⟩, hf0, by assumption, by assumption, by omega⟩
  rintro fr921 H921 ⟨gO21, gM21, hsub921, st921, at921, hmO, ge921⟩
  have nx_H921 := st921.nx
  replace hle := hle.st st921 (fun k hk => ⟨by omega, trivial⟩)
  replace lst1 := lst1.st st921 (fun k hk ho => by simp only [out, and_true] at ho ⊢ <;> first | exact ho | exact ho.1 | exact ho.2 | exact ho.2.1 | exact ho.2.2 | exact ho.2.2.1 | exact ho.2.2.2 | omega)
  replace at3004 := st921.same _ _ ⟨ne_g4_g23, trivial⟩ at3004
  replace at4005 := st921.same _ _ ⟨(Ne.symm ne_g23_g5), trivial⟩ at4005
  replace no_LA := no_LA.st st921 ⟨ap1_0, trivial⟩
  replace lv_v21 := Keep.st lv_v21 st921 (fun k hb hk => ⟨(by omega), trivial⟩)
  replace v21 := bs_v21.keep lv_v21 (Nat.le_refl _)
  replace lv_vA := Keep.st lv_vA st921 (fun k hb hk => ⟨(by omega), trivial⟩)
  replace vA := bs_vA.keep lv_vA (Nat.le_refl _)
  have lt_at921 := GHeap.ltg at921
  have lt_hmO := GHeap.ltg hmO
  replace h := base_h.mono hle
  clear fshb c5b c6b i1b i2b hmb hib hmshb hishb
  obtain ⟨fshb, c5b, c6b, i1b, i2b⟩ := h.get
  have hmb : MemN _ _ _ _ _ := ⟨rfl, h.1⟩
  have hib := h.2
  have hmshb : MemN _ _ _ _ _ := ⟨rfl, fshb.1⟩
  have hishb := fshb.2
  clear i21
  have i21 := v21.intss
  clear mm23
  have mm23 : MemN _ _ _ _ _ := ⟨rfl, Mem.of_get at23⟩
  clear iA
  have iA := vA.intss
  refine hK27 _ _ ?_
  refine .forget hsub921 ?_
  refine .seq (fun K28 hK28 => ?_)
  refine .regionD mo_B (.q 0 (.q 1 (.q 2 (.q 3 (.q 4 (.q 5 (.q 6 (.q 7 (.q 8 (.q 9 (.q 11 (.q 12 (.q 13 (.q 14 (.c 10 1 (.c 15 1 (.q 16 (.q 17 (.q 18 (.c 19 0 (.done))))))))))))))))))))) (by kernel_rfl) ?_
  refine .m rfl rfl rfl rfl (.refl _) (.load on_86_Ee rfl (by first | assumption | exact Mem.of_get at4005 0 _ rfl)) ?_
  refine .m rfl rfl rfl rfl (.refl _) (.load on_86_Ee rfl (by first | assumption | exact Mem.of_get at4005 0 _ rfl)) ?_
  refine .m rfl rfl rfl rfl (.refl _) (.nilCheck rfl) (.m rfl rfl rfl rfl (.refl _) (.fieldAddr fo_91_1_Ee rfl) ?_)
  refine .m rfl rfl rfl rfl (.refl _) (.load on_23_B rfl (by first | assumption | exact Mem.of_get at921 5 _ rfl)) ?_
  refine .m rfl rfl rfl rfl (.refl _) (.len sl_23_B rfl) ?_
  refine .m rfl rfl rfl rfl (.refl _) (.load on_86_Ee rfl (by first | assumption | exact Mem.of_get at4005 0 _ rfl)) ?_
  refine .m rfl rfl rfl rfl (.refl _) (.nilCheck rfl) (.m rfl rfl rfl rfl (.refl _) (.fieldAddr fo_91_2_Ee rfl) ?_)
  refine .m rfl rfl rfl rfl (.refl _) (.load on_23_B rfl (by first | assumption | exact Mem.of_get at921 6 _ rfl)) ?_
  refine .m rfl rfl rfl rfl (.refl _) (.load on_86_Ee rfl (by first | assumption | exact Mem.of_get at4005 0 _ rfl)) ?_
  refine .m rfl rfl rfl rfl (.refl _) (.nilCheck rfl) (.m rfl rfl rfl rfl (.refl _) (.fieldAddr fo_91_2_Ee rfl) ?_)
  refine .m rfl rfl rfl rfl (.refl _) (.load on_23_B rfl (by first | assumption | exact Mem.of_get at921 6 _ rfl)) ?_
  refine .call1 rfl rfl rfl rfl rfl @Try.call93 rfl (column_c (xss := ecA f) iA (k := 0) (fun i hi => by have := (ecA_get hi).l3; omega) (by omega) (fun i hi => by have := (ecA_get hi).l3; omega)) ?_
  rintro _ H121 ⟨le121, g121, rfl, at121, ge121⟩
  have hbl := le121
  refine ⟨hbl, ?_⟩
  have nx_H121 := le121.1
  replace hle := hle.trans le121
  replace lst1 := lst1.le le121
  replace at3004 := le121.2 _ _ at3004
  replace at4005 := le121.2 _ _ at4005
  replace no_LA := no_LA.le le121
  replace at921 := le121.2 _ _ at921
  replace hmO := le121.2 _ _ hmO
  replace lv_v21 := Keep.le lv_v21 le121
  replace v21 := bs_v21.keep lv_v21 (Nat.le_refl _)
  replace lv_vA := Keep.le lv_vA le121
  replace vA := bs_vA.keep lv_vA (Nat.le_refl _)
  have lt_at121 := GHeap.ltg at121
  replace h := base_h.mono hle
  clear fshb c5b c6b i1b i2b hmb hib hmshb hishb
  obtain ⟨fshb, c5b, c6b, i1b, i2b⟩ := h.get
  have hmb : MemN _ _ _ _ _ := ⟨rfl, h.1⟩
  have hib := h.2
  have hmshb : MemN _ _ _ _ _ := ⟨rfl, fshb.1⟩
  have hishb := fshb.2
  clear i21
  have i21 := v21.intss
  clear mm23
  have mm23 : MemN _ _ _ _ _ := ⟨rfl, Mem.of_get at23⟩
  clear iA
  have iA := vA.intss
  have i121 := Ints.of_get at121
  refine .call1 rfl rfl rfl rfl rfl @Try.call93 rfl (column_c (xss := ecA f) iA (k := 1) (fun i hi => by have := (ecA_get hi).l3; omega) (by omega) (fun i hi => by have := (ecA_get hi).l3; omega)) ?_
  rintro _ H126 ⟨le126, g126, rfl, at126, ge126⟩
  replace hbl := hbl.trans le126
  refine ⟨hbl, ?_⟩
  have nx_H126 := le126.1
  replace hle := hle.trans le126
  replace lst1 := lst1.le le126
  replace at3004 := le126.2 _ _ at3004
  replace at4005 := le126.2 _ _ at4005
  replace no_LA := no_LA.le le126
  replace at921 := le126.2 _ _ at921
  replace hmO := le126.2 _ _ hmO
  replace at121 := le126.2 _ _ at121
  replace lv_v21 := Keep.le lv_v21 le126
  replace v21 := bs_v21.keep lv_v21 (Nat.le_refl _)
  replace lv_vA := Keep.le lv_vA le126
  replace vA := bs_vA.keep lv_vA (Nat.le_refl _)
  have lt_at126 := GHeap.ltg at126
  replace h := base_h.mono hle
  clear fshb c5b c6b i1b i2b hmb hib hmshb hishb
  obtain ⟨fshb, c5b, c6b, i1b, i2b⟩ := h.get
  have hmb : MemN _ _ _ _ _ := ⟨rfl, h.1⟩
  have hib := h.2
  have hmshb : MemN _ _ _ _ _ := ⟨rfl, fshb.1⟩
  have hishb := fshb.2
  clear i21
  have i21 := v21.intss
  clear mm23
  have mm23 : MemN _ _ _ _ _ := ⟨rfl, Mem.of_get at23⟩
  clear iA
  have iA := vA.intss
  clear i121
  have i121 := Ints.of_get at121
  have i126 := Ints.of_get at126
  refine .m rfl rfl rfl rfl hbl (.build bt_31_Ee rfl rfl rfl) (.m rfl rfl rfl rfl (.refl _) (.nilCheck rfl) (.m rfl rfl rfl rfl (.refl _) (.fieldAddr fo_91_0_Ee rfl) ?_))
  refine .r0 rfl rfl rfl (.storeNR rfl sz_31_D rfl rfl rfl rfl (by assumption) (by first | rfl | exact Nat.le_of_ble_eq_true rfl | simp)) ?_
  rintro _ H22019 ⟨rfl, st22019, at22019⟩
  have nx_H22019 := st22019.nx
  replace hle := hle.st st22019 (fun k hk => ⟨by omega, trivial⟩)
  replace lst1 := lst1.st st22019 (fun k hk ho => by simp only [out, and_true] at ho ⊢ <;> first | exact ho | exact ho.1 | exact ho.2 | exact ho.2.1 | exact ho.2.2 | exact ho.2.2.1 | exact ho.2.2.2 | omega)
  replace at3004 := st22019.same _ _ ⟨ne_g4_g23, trivial⟩ at3004
  replace at4005 := st22019.same _ _ ⟨(Ne.symm ne_g23_g5), trivial⟩ at4005
  replace no_LA := no_LA.st st22019 ⟨ap1_0, trivial⟩
  have ne_gM21_g23 : gM21 ≠ g23 := by first | assumption | omega
  replace hmO := st22019.same _ _ ⟨ne_gM21_g23, trivial⟩ hmO
  have ne_g121_g23 : g121 ≠ g23 := by first | assumption | omega
  replace at121 := st22019.same _ _ ⟨ne_g121_g23, trivial⟩ at121
  have ne_g126_g23 : g126 ≠ g23 := by first | assumption | omega
  replace at126 := st22019.same _ _ ⟨ne_g126_g23, trivial⟩ at126
  replace lv_v21 := Keep.st lv_v21 st22019 (fun k hb hk => ⟨(by omega), trivial⟩)
  replace v21 := bs_v21.keep lv_v21 (Nat.le_refl _)
  replace lv_vA := Keep.st lv_vA st22019 (fun k hb hk => ⟨(by omega), trivial⟩)
  replace vA := bs_vA.keep lv_vA (Nat.le_refl _)
  have lt_at22019 := GHeap.ltg at22019
  replace h := base_h.mono hle
  clear fshb c5b c6b i1b i2b hmb hib hmshb hishb
  obtain ⟨fshb, c5b, c6b, i1b, i2b⟩ := h.get
  have hmb : MemN _ _ _ _ _ := ⟨rfl, h.1⟩
  have hib := h.2
  have hmshb : MemN _ _ _ _ _ := ⟨rfl, fshb.1⟩
  have hishb := fshb.2
  clear i21
  have i21 := v21.intss
  clear mm23
  have mm23 : MemN _ _ _ _ _ := ⟨rfl, Mem.of_get at23⟩
  clear iA
  have iA := vA.intss
  clear i121
  have i121 := Ints.of_get at121
  clear i126
  have i126 := Ints.of_get at126
  replace at22019 : GHeap.get H22019 g23 = some (.row [.int .i64 ((elE f).length : Int), .slice (some ⟨g121, 0, none⟩) (ecA f).length (ecA f).length, .slice (some ⟨g126, 0, none⟩) (ecA f).length (ecA f).length, .slice none 0 0, .slice none 0 0, .slice a21 (elE f).length (elE f).length, .slice (nz (ecA f).length gLA) (ecA f).length (ecA f).length, .map (some gO21), .map (some gM21)] 91 true) := by
    have hx := at22019
    rw [length_colI, length_colI] at hx
    exact hx
  refine .done ?_
  refine hK28 _ _ (.seq (fun K29 hK29 => .seq (fun K30 hK30 => .region ?_)))
  refine .m rfl rfl rfl (.load on_86_Ee rfl (by first | assumption | exact Mem.of_get at4005 0 _ rfl)) ?_
  refine .m rfl rfl rfl (.nilCheck rfl) (.m rfl rfl rfl (.fieldAddr fo_91_1_Ee rfl) ?_)
  refine .m rfl rfl rfl (.load on_23_B rfl (by first | assumption | exact Mem.of_get at22019 5 _ rfl)) ?_
  refine .m rfl rfl rfl (.len sl_23_B rfl) (.mv rfl (.nil (hK30 _ _ ?_)))
  refine .block ?_
  refine .hold (fun HhI lehI nxhI => ?_)
  obtain ⟨ghI, hghI⟩ : ∃ g, g = GHeap.next H22019 := ⟨_, rfl⟩
  have no_hI : NO HhI ghI [] 2 0 := NO.start (by omega) rfl rfl
  have nx_HhI := lehI.1
  replace hle := hle.trans lehI
  replace lst1 := lst1.le lehI
  replace at3004 := lehI.2 _ _ at3004
  replace at4005 := lehI.2 _ _ at4005
  replace no_LA := no_LA.le lehI
  replace hmO := lehI.2 _ _ hmO
  replace at121 := lehI.2 _ _ at121
  replace at126 := lehI.2 _ _ at126
  replace at22019 := lehI.2 _ _ at22019
  replace lv_v21 := Keep.le lv_v21 lehI
  replace v21 := bs_v21.keep lv_v21 (Nat.le_refl _)
  replace lv_vA := Keep.le lv_vA lehI
  replace vA := bs_vA.keep lv_vA (Nat.le_refl _)
  have lt_no_hI := no_hI.lt
  replace h := base_h.mono hle
  clear fshb c5b c6b i1b i2b hmb hib hmshb hishb
  obtain ⟨fshb, c5b, c6b, i1b, i2b⟩ := h.get
  have hmb : MemN _ _ _ _ _ := ⟨rfl, h.1⟩
  have hib := h.2
  have hmshb : MemN _ _ _ _ _ := ⟨rfl, fshb.1⟩
  have hishb := fshb.2
  clear i21
  have i21 := v21.intss
  clear mm23
  have mm23 : MemN _ _ _ _ _ := ⟨rfl, Mem.of_get at23⟩
  clear iA
  have iA := vA.intss
  clear i121
  have i121 := Ints.of_get at121
  clear i126
  have i126 := Ints.of_get at126
  refine .loopR (σ := Nat × Nat) [(4, some _), (5, some _), (133, some _), (134, some _)] (fun (x, gLI) => [(135, some (.int .i64 (x : Int)))]) (fun (x, gLI) H' => St [ghI, g23] HhI H' ∧ NO H' gLI (ints ((List.range x).map fun i => idxLL (ecA f) (ecI f i))) 2 (x) ∧ PL gLI ghI HhI.next ∧ H'.get g23 = some (.row ([.int .i64 ((elE f).length : Int), .slice (some ⟨g121, 0, none⟩) (ecA f).length (ecA f).length, .slice (some ⟨g126, 0, none⟩) (ecA f).length (ecA f).length, .slice (nz x gLI) x x, .slice none 0 0, .slice a21 (elE f).length (elE f).length, .slice (nz (ecA f).length gLA) (ecA f).length (ecA f).length, .map (some gO21), .map (some gM21)]) 91 true) ∧ gLI ≠ g23 ∧ x ≤ (elE f).length) (fun (x, gLI) => (elE f).length - x) ((0, ghI)) ⟨rfl, rfl, rfl, rfl, trivial⟩ ⟨rfl, trivial⟩ ?_ ?_
  ·
   refine ⟨.refl _ _, by first | assumption | exact NO.start (by omega) (by first | rfl | (simp; done) | omega) (by first | rfl | (simp; done)), ⟨.inl rfl⟩, by first | assumption | exact at22019 | simpa using at22019, by omega, ?_⟩
   omega
  rintro ⟨x, gLI⟩ HL4 ⟨lst4, no_LI, pl_LI, at_Lg23, ap4_0, hI⟩ KL4 hKL4
  refine .forget (fr' := [(135, some (.int .i64 (x : Int))), (4, some _), (5, some _), (133, some _), (134, some _)]) ⟨rfl, rfl, rfl, rfl, rfl, trivial⟩ ?_
  have ge_LI : H.next ≤ gLI := pl_LI.ge (by omega) (by omega)
  have nx_HL4 := lst4.nx
  replace hle := hle.st lst4 (fun k hk => ⟨by omega, by omega, trivial⟩)
  replace lst1 := lst1.st lst4 (fun k hk ho => by simp only [out, and_true] at ho ⊢ <;> exact ⟨by first | exact ho | exact ho.1 | exact ho.2 | exact ho.2.1 | exact ho.2.2 | exact ho.2.2.1 | exact ho.2.2.2 | omega, by first | exact ho | exact ho.1 | exact ho.2 | exact ho.2.1 | exact ho.2.2 | exact ho.2.2.1 | exact ho.2.2.2 | omega⟩)
  have ne_g4_ghI : g4 ≠ ghI := by first | assumption | omega
  replace at3004 := lst4.same _ _ ⟨ne_g4_ghI, ne_g4_g23, trivial⟩ at3004
  have ne_g5_ghI : g5 ≠ ghI := by first | assumption | omega
  replace at4005 := lst4.same _ _ ⟨ne_g5_ghI, (Ne.symm ne_g23_g5), trivial⟩ at4005
  have ne_gLA_ghI : gLA ≠ ghI := by first | assumption | omega
  replace no_LA := no_LA.st lst4 ⟨ne_gLA_ghI, ap1_0, trivial⟩
  have ne_gM21_ghI : gM21 ≠ ghI := by first | assumption | omega
  replace hmO := lst4.same _ _ ⟨ne_gM21_ghI, ne_gM21_g23, trivial⟩ hmO
  have ne_g121_ghI : g121 ≠ ghI := by first | assumption | omega
  replace at121 := lst4.same _ _ ⟨ne_g121_ghI, ne_g121_g23, trivial⟩ at121
  have ne_g126_ghI : g126 ≠ ghI := by first | assumption | omega
  replace at126 := lst4.same _ _ ⟨ne_g126_ghI, ne_g126_g23, trivial⟩ at126
  replace lv_v21 := Keep.st lv_v21 lst4 (fun k hb hk => ⟨(by omega), (by omega), trivial⟩)
  replace v21 := bs_v21.keep lv_v21 (Nat.le_refl _)
  replace lv_vA := Keep.st lv_vA lst4 (fun k hb hk => ⟨(by omega), (by omega), trivial⟩)
  replace vA := bs_vA.keep lv_vA (Nat.le_refl _)
  have lt_no_LI := no_LI.lt
  have lt_at_Lg23 := GHeap.ltg at_Lg23
  replace h := base_h.mono hle
  clear fshb c5b c6b i1b i2b hmb hib hmshb hishb
  obtain ⟨fshb, c5b, c6b, i1b, i2b⟩ := h.get
  have hmb : MemN _ _ _ _ _ := ⟨rfl, h.1⟩
  have hib := h.2
  have hmshb : MemN _ _ _ _ _ := ⟨rfl, fshb.1⟩
  have hishb := fshb.2
  clear i21
  have i21 := v21.intss
  clear mm23
  have mm23 : MemN _ _ _ _ _ := ⟨rfl, Mem.of_get at23⟩
  clear iA
  have iA := vA.intss
  clear i121
  have i121 := Ints.of_get at121
  clear i126
  have i126 := Ints.of_get at126
  have hil : ((List.range x).map fun i => idxLL (ecA f) (ecI f i)).length = x := by simp
  refine .seq (fun K31 hK31 => .region (.m rfl rfl rfl (.cmp rfl rfl rfl) (.nil (hK31 _ _ (.seq (fun K32 hK32 => ?_))))))
  refine .cond rfl (fun h136 => ?_) (fun h136 => ?_)
  ·
   simp only [sps] at h136
   obtain ⟨ox1, ox2, ox3, ox4, ox5, ox6, ox7, ox8⟩ := hf.ecO (i := x) (by omega)
   simp only [ecO] at ox1 ox2 ox3 ox4 ox5 ox6 ox7
   have him := ecI_mem hf (i := x) (by omega)
   have kb := hKA.ok _ him
   have hpx := lookS_all hKA him
   have u1 := i21.2 x (by omega)
   refine .skip ?_
   refine hK32 _ _ (.seq (fun K33 hK33 => ?_))
   refine .block ?_
   refine .seq (fun K34 hK34 => .region (.mv rfl ?_))
   refine .m rfl rfl rfl (.idxN sl_23_B (Intss.sl (by assumption)) rfl rfl (by omega)) ?_
   refine .m rfl rfl rfl (.loadR on_22_B (by assumption) rfl (by omega)) ?_
   refine .mv rfl (.mv rfl (.nil (hK34 _ _ ?_)))
   refine .regionDB mo_B (.q 0 (.q 1 (.q 2 (.q 3 (.q 4 (.q 5 (.q 6 (.q 7 (.q 8 (.q 9 (.q 10 (.q 11 (.q 12 (.q 13 (.q 14 (.q 15 (.q 16 (.q 17 (.q 18 (.q 19 (.q 20 (.c 21 1 (.c 22 1 (.c 23 1 (.q 24 (.c 25 1 (.c 26 1 (.q 27 (.q 28 (.q 29 (.c 30 0 (.done)))))))))))))))))))))))))))))))) (by kernel_rfl) (GHeap.le_erase HL4 gLI) ?_
   have hbl := GHeap.le_erase HL4 gLI
   have n5 : g5 ≠ gLI := pl_LI.ne (by omega) (by omega)
   have n4 : g4 ≠ gLI := pl_LI.ne (by omega) (by omega)
   have n23 : g23 ≠ gLI := pl_LI.ne (by omega) (by omega)
   have nM : gM21 ≠ gLI := pl_LI.ne (by omega) (by omega)
   have gi2 : H21.next ≤ gLI := pl_LI.ge (by omega) (by omega)
   have e5 := GHeap.get_erase_of (g := gLI) at4005 n5
   have e4 := GHeap.get_erase_of (g := gLI) at3004 n4
   have e23 := GHeap.get_erase_of (g := gLI) at_Lg23 n23
   have eM := GHeap.get_erase_of (g := gLI) hmO nM
   have eu1 := (bs_v21.keep (lv_v21.erase gi2) (Nat.le_refl _)).intss.2 x (by omega)
   obtain ⟨fshe, -, -, -, -⟩ := (base_h.mono (hle.erase_hi ge_LI)).get
   obtain ⟨-, -, -, ee3, -, -, -, ei3, -⟩ := fshe.get
   refine .mB rfl rfl rfl rfl hbl (.load on_86_Ee rfl (Mem.of_get e5 0 _ rfl)) ?_
   refine .mB rfl rfl rfl rfl hbl (.load on_86_Ee rfl (Mem.of_get e5 0 _ rfl)) ?_
   refine .mB rfl rfl rfl rfl hbl (.nilCheck rfl) ?_
   refine .mB rfl rfl rfl rfl hbl (.fieldAddr fo_91_0_Ee rfl) ?_
   refine .mB rfl rfl rfl rfl hbl (.fieldAddr fo_31_3_B rfl) ?_
   refine .mB rfl rfl rfl rfl hbl (.load on_22_B rfl (Mem.of_get e23 3 _ rfl)) ?_
   refine .mB rfl rfl rfl rfl hbl (.load on_86_Ee rfl (Mem.of_get e5 0 _ rfl)) ?_
   refine .mB rfl rfl rfl rfl hbl (.nilCheck rfl) ?_
   refine .mB rfl rfl rfl rfl hbl (.fieldAddr fo_91_4_Ee rfl) ?_
   refine .mB rfl rfl rfl rfl hbl (.load on_89_Ee rfl (Mem.of_get e23 8 _ rfl)) ?_
   refine .mB rfl rfl rfl rfl hbl (.move rfl) ?_
   refine .mB rfl rfl rfl rfl hbl (.move rfl) ?_
   refine .mB rfl rfl rfl rfl hbl (.load on_127_Ee rfl (Mem.of_get e4 0 _ rfl)) ?_
   refine .mB rfl rfl rfl rfl hbl (.nilCheck rfl) ?_
   refine .mB rfl rfl rfl rfl hbl (.fieldAddr fo_31_3_B rfl) ?_
   refine .mB rfl rfl rfl rfl hbl (.load on_22_B rfl (by assumption)) ?_
   refine .mB rfl rfl rfl rfl hbl (.move rfl) ?_
   refine .mB rfl rfl rfl rfl hbl (.idxN (j := 0) sl_22_A (by assumption) rfl rfl (by omega)) ?_
   refine .mB rfl rfl rfl rfl hbl (.loadI on_2_A (by assumption) rfl (by omega)) ?_
   refine .mB rfl rfl rfl rfl hbl (.idx1 sl_22_A (by assumption) rfl rfl (by omega) (by omega)) ?_
   refine .mB rfl rfl rfl rfl hbl (.loadI on_2_A (by assumption) rfl (by omega)) ?_
   refine .c1 rfl rfl rfl rfl (.litR rfl sl_22_A ze_2_E rfl rfl (by omega) (by omega) rfl rfl) ?_
   rintro _ H161 ⟨g161, rfl, le161, ge161, at161⟩
   replace hbl := hbl.trans le161
   refine ⟨hbl, ?_⟩
   have nx_H161 := le161.1
   replace hle := hle.trans le161
   replace lst1 := lst1.le le161
   replace lst4 := lst4.le le161
   replace at3004 := le161.2 _ _ at3004
   replace at4005 := le161.2 _ _ at4005
   replace no_LA := no_LA.le le161
   replace hmO := le161.2 _ _ hmO
   replace at121 := le161.2 _ _ at121
   replace at126 := le161.2 _ _ at126
   replace no_LI := no_LI.le le161
   replace at_Lg23 := le161.2 _ _ at_Lg23
   replace lv_v21 := Keep.le lv_v21 le161
   replace v21 := bs_v21.keep lv_v21 (Nat.le_refl _)
   replace lv_vA := Keep.le lv_vA le161
   replace vA := bs_vA.keep lv_vA (Nat.le_refl _)
   have lt_at161 := GHeap.ltg at161
   replace h := base_h.mono hle
   clear fshb c5b c6b i1b i2b hmb hib hmshb hishb
   obtain ⟨fshb, c5b, c6b, i1b, i2b⟩ := h.get
   have hmb : MemN _ _ _ _ _ := ⟨rfl, h.1⟩
   have hib := h.2
   have hmshb : MemN _ _ _ _ _ := ⟨rfl, fshb.1⟩
   have hishb := fshb.2
   clear i21
   have i21 := v21.intss
   clear mm23
   have mm23 : MemN _ _ _ _ _ := ⟨rfl, Mem.of_get at23⟩
   clear iA
   have iA := vA.intss
   clear i121
   have i121 := Ints.of_get at121
   clear i126
   have i126 := Ints.of_get at126
   clear u1
   have u1 := i21.2 x (by omega)
   refine .c1 rfl rfl rfl rfl (.litR rfl sl_23_B ze_22_E rfl rfl (by omega) (by omega) rfl rfl) ?_
   rintro _ H162 ⟨g162, rfl, le162, ge162, at162⟩
   replace hbl := hbl.trans le162
   refine ⟨hbl, ?_⟩
   have nx_H162 := le162.1
   replace hle := hle.trans le162
   replace lst1 := lst1.le le162
   replace lst4 := lst4.le le162
   replace at3004 := le162.2 _ _ at3004
   replace at4005 := le162.2 _ _ at4005
   replace no_LA := no_LA.le le162
   replace hmO := le162.2 _ _ hmO
   replace at121 := le162.2 _ _ at121
   replace at126 := le162.2 _ _ at126
   replace no_LI := no_LI.le le162
   replace at_Lg23 := le162.2 _ _ at_Lg23
   replace at161 := le162.2 _ _ at161
   replace lv_v21 := Keep.le lv_v21 le162
   replace v21 := bs_v21.keep lv_v21 (Nat.le_refl _)
   replace lv_vA := Keep.le lv_vA le162
   replace vA := bs_vA.keep lv_vA (Nat.le_refl _)
   have lt_at162 := GHeap.ltg at162
   replace h := base_h.mono hle
   clear fshb c5b c6b i1b i2b hmb hib hmshb hishb
   obtain ⟨fshb, c5b, c6b, i1b, i2b⟩ := h.get
   have hmb : MemN _ _ _ _ _ := ⟨rfl, h.1⟩
   have hib := h.2
   have hmshb : MemN _ _ _ _ _ := ⟨rfl, fshb.1⟩
   have hishb := fshb.2
   clear i21
   have i21 := v21.intss
   clear mm23
   have mm23 : MemN _ _ _ _ _ := ⟨rfl, Mem.of_get at23⟩
   clear iA
   have iA := vA.intss
   clear i121
   have i121 := Ints.of_get at121
   clear i126
   have i126 := Ints.of_get at126
   clear u1
   have u1 := i21.2 x (by omega)
   refine .callQ1 rfl rfl rfl rfl rfl @Try.call94 rfl (key_c (xs := ecI f x) (by assumption) (Ints.of_get (xs := ecI f x) (by assumption)) rfl (fun j hj => kb.2 j hj) (by show 3 ≤ 1000; omega)) hbl ?_
   refine .mB rfl rfl rfl rfl hbl (.lookupS mps_89_Ke zv_2_Ee rfl rfl (by assumption)) ?_
   refine .c1 rfl rfl rfl rfl (.litR rfl sl_22_A ze_2_E rfl rfl (by omega) (by omega) rfl rfl) ?_
   rintro _ H165 ⟨g165, rfl, le165, ge165, at165⟩
   replace hbl := hbl.trans le165
   refine ⟨hbl, ?_⟩
   have nx_H165 := le165.1
   replace hle := hle.trans le165
   replace lst1 := lst1.le le165
   replace lst4 := lst4.le le165
   replace at3004 := le165.2 _ _ at3004
   replace at4005 := le165.2 _ _ at4005
   replace no_LA := no_LA.le le165
   replace hmO := le165.2 _ _ hmO
   replace at121 := le165.2 _ _ at121
   replace at126 := le165.2 _ _ at126
   replace no_LI := no_LI.le le165
   replace at_Lg23 := le165.2 _ _ at_Lg23
   replace at161 := le165.2 _ _ at161
   replace at162 := le165.2 _ _ at162
   replace lv_v21 := Keep.le lv_v21 le165
   replace v21 := bs_v21.keep lv_v21 (Nat.le_refl _)
   replace lv_vA := Keep.le lv_vA le165
   replace vA := bs_vA.keep lv_vA (Nat.le_refl _)
   have lt_at165 := GHeap.ltg at165
   replace h := base_h.mono hle
   clear fshb c5b c6b i1b i2b hmb hib hmshb hishb
   obtain ⟨fshb, c5b, c6b, i1b, i2b⟩ := h.get
   have hmb : MemN _ _ _ _ _ := ⟨rfl, h.1⟩
   have hib := h.2
   have hmshb : MemN _ _ _ _ _ := ⟨rfl, fshb.1⟩
   have hishb := fshb.2
   clear i21
   have i21 := v21.intss
   clear mm23
   have mm23 : MemN _ _ _ _ _ := ⟨rfl, Mem.of_get at23⟩
   clear iA
   have iA := vA.intss
   clear i121
   have i121 := Ints.of_get at121
   clear i126
   have i126 := Ints.of_get at126
   clear u1
   have u1 := i21.2 x (by omega)
   refine .c1 rfl rfl rfl rfl (.appendNOI rfl sl_22_A ze_2_E rfl by_2_E sl_22_A rfl rfl no_LI (by assumption) (by first | omega | (simp <;> omega)) (by omega) (by omega)) ?_
   rintro _ H166 ⟨g166, rfl, st166, ge166, at166⟩
   refine ⟨(hbl.erase_st st166), ?_⟩
   have nx_H166 := st166.nx
   replace hle := hle.st st166 (fun k hk => ⟨by omega, trivial⟩)
   replace lst1 := lst1.st st166 (fun k hk ho => by simp only [out, and_true] at ho ⊢ <;> first | exact ho | exact ho.1 | exact ho.2 | exact ho.2.1 | exact ho.2.2 | exact ho.2.2.1 | exact ho.2.2.2 | exact pl_LI.ne (by first | exact ho | exact ho.1 | exact ho.2 | exact ho.2.1 | exact ho.2.2 | exact ho.2.2.1 | exact ho.2.2.2 | omega) (by omega) | omega)
   replace lst4 := lst4.st st166 (fun k hk ho => by simp only [out, and_true] at ho ⊢ <;> first | exact ho | exact ho.1 | exact ho.2 | exact ho.2.1 | exact ho.2.2 | exact ho.2.2.1 | exact ho.2.2.2 | exact pl_LI.ne (by first | exact ho | exact ho.1 | exact ho.2 | exact ho.2.1 | exact ho.2.2 | exact ho.2.2.1 | exact ho.2.2.2 | omega) (by omega) | omega)
   have ne_g4_gLI : g4 ≠ gLI := pl_LI.ne ne_g4_ghI (by omega)
   replace at3004 := st166.same _ _ ⟨ne_g4_gLI, trivial⟩ at3004
   have ne_g5_gLI : g5 ≠ gLI := pl_LI.ne ne_g5_ghI (by omega)
   replace at4005 := st166.same _ _ ⟨ne_g5_gLI, trivial⟩ at4005
   have ne_gLA_gLI : gLA ≠ gLI := pl_LI.ne ne_gLA_ghI (by omega)
   replace no_LA := no_LA.st st166 ⟨ne_gLA_gLI, trivial⟩
   have ne_gM21_gLI : gM21 ≠ gLI := pl_LI.ne ne_gM21_ghI (by omega)
   replace hmO := st166.same _ _ ⟨ne_gM21_gLI, trivial⟩ hmO
   have ne_g121_gLI : g121 ≠ gLI := pl_LI.ne ne_g121_ghI (by omega)
   replace at121 := st166.same _ _ ⟨ne_g121_gLI, trivial⟩ at121
   have ne_g126_gLI : g126 ≠ gLI := pl_LI.ne ne_g126_ghI (by omega)
   replace at126 := st166.same _ _ ⟨ne_g126_gLI, trivial⟩ at126
   replace at_Lg23 := st166.same _ _ ⟨(Ne.symm ap4_0), trivial⟩ at_Lg23
   replace at161 := st166.same _ _ ⟨(by first | assumption | omega), trivial⟩ at161
   replace at162 := st166.same _ _ ⟨(by first | assumption | omega), trivial⟩ at162
   replace at165 := st166.same _ _ ⟨(by first | assumption | omega), trivial⟩ at165
   replace lv_v21 := Keep.st lv_v21 st166 (fun k hb hk => ⟨(by first | exact pl_LI.ne (by omega) (by omega) | omega), trivial⟩)
   replace v21 := bs_v21.keep lv_v21 (Nat.le_refl _)
   replace lv_vA := Keep.st lv_vA st166 (fun k hb hk => ⟨(by first | exact pl_LI.ne (by omega) (by omega) | omega), trivial⟩)
   replace vA := bs_vA.keep lv_vA (Nat.le_refl _)
   have lt_at166 := GHeap.ltg at166
   replace h := base_h.mono hle
   clear fshb c5b c6b i1b i2b hmb hib hmshb hishb
   obtain ⟨fshb, c5b, c6b, i1b, i2b⟩ := h.get
   have hmb : MemN _ _ _ _ _ := ⟨rfl, h.1⟩
   have hib := h.2
   have hmshb : MemN _ _ _ _ _ := ⟨rfl, fshb.1⟩
   have hishb := fshb.2
   clear i21
   have i21 := v21.intss
   clear mm23
   have mm23 : MemN _ _ _ _ _ := ⟨rfl, Mem.of_get at23⟩
   clear iA
   have iA := vA.intss
   clear i121
   have i121 := Ints.of_get at121
   clear i126
   have i126 := Ints.of_get at126
   clear u1
   have u1 := i21.2 x (by omega)
   replace hbl := hbl.erase_st st166
   refine .mB rfl rfl rfl rfl hbl (.nilCheck rfl) ?_
   refine .mB rfl rfl rfl rfl hbl (.fieldAddr fo_91_0_Ee rfl) ?_
   refine .mB rfl rfl rfl rfl hbl (.fieldAddr fo_31_3_B rfl) ?_
   refine .r0 rfl rfl rfl (.storeR rfl sz_22_E rfl rfl rfl (by assumption) (by first | exact Nat.le_of_ble_eq_true rfl | (simp; done) | (simp <;> omega))) ?_
   rintro _ H26030 ⟨rfl, st26030, at26030⟩
   have nx_H26030 := st26030.nx
   replace hle := hle.st st26030 (fun k hk => ⟨by omega, trivial⟩)
   replace lst1 := lst1.st st26030 (fun k hk ho => by simp only [out, and_true] at ho ⊢ <;> first | exact ho | exact ho.1 | exact ho.2 | exact ho.2.1 | exact ho.2.2 | exact ho.2.2.1 | exact ho.2.2.2 | omega)
   replace lst4 := lst4.st st26030 (fun k hk ho => by simp only [out, and_true] at ho ⊢ <;> first | exact ho | exact ho.1 | exact ho.2 | exact ho.2.1 | exact ho.2.2 | exact ho.2.2.1 | exact ho.2.2.2 | omega)
   replace at3004 := st26030.same _ _ ⟨ne_g4_g23, trivial⟩ at3004
   replace at4005 := st26030.same _ _ ⟨(Ne.symm ne_g23_g5), trivial⟩ at4005
   replace no_LA := no_LA.st st26030 ⟨ap1_0, trivial⟩
   replace hmO := st26030.same _ _ ⟨ne_gM21_g23, trivial⟩ hmO
   replace at121 := st26030.same _ _ ⟨ne_g121_g23, trivial⟩ at121
   replace at126 := st26030.same _ _ ⟨ne_g126_g23, trivial⟩ at126
   replace at161 := st26030.same _ _ ⟨(by first | assumption | omega), trivial⟩ at161
   replace at162 := st26030.same _ _ ⟨(by first | assumption | omega), trivial⟩ at162
   replace at165 := st26030.same _ _ ⟨(by first | assumption | omega), trivial⟩ at165
   replace at166 := st26030.same _ _ ⟨(by first | assumption | omega), trivial⟩ at166
   replace lv_v21 := Keep.st lv_v21 st26030 (fun k hb hk => ⟨(by omega), trivial⟩)
   replace v21 := bs_v21.keep lv_v21 (Nat.le_refl _)
   replace lv_vA := Keep.st lv_vA st26030 (fun k hb hk => ⟨(by omega), trivial⟩)
   replace vA := bs_vA.keep lv_vA (Nat.le_refl _)
   have lt_at26030 := GHeap.ltg at26030
   replace h := base_h.mono hle
   clear fshb c5b c6b i1b i2b hmb hib hmshb hishb
   obtain ⟨fshb, c5b, c6b, i1b, i2b⟩ := h.get
   have hmb : MemN _ _ _ _ _ := ⟨rfl, h.1⟩
   have hib := h.2
   have hmshb : MemN _ _ _ _ _ := ⟨rfl, fshb.1⟩
   have hishb := fshb.2
   clear i21
   have i21 := v21.intss
   clear mm23
   have mm23 : MemN _ _ _ _ _ := ⟨rfl, Mem.of_get at23⟩
   clear iA
   have iA := vA.intss
   clear i121
   have i121 := Ints.of_get at121
   clear i126
   have i126 := Ints.of_get at126
   clear u1
   have u1 := i21.2 x (by omega)
   try simp only [Nat.zero_add, List.set_cons_succ, List.set_cons_zero] at at26030
   refine .done ?_
   refine hK33 _ _ (.region ?_)
   refine .m rfl rfl rfl (.add rfl rfl rfl (by omega) (by omega)) ?_
   refine .mv rfl (.nil ?_)
   refine hKL4 ((x + 1, g166)) _ _ ?_ ?_ ⟨rfl, rfl, rfl, rfl, rfl, trivial⟩
   ·
    refine ⟨lst4, by first | (first | assumption | (rw [range_snocI, ← hpx]; assumption)) | exact NO.of (by first | assumption | (rw [range_snocI, ← hpx]; assumption)) (by omega), by first | assumption | exact ⟨.inr (by omega)⟩ | exact ⟨.inl rfl⟩, by first | assumption | (rw [range_snocI, ← hpx]; assumption), by first | assumption | omega, ?_⟩
    omega
   (dsimp only; omega)
  try simp only [sps] at h136
  refine .exit ?_
  refine hK29 _ _ (.seq (fun K35 hK35 => .region ?_))
  obtain rfl : x = (elE f).length := by omega
  refine .m rfl rfl rfl (.load on_86_Ee rfl (by first | assumption | exact Mem.of_get at4005 0 _ rfl)) ?_
  refine .m rfl rfl rfl (.nilCheck rfl) (.m rfl rfl rfl (.fieldAddr fo_91_0_Ee rfl) (.m rfl rfl rfl (.makeFunc rfl) ?_))
  refine .call rfl rfl rfl rfl @Try.call62 rfl (tableG_c (src := colI (ecA f) 0) (tgt := colI (ecA f) 1) (X := fun a b => idxLL (ecA f) (ecC f a b)) (by assumption) (by simp) (by simp) (by omega) (fun H' s => Ints.of_get (s.same _ _ ⟨by omega, trivial⟩ at121)) (fun H' s => Ints.of_get (s.same _ _ ⟨by omega, trivial⟩ at126)) @Try.call95 (fun H' v s hrow i j hi hj e => elementsCategory1_c (s.same _ _ ⟨by omega, trivial⟩ at4005) (s.same _ _ ⟨by omega, trivial⟩ at3004) hrow (s.same _ _ ⟨by omega, trivial⟩ hmO) (bs_vA.keep (Keep.st lv_vA s (fun k hb hk => ⟨by omega, trivial⟩)) (Nat.le_refl _)).intss (base_h.mono (hle.st s (fun k hk => ⟨by omega, trivial⟩))).get.1 hf hn8 hi hj (by rw [colI_get hi, colI_get hj] at e; exact e))) ?_
  rintro _ H175 ⟨st175, gC175, rC175, at175, ge175, v175, hr175⟩
  have nx_H175 := st175.nx
  replace hle := hle.st st175 (fun k hk => ⟨by omega, trivial⟩)
  replace at3004 := st175.same _ _ ⟨ne_g4_g23, trivial⟩ at3004
  replace at4005 := st175.same _ _ ⟨(Ne.symm ne_g23_g5), trivial⟩ at4005
  replace no_LA := no_LA.st st175 ⟨ap1_0, trivial⟩
  replace hmO := st175.same _ _ ⟨ne_gM21_g23, trivial⟩ hmO
  replace at121 := st175.same _ _ ⟨ne_g121_g23, trivial⟩ at121
  replace at126 := st175.same _ _ ⟨ne_g126_g23, trivial⟩ at126
  replace no_LI := no_LI.st st175 ⟨ap4_0, trivial⟩
  replace lv_v21 := Keep.st lv_v21 st175 (fun k hb hk => ⟨(by omega), trivial⟩)
  replace v21 := bs_v21.keep lv_v21 (Nat.le_refl _)
  replace lv_vA := Keep.st lv_vA st175 (fun k hb hk => ⟨(by omega), trivial⟩)
  replace vA := bs_vA.keep lv_vA (Nat.le_refl _)
  have lt_at175 := GHeap.ltg at175
  replace h := base_h.mono hle
  clear fshb c5b c6b i1b i2b hmb hib hmshb hishb
  obtain ⟨fshb, c5b, c6b, i1b, i2b⟩ := h.get
  have hmb : MemN _ _ _ _ _ := ⟨rfl, h.1⟩
  have hib := h.2
  have hmshb : MemN _ _ _ _ _ := ⟨rfl, fshb.1⟩
  have hishb := fshb.2
  clear i21
  have i21 := v21.intss
  clear mm23
  have mm23 : MemN _ _ _ _ _ := ⟨rfl, Mem.of_get at23⟩
  clear iA
  have iA := vA.intss
  clear i121
  have i121 := Ints.of_get at121
  clear i126
  have i126 := Ints.of_get at126
  refine .nil (hK35 _ _ (.seq (fun K36 hK36 => .region ?_)))
  refine .m rfl rfl rfl (.load on_86_Ee rfl (by first | assumption | exact Mem.of_get at4005 0 _ rfl)) ?_
  refine .mv rfl (.mv rfl (.nil (hK36 _ _ ?_)))
  refine .ret ?_
  refine hret _ _ ?_
  refine ⟨_, _, rfl, rfl, ?_⟩
  have hx4 : g121 ≠ gLI := pl_LI.ne (by omega) (by omega)
  have hx5 : g126 ≠ gLI := pl_LI.ne (by omega) (by omega)
  refine ⟨hle, g23, by rw [B_true (p := f.ecOk) ⟨hf, hn8, hm40⟩]; rfl, fun _ => ⟨⟨some ⟨g121, 0, none⟩, some ⟨g126, 0, none⟩, nz (elE f).length gLI, some ⟨gC175, 0, none⟩, rC175⟩, a21, r21, nz (ecA f).length gLA, ra, some gO21, some gM21, by simpa [Cat.cells, elsC, bldC, tabL] using at175, by omega, ?_⟩⟩
  have hcat : CatR HL1.next H175 (elsC f) ⟨some ⟨g121, 0, none⟩, some ⟨g126, 0, none⟩, nz (elE f).length gLI, some ⟨gC175, 0, none⟩, rC175⟩ := .mk (.of_at at121 (by omega)) (.of_at at126 (by omega)) (no_LI.isR (by simp) (pl_LI.ge (by omega) (by omega))) (v175.keep (.of_le (.refl _)) (by omega)) (.inr rfl) (.inr rfl) (nz_or _ _) (by omega) hx4 hx5 (fun i hi => by
    have hi' : i < (ecA f).length := by simpa [elsC, bldC, tabL] using hi
    exact ⟨fun e => by have := hr175 i hi' _ e; omega, fun e => by have := hr175 i hi' _ e; omega, fun e => by have := hr175 i hi' _ e; omega⟩)
  exact .mk' hcat (v21.keep (.of_le (.refl _)) (by omega)) bs_v21 (vA.keep (.of_le (.refl _)) (by omega)) bs_vA (by omega) (Nat.le_refl _) (by omega) (by omega)
end Go.Proofs.Ytagkeabmdodfiaa
namespace Go.Proofs.Ytagkeabmdodfiaa
open Go Go.GL Go.RowKit Go.Proofs
set_option maxHeartbeats 4000000 in
theorem implElementsCategory_c {f : SFun} {p : SFunP} {H : GHeap} (hin : f.In H p := by assumption) (hs : f.Small := by assumption) :
    GCalls Try.prog 22 [.agg (f.cells p).toArray] H (fun v H' => H.Le H' ∧ ∃ q a r a2 r2, v = .tuple #[.agg (f.elsR.cells q).toArray, .slice a f.elsO.length f.elsO.length, .slice a2 f.elsA.length f.elsA.length, .int .i64 f.elsN] ∧ Three H.next H' f.elsR q a r f.elsO a2 r2 f.elsA) := by
  refine GCalls.body (N := 30) (rs := [.cell 2 31, .tmp 3, .tmp 4, .tmp 5]) Try.func22 rfl rfl rfl rfl (fun Qx hret hend => ?_)
  refine .forget (fr' := [(0, some _)]) ⟨rfl, trivial⟩ ?_
  have hle := GHeap.Le.refl H
  have base_hin := hin
  refine .seq (fun K1 hK1 => .region ?_)
  refine .r rfl rfl rfl (.boxR rfl sz_46_VSFun rfl) ?_
  rintro _ H1 ⟨g1, rfl, le1, ge1, at1⟩
  have nx_H1 := le1.1
  replace hle := hle.trans le1
  have lt_at1 := GHeap.ltg at1
  replace hin := base_hin.mono hle
  have hb1 : SFun.At _ g1 0 f p := ⟨Mem.of_get at1, hin⟩
  obtain ⟨fsh1, c51, c61, i11, i21⟩ := hb1.get
  have hm1 : MemN _ _ _ _ _ := ⟨rfl, hb1.1⟩
  have hi1 := hb1.2
  have hmsh1 : MemN _ _ _ _ _ := ⟨rfl, fsh1.1⟩
  have hish1 := fsh1.2
  refine .r rfl rfl rfl (.allocR rfl ze_31_E rfl) ?_
  rintro _ H2 ⟨g2, rfl, le2, ge2, at2⟩
  have nx_H2 := le2.1
  replace hle := hle.trans le2
  replace at1 := le2.2 _ _ at1
  have lt_at2 := GHeap.ltg at2
  replace hin := base_hin.mono hle
  clear hb1 fsh1 c51 c61 i11 i21 hm1 hi1 hmsh1 hish1
  have hb1 : SFun.At _ g1 0 f p := ⟨Mem.of_get at1, hin⟩
  obtain ⟨fsh1, c51, c61, i11, i21⟩ := hb1.get
  have hm1 : MemN _ _ _ _ _ := ⟨rfl, hb1.1⟩
  have hi1 := hb1.2
  have hmsh1 : MemN _ _ _ _ _ := ⟨rfl, fsh1.1⟩
  have hish1 := fsh1.2
  refine .mv rfl (.mv rfl (.mv rfl (.nil (hK1 _ _ (.seq (fun K2 hK2 => .seq (fun K3 hK3 => .region ?_)))))))
  refine .callQ rfl rfl rfl rfl @Try.call49 rfl (isSetFunctor_c) ?_
  refine .m rfl rfl rfl (.not rfl) (.nil (hK3 _ _ ?_))
  refine .cond rfl (fun h9 => ?_) (fun h9 => ?_)
  ·
   simp only [sps] at h9
   refine .seq (fun K4 hK4 => .region (.m rfl rfl rfl (.build bt_31_Ec rfl rfl rfl) ?_))
   refine .r0 rfl rfl (.fillR rfl sz_31_D rfl rfl rfl rfl (by assumption) (by first | rfl | exact Nat.le_of_ble_eq_true rfl | simp)) ?_
   rintro _ H2001 ⟨rfl, st2001, at2001⟩
   have nx_H2001 := st2001.nx
   replace hle := hle.st st2001 (fun k hk => ⟨by omega, trivial⟩)
   have ne_g1_g2 : g1 ≠ g2 := by first | assumption | omega
   replace at1 := st2001.same _ _ ⟨ne_g1_g2, trivial⟩ at1
   have lt_at2001 := GHeap.ltg at2001
   replace hin := base_hin.mono hle
   clear hb1 fsh1 c51 c61 i11 i21 hm1 hi1 hmsh1 hish1
   have hb1 : SFun.At _ g1 0 f p := ⟨Mem.of_get at1, hin⟩
   obtain ⟨fsh1, c51, c61, i11, i21⟩ := hb1.get
   have hm1 : MemN _ _ _ _ _ := ⟨rfl, hb1.1⟩
   have hi1 := hb1.2
   have hmsh1 : MemN _ _ _ _ _ := ⟨rfl, fsh1.1⟩
   have hish1 := fsh1.2
   have mm2001 : MemN _ _ _ _ _ := ⟨rfl, Mem.of_get at2001⟩
   refine .mv rfl (.mv rfl (.mv rfl (.nil (hK4 _ _ ?_))))
   refine .ret ?_
   refine hret _ _ ?_
   refine ⟨_, _, _, _, _, _, _, rfl, ag_31_D, (by rfl), (Mem.of_get at2001), rfl, rfl, rfl, ?_⟩
   obtain ⟨e1, e2, e3, e4⟩ := els_1 h9
   rw [e1, e2, e3, e4]
   exact ⟨hle, .zero, none, fun _ => none, none, fun _ => none, rfl, .nil _ _⟩
  simp only [sps] at h9
  refine .skip ?_
  refine hK2 _ _ (.seq (fun K5 hK5 => .region ?_))
  refine .call rfl rfl rfl rfl @Try.call50 rfl (elementsCategory_c (hf := h9)) ?_
  rintro _ H12 ⟨le12, g12, rfl, hX12⟩
  have nx_H12 := le12.1
  replace hle := hle.trans le12
  replace at1 := le12.2 _ _ at1
  replace at2 := le12.2 _ _ at2
  replace hin := base_hin.mono hle
  clear hb1 fsh1 c51 c61 i11 i21 hm1 hi1 hmsh1 hish1
  have hb1 : SFun.At _ g1 0 f p := ⟨Mem.of_get at1, hin⟩
  obtain ⟨fsh1, c51, c61, i11, i21⟩ := hb1.get
  have hm1 : MemN _ _ _ _ _ := ⟨rfl, hb1.1⟩
  have hi1 := hb1.2
  have hmsh1 : MemN _ _ _ _ _ := ⟨rfl, fsh1.1⟩
  have hish1 := fsh1.2
  refine .mv rfl (.m rfl rfl rfl (.extract rfl rfl) (.m rfl rfl rfl (.extract rfl rfl) (.mv rfl (.mv rfl (.nil (hK5 _ _ (.seq (fun K6 hK6 => .seq (fun K7 hK7 => .region (.mv rfl (.m rfl rfl rfl (.not rfl) (.nil (hK7 _ _ ?_)))))))))))))
  refine .cond rfl (fun h16 => ?_) (fun h16 => ?_)
  ·
   simp only [sps] at h16
   refine .seq (fun K8 hK8 => .region (.m rfl rfl rfl (.build bt_31_Ec rfl rfl rfl) ?_))
   refine .r0 rfl rfl (.fillR rfl sz_31_D rfl rfl rfl rfl (by assumption) (by first | rfl | exact Nat.le_of_ble_eq_true rfl | simp)) ?_
   rintro _ H5001 ⟨rfl, st5001, at5001⟩
   have nx_H5001 := st5001.nx
   replace hle := hle.st st5001 (fun k hk => ⟨by omega, trivial⟩)
   have ne_g1_g2 : g1 ≠ g2 := by first | assumption | omega
   replace at1 := st5001.same _ _ ⟨ne_g1_g2, trivial⟩ at1
   have lt_at5001 := GHeap.ltg at5001
   replace hin := base_hin.mono hle
   clear hb1 fsh1 c51 c61 i11 i21 hm1 hi1 hmsh1 hish1
   have hb1 : SFun.At _ g1 0 f p := ⟨Mem.of_get at1, hin⟩
   obtain ⟨fsh1, c51, c61, i11, i21⟩ := hb1.get
   have hm1 : MemN _ _ _ _ _ := ⟨rfl, hb1.1⟩
   have hi1 := hb1.2
   have hmsh1 : MemN _ _ _ _ _ := ⟨rfl, fsh1.1⟩
   have hish1 := fsh1.2
   have mm5001 : MemN _ _ _ _ _ := ⟨rfl, Mem.of_get at5001⟩
   refine .mv rfl (.mv rfl (.mv rfl (.nil (hK8 _ _ ?_))))
   refine .ret ?_
   refine hret _ _ ?_
   refine ⟨_, _, _, _, _, _, _, rfl, ag_31_D, (by rfl), (Mem.of_get at5001), rfl, rfl, rfl, ?_⟩
   obtain ⟨e1, e2, e3, e4⟩ := els_3 h9 (fun h => h16 ⟨h9, h⟩)
   rw [e1, e2, e3, e4]
   exact ⟨hle, .zero, none, fun _ => none, none, fun _ => none, rfl, .nil _ _⟩
  simp only [sps] at h16
  rw [show (bif B f.ecOk then some (⟨g12, 0, none⟩ : Addr) else none) = some ⟨g12, 0, none⟩ from by rw [B_true h16]; rfl]
  obtain ⟨q, a, r, a2, r2, m1, m2, atK, geK, vT⟩ := hX12 h16
  refine .skip ?_
  refine hK6 _ _ (.seq (fun K9 hK9 => ?_))
  refine .regionDB mo_B (.q 0 (.q 1 (.q 2 (.q 3 (.q 4 (.q 5 (.q 6 (.q 7 (.q 8 (.q 9 (.q 10 (.q 11 (.c 12 1 (.q 13 (.q 14 (.q 15 (.done))))))))))))))))) (by kernel_rfl) (GHeap.le_erase H12 g2) ?_
  have hbl := GHeap.le_erase H12 g2
  have eK := GHeap.get_erase_of (g := g2) atK (by omega)
  refine .mB rfl rfl rfl rfl hbl (.move rfl) ?_
  have bs_vT := vT
  have lv_vT : Keep H2.next H12 H12 := fun _ _ _ h => h
  refine .mB rfl rfl rfl rfl hbl (.nilCheck rfl) ?_
  refine .mB rfl rfl rfl rfl hbl (.fieldAddr fo_91_0_Ee rfl) ?_
  refine .mB rfl rfl rfl rfl hbl (.loadM ag_31_D rfl ⟨rfl, (show Mem _ g12 0 ((elsC f).cells q ++ [_, _, _, _]) from Mem.of_get eK).left⟩) ?_
  refine .mB rfl rfl rfl rfl hbl (.move rfl) ?_
  refine .mB rfl rfl rfl rfl hbl (.nilCheck rfl) ?_
  refine .mB rfl rfl rfl rfl hbl (.fieldAddr fo_91_1_Ee rfl) ?_
  refine .mB rfl rfl rfl rfl hbl (.load on_23_B rfl (Mem.of_get eK 5 _ rfl)) ?_
  refine .mB rfl rfl rfl rfl hbl (.move rfl) ?_
  refine .mB rfl rfl rfl rfl hbl (.nilCheck rfl) ?_
  refine .mB rfl rfl rfl rfl hbl (.fieldAddr fo_91_2_Ee rfl) ?_
  refine .mB rfl rfl rfl rfl hbl (.load on_23_B rfl (Mem.of_get eK 6 _ rfl)) ?_
  refine .r1 rfl rfl rfl (.fillR rfl sz_31_D rfl rfl rfl rfl (by assumption) (by first | rfl | exact Nat.le_of_ble_eq_true rfl | simp)) ?_
  rintro _ H6012 ⟨rfl, st6012, at6012⟩
  refine ⟨(hbl.erase_st st6012), ?_⟩
  have nx_H6012 := st6012.nx
  replace hle := hle.st st6012 (fun k hk => ⟨by omega, trivial⟩)
  have ne_g1_g2 : g1 ≠ g2 := by first | assumption | omega
  replace at1 := st6012.same _ _ ⟨ne_g1_g2, trivial⟩ at1
  replace lv_vT := Keep.st lv_vT st6012 (fun k hb hk => ⟨by omega, trivial⟩)
  replace vT := bs_vT.keep lv_vT (Nat.le_refl _)
  have lt_at6012 := GHeap.ltg at6012
  replace hin := base_hin.mono hle
  clear hb1 fsh1 c51 c61 i11 i21 hm1 hi1 hmsh1 hish1
  have hb1 : SFun.At _ g1 0 f p := ⟨Mem.of_get at1, hin⟩
  obtain ⟨fsh1, c51, c61, i11, i21⟩ := hb1.get
  have hm1 : MemN _ _ _ _ _ := ⟨rfl, hb1.1⟩
  have hi1 := hb1.2
  have hmsh1 : MemN _ _ _ _ _ := ⟨rfl, fsh1.1⟩
  have hish1 := fsh1.2
  have mm6012 : MemN _ _ _ _ _ := ⟨rfl, Mem.of_get at6012⟩
  replace hbl := hbl.erase_st st6012
  refine .mB rfl rfl rfl rfl hbl (.assign rfl) ?_
  refine .mB rfl rfl rfl rfl hbl (.assign rfl) ?_
  refine .mB rfl rfl rfl rfl hbl (.assign rfl) ?_
  refine .done ?_
  refine hK9 _ _ ?_
  refine .ret ?_
  refine hret _ _ ?_
  refine ⟨_, _, _, _, _, _, _, rfl, ag_31_D, (by rfl), (Mem.of_get at6012), rfl, rfl, rfl, ?_⟩
  obtain ⟨e1, e2, e3, e4⟩ := els_0 h16.1 h16.2.1 h16.2.2
  rw [e1, e2, e3, e4]
  exact ⟨hle, q, a, r, a2, r2, rfl, vT.keep (.of_le (.refl _)) (by omega)⟩
end Go.Proofs.Ytagkeabmdodfiaa
namespace Go.Proofs.Ytagkeabmdodfiaa
open Go Go.GL Go.RowKit Go.Proofs
end Go.Proofs.Ytagkeabmdodfiaa
namespace Go.Proofs.Ytagkeabmdodfiaa
open Go Go.GL Go.RowKit Go.Proofs
end Go.Proofs.Ytagkeabmdodfiaa
namespace Go.Proofs.Ytagkeabmdodfiaa
open Go Go.GL Go.RowKit Go.Proofs
theorem markSetFunctor_c {c : SFun} {p : SFunP} {lo hi : Nat} {k : Int} {H : GHeap} (w : SFunW lo hi H c p := by assumption) (hs : c.Small := by assumption) (hk : 0 ≤ k := by omega) (hk' : k + c.total ≤ 9223372036854775000 := by omega) (hhi : hi ≤ H.next := by omega) :
    GCalls Try.prog 25 [.agg (c.cells p).toArray, .int .i64 k] H (fun v H' => v = .int .i64 (k + c.total) ∧ Marked lo hi H H' (c.leaves p) k) := by
  obtain ⟨w1, w2, w3⟩ := w
  have ht : c.total = c.sh.total + (c.sz.length + sumL c.ac) := rfl
  obtain ⟨s1, s2, s3, s4⟩ := hs
  refine GCalls.body (N := 18) (rs := [.tmp 4]) Try.func25 rfl rfl rfl rfl (fun Qx hret hend => ?_)
  refine .forget (fr' := [(0, some _), (1, some _)]) ⟨rfl, rfl, trivial⟩ ?_
  refine .seq (fun K1 hK1 => .region ?_)
  refine .r rfl rfl rfl (.boxR rfl sz_46_VSFun rfl) ?_
  rintro _ H2 ⟨g2, rfl, le2, ge2, at2⟩
  have nx_H2 := le2.1
  have lt_at2 := GHeap.ltg at2
  have mm2 : MemN _ _ _ _ _ := ⟨rfl, Mem.of_get at2⟩
  replace w1 := w1.stm (.of_le le2)
  replace w2 := w2.stm (.of_le le2)
  replace w3 := w3.stm (.of_le le2)
  refine .mv rfl (.nil (hK1 _ _ (.seq (fun K2 hK2 => .region ?_))))
  have m1 : MemN H2 g2 (0 + 0) 5 (c.sh.cells p.sh) := ⟨rfl, Mem.left (bs := [.slice p.a1 c.sz.length c.sz.length, .slice p.a2 c.ac.length c.ac.length]) (Mem.of_get at2)⟩
  refine .m rfl rfl rfl (.fieldAddr fo_46_0_P rfl) ?_
  refine .m rfl rfl rfl (.loadM ag_31_D rfl (by assumption)) ?_
  refine .mv rfl ?_
  refine .call rfl rfl rfl rfl @Try.call26 rfl (markCategory_c) ?_
  rintro _ H8 ⟨rfl, mk8⟩
  have sm8 := mk8.stm
  have nx_H8 := sm8.nx
  replace at2 := sm8.same _ _ (by omega) at2
  replace w1 := w1.stm sm8
  replace w2 := w2.stm sm8
  replace w3 := w3.stm sm8
  clear mm2
  have mm2 : MemN _ _ _ _ _ := ⟨rfl, Mem.of_get at2⟩
  refine .mv rfl (.nil (hK2 _ _ (.seq (fun K3 hK3 => .region ?_))))
  have c1 : H8.cell g2 (0 + 5) = some (.slice p.a1 c.sz.length c.sz.length) := Mem.of_get at2 5 _ rfl
  refine .m rfl rfl rfl (.fieldAddr fo_46_1_P rfl) ?_
  refine .m rfl rfl rfl (.load on_22_B rfl (by first | assumption | exact Mem.of_get at2 5 _ rfl)) ?_
  refine .mv rfl ?_
  refine .call rfl rfl rfl rfl @Try.call43 rfl (markInt64S_c) ?_
  rintro _ H12 ⟨rfl, mk12⟩
  have sm12 := mk12.stm
  have nx_H12 := sm12.nx
  replace at2 := sm12.same _ _ (by omega) at2
  replace w1 := w1.stm sm12
  replace w2 := w2.stm sm12
  replace w3 := w3.stm sm12
  clear mm2
  have mm2 : MemN _ _ _ _ _ := ⟨rfl, Mem.of_get at2⟩
  refine .mv rfl (.nil (hK3 _ _ (.seq (fun K4 hK4 => .region ?_))))
  have c1 : H12.cell g2 (0 + 6) = some (.slice p.a2 c.ac.length c.ac.length) := Mem.of_get at2 6 _ rfl
  refine .m rfl rfl rfl (.fieldAddr fo_46_2_P rfl) ?_
  refine .m rfl rfl rfl (.load on_23_B rfl (by first | assumption | exact Mem.of_get at2 6 _ rfl)) ?_
  refine .mv rfl ?_
  refine .call rfl rfl rfl rfl @Try.call15 rfl (markInt64SS_c) ?_
  rintro _ H16 ⟨rfl, mk16⟩
  have sm16 := mk16.stm
  have nx_H16 := sm16.nx
  replace at2 := sm16.same _ _ (by omega) at2
  replace w1 := w1.stm sm16
  replace w2 := w2.stm sm16
  replace w3 := w3.stm sm16
  clear mm2
  have mm2 : MemN _ _ _ _ _ := ⟨rfl, Mem.of_get at2⟩
  refine .mv rfl (.nil (hK4 _ _ (.seq (fun K5 hK5 => .region (.mv rfl (.mv rfl (.nil (hK5 _ _ ?_))))))))
  refine .ret ?_
  refine hret _ _ ?_
  refine ⟨_, rfl, ?_⟩
  exact ⟨by rw [ht]; congr 1; omega, .le_left le2 (mk8.app' (mk12.app' mk16 (by simp [lvSum])) (by rw [Cat.lvSum_leaves]))⟩
end Go.Proofs.Ytagkeabmdodfiaa
namespace Go.Proofs.Ytagkeabmdodfiaa
open Go Go.GL Go.RowKit Go.Proofs
theorem ag_41_LElementsCategory : aggT Try.prog 41 = some 7 := by kernel_rfl
set_option maxHeartbeats 40000000 in
theorem lawElementsCategory_c {f : SFun} {p : SFunP} {H : GHeap} (h0 : f.In H p) (w0 : f.Wide) :
    GCalls Try.prog 5 [.agg (f.cells p).toArray] H (fun v _ => v = .bool true) := by
  refine GCalls.body (N := 170) (rs := [.tmp 2]) Try.func5 rfl rfl rfl rfl (fun Qx hret hend => ?_)
  refine .forget (fr' := [(0, some _)]) ⟨rfl, trivial⟩ ?_
  have hle := GHeap.Le.refl H
  have base_h0 := h0
  refine .seq (fun K1 hK1 => .region ?_)
  refine .r rfl rfl rfl (.boxR rfl sz_41_VSFun rfl) ?_
  rintro _ H1 ⟨g1, rfl, le1, ge1, at1⟩
  have nx_H1 := le1.1
  replace hle := hle.trans le1
  have lt_at1 := GHeap.ltg at1
  replace h0 := base_h0.mono hle
  have hb1 : SFun.At _ g1 0 f p := ⟨Mem.of_get at1, h0⟩
  obtain ⟨fsh1, c51, c61, i11, i21⟩ := hb1.get
  have hm1 : MemN _ _ _ _ _ := ⟨rfl, hb1.1⟩
  have hi1 := hb1.2
  have hmsh1 : MemN _ _ _ _ _ := ⟨rfl, fsh1.1⟩
  have hish1 := fsh1.2
  refine .mv rfl (.nil (hK1 _ _ (.seq (fun K2 hK2 => .region (.mv rfl (.nil (hK2 _ _ (.seq (fun K3 hK3 => .region ?_)))))))))
  refine .m rfl rfl rfl (.loadM ag_41_LElementsCategory rfl ⟨rfl, Mem.of_get at1⟩) ?_
  refine .mv rfl ?_
  refine .call rfl rfl rfl rfl @Try.call19 rfl (szSetFunctor_c) ?_
  rintro _ _ ⟨heq, lf22, rfl, z122, z222, z322⟩
  obtain rfl := heq.symm
  refine .mv rfl (.nil (hK3 _ _ (.seq (fun K4 hK4 => .seq (fun K5 hK5 => .region (.mv rfl (.m rfl rfl rfl (.cmp rfl rfl rfl) (.nil (hK5 _ _ ?_)))))))))
  refine .cond rfl (fun h24 => ?_) (fun h24 => ?_)
  ·
   try simp only [sps] at h24
   refine .seq (fun K6 hK6 => .region (.mv rfl (.nil (hK6 _ _ ?_))))
   refine .ret ?_
   refine hret _ _ ?_
   refine ⟨_, rfl, ?_⟩
   first
   | exact rfl
   | exact absurd trivial (by assumption)
   | contradiction
   | (exfalso; omega)
  simp only [sps] at h24
  obtain ⟨hcs, hol, hor, hal, har⟩ := els_small f
  have htR := hcs.tot
  have hor2 : ∀ i, (f.elsO.getD i []).length ≤ 1048576 := fun i => by have := hor i; omega
  have har2 : ∀ i, (f.elsA.getD i []).length ≤ 1048576 := fun i => by have := har i; omega
  have hct1 := sumL_tot (xss := f.elsO) (by omega) hor2
  have hct2 := sumL_tot (xss := f.elsA) (by omega) har2
  have hsm22 := z322 (by omega)
  have tb22 := hsm22.tot
  refine .skip ?_
  refine hK4 _ _ (.seq (fun K7 hK7 => .region ?_))
  refine .m rfl rfl rfl (.loadM ag_41_LElementsCategory rfl ⟨rfl, Mem.of_get at1⟩) ?_
  refine .call rfl rfl rfl rfl @Try.call21 rfl (toSetFunctor_c) ?_
  rintro _ H27 ⟨le27, p27, rfl, v27⟩
  have nx_H27 := le27.1
  replace hle := hle.trans le27
  replace at1 := le27.2 _ _ at1
  have bs_v27 := v27
  have lv_v27 : Keep H1.next H27 H27 := fun _ _ _ h => h
  replace h0 := base_h0.mono hle
  clear hb1 fsh1 c51 c61 i11 i21 hm1 hi1 hmsh1 hish1
  have hb1 : SFun.At _ g1 0 f p := ⟨Mem.of_get at1, h0⟩
  obtain ⟨fsh1, c51, c61, i11, i21⟩ := hb1.get
  have hm1 : MemN _ _ _ _ _ := ⟨rfl, hb1.1⟩
  have hi1 := hb1.2
  have hmsh1 : MemN _ _ _ _ _ := ⟨rfl, fsh1.1⟩
  have hish1 := fsh1.2
  have i27 := v27.inn
  refine .call rfl rfl rfl rfl @Try.call20 rfl (specElementsCategory_c) ?_
  rintro _ H28 ⟨le28, p28, a28, r28, a228, r228, rfl, v28, w28, u28⟩
  have nx_H28 := le28.1
  replace hle := hle.trans le28
  replace at1 := le28.2 _ _ at1
  replace lv_v27 := Keep.le lv_v27 le28
  replace v27 := bs_v27.keep lv_v27 (Nat.le_refl _)
  have bs_v28 := v28
  have lv_v28 : Keep H27.next H28 H28 := fun _ _ _ h => h
  have bs_w28 := w28
  have lv_w28 : Keep H27.next H28 H28 := fun _ _ _ h => h
  have bs_u28 := u28
  have lv_u28 : Keep H27.next H28 H28 := fun _ _ _ h => h
  replace h0 := base_h0.mono hle
  clear hb1 fsh1 c51 c61 i11 i21 hm1 hi1 hmsh1 hish1
  have hb1 : SFun.At _ g1 0 f p := ⟨Mem.of_get at1, h0⟩
  obtain ⟨fsh1, c51, c61, i11, i21⟩ := hb1.get
  have hm1 : MemN _ _ _ _ _ := ⟨rfl, hb1.1⟩
  have hi1 := hb1.2
  have hmsh1 : MemN _ _ _ _ _ := ⟨rfl, fsh1.1⟩
  have hish1 := fsh1.2
  clear i27
  have i27 := v27.inn
  have i28 := v28.inn
  have j28 := w28.intss
  have k28 := u28.intss
  refine .mv rfl (.m rfl rfl rfl (.extract rfl rfl) (.m rfl rfl rfl (.extract rfl rfl) (.m rfl rfl rfl (.extract rfl rfl) (.m rfl rfl rfl (.extract rfl rfl) ?_))))
  refine .r rfl rfl rfl (.allocR rfl ze_31_E rfl) ?_
  rintro _ H4 ⟨g4, rfl, le4, ge4, at4⟩
  have nx_H4 := le4.1
  replace hle := hle.trans le4
  replace at1 := le4.2 _ _ at1
  replace lv_v27 := Keep.le lv_v27 le4
  replace v27 := bs_v27.keep lv_v27 (Nat.le_refl _)
  replace lv_v28 := Keep.le lv_v28 le4
  replace v28 := bs_v28.keep lv_v28 (Nat.le_refl _)
  replace lv_w28 := Keep.le lv_w28 le4
  replace w28 := bs_w28.keep lv_w28 (Nat.le_refl _)
  replace lv_u28 := Keep.le lv_u28 le4
  replace u28 := bs_u28.keep lv_u28 (Nat.le_refl _)
  have lt_at4 := GHeap.ltg at4
  replace h0 := base_h0.mono hle
  clear hb1 fsh1 c51 c61 i11 i21 hm1 hi1 hmsh1 hish1
  have hb1 : SFun.At _ g1 0 f p := ⟨Mem.of_get at1, h0⟩
  obtain ⟨fsh1, c51, c61, i11, i21⟩ := hb1.get
  have hm1 : MemN _ _ _ _ _ := ⟨rfl, hb1.1⟩
  have hi1 := hb1.2
  have hmsh1 : MemN _ _ _ _ _ := ⟨rfl, fsh1.1⟩
  have hish1 := fsh1.2
  clear i27
  have i27 := v27.inn
  clear i28
  have i28 := v28.inn
  clear j28
  have j28 := w28.intss
  clear k28
  have k28 := u28.intss
  refine .r0 rfl rfl (.fillR rfl sz_31_D rfl rfl rfl rfl (by assumption) (by first | rfl | exact Nat.le_of_ble_eq_true rfl | simp)) ?_
  rintro _ H5009 ⟨rfl, st5009, at5009⟩
  have nx_H5009 := st5009.nx
  replace hle := hle.st st5009 (fun k hk => ⟨by omega, trivial⟩)
  replace at1 := st5009.same _ _ ⟨(by first | assumption | omega), trivial⟩ at1
  replace lv_v27 := Keep.st lv_v27 st5009 (fun k hb hk => ⟨by omega, trivial⟩)
  replace v27 := bs_v27.keep lv_v27 (Nat.le_refl _)
  replace lv_v28 := Keep.st lv_v28 st5009 (fun k hb hk => ⟨by omega, trivial⟩)
  replace v28 := bs_v28.keep lv_v28 (Nat.le_refl _)
  replace lv_w28 := Keep.st lv_w28 st5009 (fun k hb hk => ⟨by omega, trivial⟩)
  replace w28 := bs_w28.keep lv_w28 (Nat.le_refl _)
  replace lv_u28 := Keep.st lv_u28 st5009 (fun k hb hk => ⟨by omega, trivial⟩)
  replace u28 := bs_u28.keep lv_u28 (Nat.le_refl _)
  have lt_at5009 := GHeap.ltg at5009
  replace h0 := base_h0.mono hle
  clear hb1 fsh1 c51 c61 i11 i21 hm1 hi1 hmsh1 hish1
  have hb1 : SFun.At _ g1 0 f p := ⟨Mem.of_get at1, h0⟩
  obtain ⟨fsh1, c51, c61, i11, i21⟩ := hb1.get
  have hm1 : MemN _ _ _ _ _ := ⟨rfl, hb1.1⟩
  have hi1 := hb1.2
  have hmsh1 : MemN _ _ _ _ _ := ⟨rfl, fsh1.1⟩
  have hish1 := fsh1.2
  clear i27
  have i27 := v27.inn
  clear i28
  have i28 := v28.inn
  clear j28
  have j28 := w28.intss
  clear k28
  have k28 := u28.intss
  have mm5009 : MemN _ _ _ _ _ := ⟨rfl, Mem.of_get at5009⟩
  refine .mv rfl (.mv rfl (.mv rfl (.nil (hK7 _ _ (.seq (fun K8 hK8 => .region ?_))))))
  refine .m rfl rfl rfl (.loadM ag_41_LElementsCategory rfl ⟨rfl, Mem.of_get at1⟩) ?_
  refine .call rfl rfl rfl rfl @Try.call21 rfl (toSetFunctor_c) ?_
  rintro _ H34 ⟨le34, p34, rfl, v34⟩
  have nx_H34 := le34.1
  replace hle := hle.trans le34
  replace at1 := le34.2 _ _ at1
  replace at5009 := le34.2 _ _ at5009
  replace lv_v27 := Keep.le lv_v27 le34
  replace v27 := bs_v27.keep lv_v27 (Nat.le_refl _)
  replace lv_v28 := Keep.le lv_v28 le34
  replace v28 := bs_v28.keep lv_v28 (Nat.le_refl _)
  replace lv_w28 := Keep.le lv_w28 le34
  replace w28 := bs_w28.keep lv_w28 (Nat.le_refl _)
  replace lv_u28 := Keep.le lv_u28 le34
  replace u28 := bs_u28.keep lv_u28 (Nat.le_refl _)
  have bs_v34 := v34
  have lv_v34 : Keep H5009.next H34 H34 := fun _ _ _ h => h
  replace h0 := base_h0.mono hle
  clear hb1 fsh1 c51 c61 i11 i21 hm1 hi1 hmsh1 hish1
  have hb1 : SFun.At _ g1 0 f p := ⟨Mem.of_get at1, h0⟩
  obtain ⟨fsh1, c51, c61, i11, i21⟩ := hb1.get
  have hm1 : MemN _ _ _ _ _ := ⟨rfl, hb1.1⟩
  have hi1 := hb1.2
  have hmsh1 : MemN _ _ _ _ _ := ⟨rfl, fsh1.1⟩
  have hish1 := fsh1.2
  clear i27
  have i27 := v27.inn
  clear i28
  have i28 := v28.inn
  clear j28
  have j28 := w28.intss
  clear k28
  have k28 := u28.intss
  clear mm5009
  have mm5009 : MemN _ _ _ _ _ := ⟨rfl, Mem.of_get at5009⟩
  have i34 := v34.inn
  refine .r rfl rfl rfl (.allocR rfl ze_46_VSFun rfl) ?_
  rintro _ H8 ⟨g8, rfl, le8, ge8, at8⟩
  have nx_H8 := le8.1
  replace hle := hle.trans le8
  replace at1 := le8.2 _ _ at1
  replace at5009 := le8.2 _ _ at5009
  replace lv_v27 := Keep.le lv_v27 le8
  replace v27 := bs_v27.keep lv_v27 (Nat.le_refl _)
  replace lv_v28 := Keep.le lv_v28 le8
  replace v28 := bs_v28.keep lv_v28 (Nat.le_refl _)
  replace lv_w28 := Keep.le lv_w28 le8
  replace w28 := bs_w28.keep lv_w28 (Nat.le_refl _)
  replace lv_u28 := Keep.le lv_u28 le8
  replace u28 := bs_u28.keep lv_u28 (Nat.le_refl _)
  replace lv_v34 := Keep.le lv_v34 le8
  replace v34 := bs_v34.keep lv_v34 (Nat.le_refl _)
  have lt_at8 := GHeap.ltg at8
  replace h0 := base_h0.mono hle
  clear hb1 fsh1 c51 c61 i11 i21 hm1 hi1 hmsh1 hish1
  have hb1 : SFun.At _ g1 0 f p := ⟨Mem.of_get at1, h0⟩
  obtain ⟨fsh1, c51, c61, i11, i21⟩ := hb1.get
  have hm1 : MemN _ _ _ _ _ := ⟨rfl, hb1.1⟩
  have hi1 := hb1.2
  have hmsh1 : MemN _ _ _ _ _ := ⟨rfl, fsh1.1⟩
  have hish1 := fsh1.2
  clear i27
  have i27 := v27.inn
  clear i28
  have i28 := v28.inn
  clear j28
  have j28 := w28.intss
  clear k28
  have k28 := u28.intss
  clear mm5009
  have mm5009 : MemN _ _ _ _ _ := ⟨rfl, Mem.of_get at5009⟩
  clear i34
  have i34 := v34.inn
  refine .r0 rfl rfl (.fillR rfl sz_46_VSFun rfl rfl rfl rfl (by assumption) (by first | rfl | exact Nat.le_of_ble_eq_true rfl | simp)) ?_
  rintro _ H6003 ⟨rfl, st6003, at6003⟩
  have nx_H6003 := st6003.nx
  replace hle := hle.st st6003 (fun k hk => ⟨by omega, trivial⟩)
  replace at1 := st6003.same _ _ ⟨(by first | assumption | omega), trivial⟩ at1
  replace at5009 := st6003.same _ _ ⟨(by first | assumption | omega), trivial⟩ at5009
  replace lv_v27 := Keep.st lv_v27 st6003 (fun k hb hk => ⟨by omega, trivial⟩)
  replace v27 := bs_v27.keep lv_v27 (Nat.le_refl _)
  replace lv_v28 := Keep.st lv_v28 st6003 (fun k hb hk => ⟨by omega, trivial⟩)
  replace v28 := bs_v28.keep lv_v28 (Nat.le_refl _)
  replace lv_w28 := Keep.st lv_w28 st6003 (fun k hb hk => ⟨by omega, trivial⟩)
  replace w28 := bs_w28.keep lv_w28 (Nat.le_refl _)
  replace lv_u28 := Keep.st lv_u28 st6003 (fun k hb hk => ⟨by omega, trivial⟩)
  replace u28 := bs_u28.keep lv_u28 (Nat.le_refl _)
  replace lv_v34 := Keep.st lv_v34 st6003 (fun k hb hk => ⟨by omega, trivial⟩)
  replace v34 := bs_v34.keep lv_v34 (Nat.le_refl _)
  have lt_at6003 := GHeap.ltg at6003
  replace h0 := base_h0.mono hle
  clear hb1 fsh1 c51 c61 i11 i21 hm1 hi1 hmsh1 hish1
  have hb1 : SFun.At _ g1 0 f p := ⟨Mem.of_get at1, h0⟩
  obtain ⟨fsh1, c51, c61, i11, i21⟩ := hb1.get
  have hm1 : MemN _ _ _ _ _ := ⟨rfl, hb1.1⟩
  have hi1 := hb1.2
  have hmsh1 : MemN _ _ _ _ _ := ⟨rfl, fsh1.1⟩
  have hish1 := fsh1.2
  clear i27
  have i27 := v27.inn
  clear i28
  have i28 := v28.inn
  clear j28
  have j28 := w28.intss
  clear k28
  have k28 := u28.intss
  clear mm5009
  have mm5009 : MemN _ _ _ _ _ := ⟨rfl, Mem.of_get at5009⟩
  clear i34
  have i34 := v34.inn
  have mm6003 : MemN _ _ _ _ _ := ⟨rfl, Mem.of_get at6003⟩
  refine .nil (hK8 _ _ (.seq (fun K9 hK9 => .region ?_)))
  refine .m rfl rfl rfl (.loadM ag_46_VSFun rfl ⟨rfl, Mem.of_get at6003⟩) ?_
  refine .call rfl rfl rfl rfl @Try.call22 rfl (implElementsCategory_c) ?_
  rintro _ H37 ⟨le37, q37, a37, r37, a237, r237, rfl, v37⟩
  have nx_H37 := le37.1
  replace hle := hle.trans le37
  replace at1 := le37.2 _ _ at1
  replace at5009 := le37.2 _ _ at5009
  replace at6003 := le37.2 _ _ at6003
  replace lv_v27 := Keep.le lv_v27 le37
  replace v27 := bs_v27.keep lv_v27 (Nat.le_refl _)
  replace lv_v28 := Keep.le lv_v28 le37
  replace v28 := bs_v28.keep lv_v28 (Nat.le_refl _)
  replace lv_w28 := Keep.le lv_w28 le37
  replace w28 := bs_w28.keep lv_w28 (Nat.le_refl _)
  replace lv_u28 := Keep.le lv_u28 le37
  replace u28 := bs_u28.keep lv_u28 (Nat.le_refl _)
  replace lv_v34 := Keep.le lv_v34 le37
  replace v34 := bs_v34.keep lv_v34 (Nat.le_refl _)
  have bs_v37 := v37
  have lv_v37 : Keep H6003.next H37 H37 := fun _ _ _ h => h
  replace h0 := base_h0.mono hle
  clear hb1 fsh1 c51 c61 i11 i21 hm1 hi1 hmsh1 hish1
  have hb1 : SFun.At _ g1 0 f p := ⟨Mem.of_get at1, h0⟩
  obtain ⟨fsh1, c51, c61, i11, i21⟩ := hb1.get
  have hm1 : MemN _ _ _ _ _ := ⟨rfl, hb1.1⟩
  have hi1 := hb1.2
  have hmsh1 : MemN _ _ _ _ _ := ⟨rfl, fsh1.1⟩
  have hish1 := fsh1.2
  clear i27
  have i27 := v27.inn
  clear i28
  have i28 := v28.inn
  clear j28
  have j28 := w28.intss
  clear k28
  have k28 := u28.intss
  clear mm5009
  have mm5009 : MemN _ _ _ _ _ := ⟨rfl, Mem.of_get at5009⟩
  clear i34
  have i34 := v34.inn
  clear mm6003
  have mm6003 : MemN _ _ _ _ _ := ⟨rfl, Mem.of_get at6003⟩
  have i37 := v37.v.inn
  have j37 := v37.w.intss
  have k37 := v37.u.intss
  refine .mv rfl (.m rfl rfl rfl (.extract rfl rfl) (.m rfl rfl rfl (.extract rfl rfl) (.m rfl rfl rfl (.extract rfl rfl) (.m rfl rfl rfl (.extract rfl rfl) ?_))))
  refine .r rfl rfl rfl (.allocR rfl ze_31_E rfl) ?_
  rintro _ H9 ⟨g9, rfl, le9, ge9, at9⟩
  have nx_H9 := le9.1
  replace hle := hle.trans le9
  replace at1 := le9.2 _ _ at1
  replace at5009 := le9.2 _ _ at5009
  replace at6003 := le9.2 _ _ at6003
  replace lv_v27 := Keep.le lv_v27 le9
  replace v27 := bs_v27.keep lv_v27 (Nat.le_refl _)
  replace lv_v28 := Keep.le lv_v28 le9
  replace v28 := bs_v28.keep lv_v28 (Nat.le_refl _)
  replace lv_w28 := Keep.le lv_w28 le9
  replace w28 := bs_w28.keep lv_w28 (Nat.le_refl _)
  replace lv_u28 := Keep.le lv_u28 le9
  replace u28 := bs_u28.keep lv_u28 (Nat.le_refl _)
  replace lv_v34 := Keep.le lv_v34 le9
  replace v34 := bs_v34.keep lv_v34 (Nat.le_refl _)
  replace lv_v37 := Keep.le lv_v37 le9
  replace v37 := bs_v37.keep lv_v37 (Nat.le_refl _)
  have lt_at9 := GHeap.ltg at9
  replace h0 := base_h0.mono hle
  clear hb1 fsh1 c51 c61 i11 i21 hm1 hi1 hmsh1 hish1
  have hb1 : SFun.At _ g1 0 f p := ⟨Mem.of_get at1, h0⟩
  obtain ⟨fsh1, c51, c61, i11, i21⟩ := hb1.get
  have hm1 : MemN _ _ _ _ _ := ⟨rfl, hb1.1⟩
  have hi1 := hb1.2
  have hmsh1 : MemN _ _ _ _ _ := ⟨rfl, fsh1.1⟩
  have hish1 := fsh1.2
  clear i27
  have i27 := v27.inn
  clear i28
  have i28 := v28.inn
  clear j28
  have j28 := w28.intss
  clear k28
  have k28 := u28.intss
  clear mm5009
  have mm5009 : MemN _ _ _ _ _ := ⟨rfl, Mem.of_get at5009⟩
  clear i34
  have i34 := v34.inn
  clear mm6003
  have mm6003 : MemN _ _ _ _ _ := ⟨rfl, Mem.of_get at6003⟩
  clear i37
  have i37 := v37.v.inn
  clear j37
  have j37 := v37.w.intss
  clear k37
  have k37 := v37.u.intss
  refine .r0 rfl rfl (.fillR rfl sz_31_D rfl rfl rfl rfl (by assumption) (by first | rfl | exact Nat.le_of_ble_eq_true rfl | simp)) ?_
  rintro _ H7008 ⟨rfl, st7008, at7008⟩
  have nx_H7008 := st7008.nx
  replace hle := hle.st st7008 (fun k hk => ⟨by omega, trivial⟩)
  replace at1 := st7008.same _ _ ⟨(by first | assumption | omega), trivial⟩ at1
  replace at5009 := st7008.same _ _ ⟨(by first | assumption | omega), trivial⟩ at5009
  replace at6003 := st7008.same _ _ ⟨(by first | assumption | omega), trivial⟩ at6003
  replace lv_v27 := Keep.st lv_v27 st7008 (fun k hb hk => ⟨by omega, trivial⟩)
  replace v27 := bs_v27.keep lv_v27 (Nat.le_refl _)
  replace lv_v28 := Keep.st lv_v28 st7008 (fun k hb hk => ⟨by omega, trivial⟩)
  replace v28 := bs_v28.keep lv_v28 (Nat.le_refl _)
  replace lv_w28 := Keep.st lv_w28 st7008 (fun k hb hk => ⟨by omega, trivial⟩)
  replace w28 := bs_w28.keep lv_w28 (Nat.le_refl _)
  replace lv_u28 := Keep.st lv_u28 st7008 (fun k hb hk => ⟨by omega, trivial⟩)
  replace u28 := bs_u28.keep lv_u28 (Nat.le_refl _)
  replace lv_v34 := Keep.st lv_v34 st7008 (fun k hb hk => ⟨by omega, trivial⟩)
  replace v34 := bs_v34.keep lv_v34 (Nat.le_refl _)
  replace lv_v37 := Keep.st lv_v37 st7008 (fun k hb hk => ⟨by omega, trivial⟩)
  replace v37 := bs_v37.keep lv_v37 (Nat.le_refl _)
  have lt_at7008 := GHeap.ltg at7008
  replace h0 := base_h0.mono hle
  clear hb1 fsh1 c51 c61 i11 i21 hm1 hi1 hmsh1 hish1
  have hb1 : SFun.At _ g1 0 f p := ⟨Mem.of_get at1, h0⟩
  obtain ⟨fsh1, c51, c61, i11, i21⟩ := hb1.get
  have hm1 : MemN _ _ _ _ _ := ⟨rfl, hb1.1⟩
  have hi1 := hb1.2
  have hmsh1 : MemN _ _ _ _ _ := ⟨rfl, fsh1.1⟩
  have hish1 := fsh1.2
  clear i27
  have i27 := v27.inn
  clear i28
  have i28 := v28.inn
  clear j28
  have j28 := w28.intss
  clear k28
  have k28 := u28.intss
  clear mm5009
  have mm5009 : MemN _ _ _ _ _ := ⟨rfl, Mem.of_get at5009⟩
  clear i34
  have i34 := v34.inn
  clear mm6003
  have mm6003 : MemN _ _ _ _ _ := ⟨rfl, Mem.of_get at6003⟩
  clear i37
  have i37 := v37.v.inn
  clear j37
  have j37 := v37.w.intss
  clear k37
  have k37 := v37.u.intss
  have mm7008 : MemN _ _ _ _ _ := ⟨rfl, Mem.of_get at7008⟩
  refine .mv rfl (.mv rfl (.mv rfl (.nil (hK9 _ _ (.seq (fun K10 hK10 => .seq (fun K11 hK11 => .region ?_)))))))
  refine .m rfl rfl rfl (.loadM ag_31_D rfl ⟨rfl, Mem.of_get at7008⟩) ?_
  refine .m rfl rfl rfl (.loadM ag_31_D rfl ⟨rfl, Mem.of_get at5009⟩) ?_
  refine .callQ rfl rfl rfl rfl @Try.call23 rfl (eqCategory_c) ?_
  refine .m rfl rfl rfl (.not rfl) (.mv rfl ?_)
  refine .split (fun h46 => ?_) (fun h46 => ?_)
  ·
   try simp only [sps] at h46
   refine .sg rfl rfl rfl rfl rfl (.sg rfl rfl rfl rfl rfl (.sg rfl rfl rfl rfl rfl (.sg rfl rfl rfl rfl rfl (.m rfl rfl rfl (.pickT rfl rfl) (.mv rfl (.sg rfl rfl rfl rfl rfl (.sg rfl rfl rfl rfl rfl (.sg rfl rfl rfl rfl rfl (.sg rfl rfl rfl rfl rfl (.m rfl rfl rfl (.pickT rfl rfl) (.mv rfl (.sg rfl rfl rfl rfl rfl (.sg rfl rfl rfl rfl rfl (.sg rfl rfl rfl rfl rfl (.m rfl rfl rfl (.pickT rfl rfl) ?_)))))))))))))))
   refine .nil (hK11 _ _ ?_)
   refine .condT rfl ?_
   refine .seq (fun K12 hK12 => .region (.mv rfl (.nil (hK12 _ _ ?_))))
   refine .ret ?_
   refine hret _ _ ?_
   refine ⟨_, rfl, ?_⟩
   first
   | exact rfl
   | exact absurd trivial (by assumption)
   | contradiction
   | (exfalso; omega)
  try simp only [sps] at h46
  refine .mg rfl rfl rfl rfl rfl (.move rfl) (.mg rfl rfl rfl rfl rfl (.move rfl) ?_)
  refine .callQg rfl rfl rfl rfl rfl rfl @Try.call12 rfl (eqInt64SS_c) ?_
  refine .mg rfl rfl rfl rfl rfl (.not rfl) (.m rfl rfl rfl (.pickF rfl rfl) (.mv rfl ?_))
  refine .split (fun h52 => ?_) (fun h52 => ?_)
  ·
   try simp only [sps] at h52
   refine .sg rfl rfl rfl rfl rfl (.sg rfl rfl rfl rfl rfl (.sg rfl rfl rfl rfl rfl (.sg rfl rfl rfl rfl rfl (.m rfl rfl rfl (.pickT rfl rfl) (.mv rfl (.sg rfl rfl rfl rfl rfl (.sg rfl rfl rfl rfl rfl (.sg rfl rfl rfl rfl rfl (.m rfl rfl rfl (.pickT rfl rfl) (.nil (hK11 _ _ ?_)))))))))))
   refine .condT rfl ?_
   refine .seq (fun K13 hK13 => .region (.mv rfl (.nil (hK13 _ _ ?_))))
   refine .ret ?_
   refine hret _ _ ?_
   refine ⟨_, rfl, ?_⟩
   first
   | exact rfl
   | exact absurd trivial (by assumption)
   | contradiction
   | (exfalso; omega)
  try simp only [sps] at h52
  refine .mg rfl rfl rfl rfl rfl (.move rfl) (.mg rfl rfl rfl rfl rfl (.move rfl) ?_)
  refine .callQg rfl rfl rfl rfl rfl rfl @Try.call12 rfl (eqInt64SS_c) ?_
  refine .mg rfl rfl rfl rfl rfl (.not rfl) (.m rfl rfl rfl (.pickF rfl rfl) (.mv rfl ?_))
  refine .split (fun h58 => ?_) (fun h58 => ?_)
  ·
   try simp only [sps] at h58
   refine .sg rfl rfl rfl rfl rfl (.sg rfl rfl rfl rfl rfl (.sg rfl rfl rfl rfl rfl (.m rfl rfl rfl (.pickT rfl rfl) (.nil (hK11 _ _ ?_)))))
   refine .condT rfl ?_
   refine .seq (fun K14 hK14 => .region (.mv rfl (.nil (hK14 _ _ ?_))))
   refine .ret ?_
   refine hret _ _ ?_
   refine ⟨_, rfl, ?_⟩
   first
   | exact rfl
   | exact absurd trivial (by assumption)
   | contradiction
   | (exfalso; omega)
  try simp only [sps] at h58
  refine .mg rfl rfl rfl rfl rfl (.move rfl) (.mg rfl rfl rfl rfl rfl (.move rfl) (.mg rfl rfl rfl rfl rfl (.cmp rfl rfl rfl) (.m rfl rfl rfl (.pickF rfl rfl) (.nil (hK11 _ _ ?_)))))
  refine .cond rfl (fun h62 => ?_) (fun h62 => ?_)
  ·
   try simp only [sps] at h62
   refine .seq (fun K15 hK15 => .region (.mv rfl (.nil (hK15 _ _ ?_))))
   refine .ret ?_
   refine hret _ _ ?_
   refine ⟨_, rfl, ?_⟩
   first
   | exact rfl
   | exact absurd trivial (by assumption)
   | contradiction
   | (exfalso; omega)
  try simp only [sps] at h62
  refine .skip ?_
  refine hK10 _ _ (.seq (fun K16 hK16 => .seq (fun K17 hK17 => ?_)))
  refine .regionD mo_B (.q 0 (.q 1 (.c 2 1 (.c 3 0 (.q 4 (.done)))))) (by kernel_rfl) ?_
  refine .m rfl rfl rfl rfl (.refl _) (.loadM ag_46_VSFun rfl ⟨rfl, Mem.of_get at6003⟩) ?_
  refine .m rfl rfl rfl rfl (.refl _) (.loadM ag_41_LElementsCategory rfl ⟨rfl, Mem.of_get at1⟩) ?_
  refine .call1 rfl rfl rfl rfl rfl @Try.call21 rfl (toSetFunctor_c) ?_
  rintro _ H65 ⟨le65, p65, rfl, v65⟩
  have hbl := le65
  refine ⟨hbl, ?_⟩
  have nx_H65 := le65.1
  replace hle := hle.trans le65
  replace at1 := le65.2 _ _ at1
  replace at5009 := le65.2 _ _ at5009
  replace at6003 := le65.2 _ _ at6003
  replace at7008 := le65.2 _ _ at7008
  replace lv_v27 := Keep.le lv_v27 le65
  replace v27 := bs_v27.keep lv_v27 (Nat.le_refl _)
  replace lv_v28 := Keep.le lv_v28 le65
  replace v28 := bs_v28.keep lv_v28 (Nat.le_refl _)
  replace lv_w28 := Keep.le lv_w28 le65
  replace w28 := bs_w28.keep lv_w28 (Nat.le_refl _)
  replace lv_u28 := Keep.le lv_u28 le65
  replace u28 := bs_u28.keep lv_u28 (Nat.le_refl _)
  replace lv_v34 := Keep.le lv_v34 le65
  replace v34 := bs_v34.keep lv_v34 (Nat.le_refl _)
  replace lv_v37 := Keep.le lv_v37 le65
  replace v37 := bs_v37.keep lv_v37 (Nat.le_refl _)
  have bs_v65 := v65
  have lv_v65 : Keep H7008.next H65 H65 := fun _ _ _ h => h
  replace h0 := base_h0.mono hle
  clear hb1 fsh1 c51 c61 i11 i21 hm1 hi1 hmsh1 hish1
  have hb1 : SFun.At _ g1 0 f p := ⟨Mem.of_get at1, h0⟩
  obtain ⟨fsh1, c51, c61, i11, i21⟩ := hb1.get
  have hm1 : MemN _ _ _ _ _ := ⟨rfl, hb1.1⟩
  have hi1 := hb1.2
  have hmsh1 : MemN _ _ _ _ _ := ⟨rfl, fsh1.1⟩
  have hish1 := fsh1.2
  clear i27
  have i27 := v27.inn
  clear i28
  have i28 := v28.inn
  clear j28
  have j28 := w28.intss
  clear k28
  have k28 := u28.intss
  clear mm5009
  have mm5009 : MemN _ _ _ _ _ := ⟨rfl, Mem.of_get at5009⟩
  clear i34
  have i34 := v34.inn
  clear mm6003
  have mm6003 : MemN _ _ _ _ _ := ⟨rfl, Mem.of_get at6003⟩
  clear i37
  have i37 := v37.v.inn
  clear j37
  have j37 := v37.w.intss
  clear k37
  have k37 := v37.u.intss
  clear mm7008
  have mm7008 : MemN _ _ _ _ _ := ⟨rfl, Mem.of_get at7008⟩
  have i65 := v65.inn
  refine .callQ0 rfl rfl rfl rfl rfl @Try.call24 rfl (eqSetFunctor_c) ?_
  refine .m rfl rfl rfl rfl (.refl _) (.not rfl) ?_
  refine .done ?_
  refine hK17 _ _ ?_
  refine .cond rfl (fun h67 => ?_) (fun h67 => ?_)
  ·
   try simp only [sps] at h67
   refine .seq (fun K18 hK18 => .region (.mv rfl (.nil (hK18 _ _ ?_))))
   refine .ret ?_
   refine hret _ _ ?_
   refine ⟨_, rfl, ?_⟩
   first
   | exact rfl
   | exact absurd trivial (by assumption)
   | contradiction
   | (exfalso; omega)
  try simp only [sps] at h67
  refine .skip ?_
  refine hK16 _ _ (.seq (fun K19 hK19 => .region (.mv rfl (.nil (hK19 _ _ (.seq (fun K20 hK20 => .region ?_)))))))
  refine .m rfl rfl rfl (.loadM ag_46_VSFun rfl ⟨rfl, Mem.of_get at6003⟩) ?_
  refine .mv rfl ?_
  have w_v34 := SFunW.of_at bs_v34 lv_v34
  refine .call rfl rfl rfl rfl @Try.call25 rfl (markSetFunctor_c) ?_
  rintro _ H70 ⟨rfl, mk70⟩
  have sm70 := mk70.stm
  have nx_H70 := sm70.nx
  replace hle := StM.le_left hle sm70 (by omega)
  replace at1 := sm70.same _ _ (by omega) at1
  replace at5009 := sm70.same _ _ (by omega) at5009
  replace at6003 := sm70.same _ _ (by omega) at6003
  replace at7008 := sm70.same _ _ (by omega) at7008
  replace lv_v27 := Keep.stM lv_v27 sm70 (fun k hb hk => by omega)
  replace v27 := bs_v27.keep lv_v27 (Nat.le_refl _)
  replace lv_v28 := Keep.stM lv_v28 sm70 (fun k hb hk => by omega)
  replace v28 := bs_v28.keep lv_v28 (Nat.le_refl _)
  replace lv_w28 := Keep.stM lv_w28 sm70 (fun k hb hk => by omega)
  replace w28 := bs_w28.keep lv_w28 (Nat.le_refl _)
  replace lv_u28 := Keep.stM lv_u28 sm70 (fun k hb hk => by omega)
  replace u28 := bs_u28.keep lv_u28 (Nat.le_refl _)
  replace lv_v37 := Keep.stM lv_v37 sm70 (fun k hb hk => by omega)
  replace v37 := bs_v37.keep lv_v37 (Nat.le_refl _)
  replace lv_v65 := Keep.stM lv_v65 sm70 (fun k hb hk => by omega)
  replace v65 := bs_v65.keep lv_v65 (Nat.le_refl _)
  replace h0 := base_h0.mono hle
  clear hb1 fsh1 c51 c61 i11 i21 hm1 hi1 hmsh1 hish1
  have hb1 : SFun.At _ g1 0 f p := ⟨Mem.of_get at1, h0⟩
  obtain ⟨fsh1, c51, c61, i11, i21⟩ := hb1.get
  have hm1 : MemN _ _ _ _ _ := ⟨rfl, hb1.1⟩
  have hi1 := hb1.2
  have hmsh1 : MemN _ _ _ _ _ := ⟨rfl, fsh1.1⟩
  have hish1 := fsh1.2
  clear i27
  have i27 := v27.inn
  clear i28
  have i28 := v28.inn
  clear j28
  have j28 := w28.intss
  clear k28
  have k28 := u28.intss
  clear mm5009
  have mm5009 : MemN _ _ _ _ _ := ⟨rfl, Mem.of_get at5009⟩
  clear mm6003
  have mm6003 : MemN _ _ _ _ _ := ⟨rfl, Mem.of_get at6003⟩
  clear i37
  have i37 := v37.v.inn
  clear j37
  have j37 := v37.w.intss
  clear k37
  have k37 := v37.u.intss
  clear mm7008
  have mm7008 : MemN _ _ _ _ _ := ⟨rfl, Mem.of_get at7008⟩
  clear i65
  have i65 := v65.inn
  refine .mv rfl (.nil (hK20 _ _ (.seq (fun K21 hK21 => .seq (fun K22 hK22 => .region (.mv rfl (.m rfl rfl rfl (.cmp rfl rfl rfl) (.mv rfl ?_))))))))
  refine .split (fun h73 => ?_) (fun h73 => ?_)
  ·
   try simp only [sps] at h73
   refine .sg rfl rfl rfl rfl rfl (.sg rfl rfl rfl rfl rfl (.sg rfl rfl rfl rfl rfl (.sg rfl rfl rfl rfl rfl (.m rfl rfl rfl (.pickT rfl rfl) (.mv rfl (.sg rfl rfl rfl rfl rfl (.sg rfl rfl rfl rfl rfl (.sg rfl rfl rfl rfl rfl (.sg rfl rfl rfl rfl rfl (.m rfl rfl rfl (.pickT rfl rfl) (.mv rfl (.sg rfl rfl rfl rfl rfl (.sg rfl rfl rfl rfl rfl (.sg rfl rfl rfl rfl rfl (.sg rfl rfl rfl rfl rfl ?_)))))))))))))))
   refine .m rfl rfl rfl (.pickT rfl rfl) (.mv rfl (.sg rfl rfl rfl rfl rfl (.sg rfl rfl rfl rfl rfl (.sg rfl rfl rfl rfl rfl (.m rfl rfl rfl (.pickT rfl rfl) (.nil (hK22 _ _ ?_)))))))
   refine .condT rfl ?_
   refine .seq (fun K23 hK23 => .region (.mv rfl (.nil (hK23 _ _ ?_))))
   refine .ret ?_
   refine hret _ _ ?_
   refine ⟨_, rfl, ?_⟩
   first
   | exact rfl
   | exact absurd trivial (by assumption)
   | contradiction
   | (exfalso; omega)
  try simp only [sps] at h73
  refine .mg rfl rfl rfl rfl rfl (.loadM ag_31_D rfl ⟨rfl, Mem.of_get at7008⟩) ?_
  refine .mg rfl rfl rfl rfl rfl (.loadM ag_31_D rfl ⟨rfl, Mem.of_get at5009⟩) ?_
  refine .callQg rfl rfl rfl rfl rfl rfl @Try.call23 rfl (eqCategory_c) ?_
  refine .mg rfl rfl rfl rfl rfl (.not rfl) (.m rfl rfl rfl (.pickF rfl rfl) (.mv rfl ?_))
  refine .split (fun h79 => ?_) (fun h79 => ?_)
  ·
   try simp only [sps] at h79
   refine .sg rfl rfl rfl rfl rfl (.sg rfl rfl rfl rfl rfl (.sg rfl rfl rfl rfl rfl (.sg rfl rfl rfl rfl rfl (.m rfl rfl rfl (.pickT rfl rfl) (.mv rfl (.sg rfl rfl rfl rfl rfl (.sg rfl rfl rfl rfl rfl (.sg rfl rfl rfl rfl rfl (.sg rfl rfl rfl rfl rfl (.m rfl rfl rfl (.pickT rfl rfl) (.mv rfl (.sg rfl rfl rfl rfl rfl (.sg rfl rfl rfl rfl rfl (.sg rfl rfl rfl rfl rfl (.m rfl rfl rfl (.pickT rfl rfl) ?_)))))))))))))))
   refine .nil (hK22 _ _ ?_)
   refine .condT rfl ?_
   refine .seq (fun K24 hK24 => .region (.mv rfl (.nil (hK24 _ _ ?_))))
   refine .ret ?_
   refine hret _ _ ?_
   refine ⟨_, rfl, ?_⟩
   first
   | exact rfl
   | exact absurd trivial (by assumption)
   | contradiction
   | (exfalso; omega)
  try simp only [sps] at h79
  refine .mg rfl rfl rfl rfl rfl (.move rfl) (.mg rfl rfl rfl rfl rfl (.move rfl) ?_)
  refine .callQg rfl rfl rfl rfl rfl rfl @Try.call12 rfl (eqInt64SS_c) ?_
  refine .mg rfl rfl rfl rfl rfl (.not rfl) (.m rfl rfl rfl (.pickF rfl rfl) (.mv rfl ?_))
  refine .split (fun h85 => ?_) (fun h85 => ?_)
  ·
   try simp only [sps] at h85
   refine .sg rfl rfl rfl rfl rfl (.sg rfl rfl rfl rfl rfl (.sg rfl rfl rfl rfl rfl (.sg rfl rfl rfl rfl rfl (.m rfl rfl rfl (.pickT rfl rfl) (.mv rfl (.sg rfl rfl rfl rfl rfl (.sg rfl rfl rfl rfl rfl (.sg rfl rfl rfl rfl rfl (.m rfl rfl rfl (.pickT rfl rfl) (.nil (hK22 _ _ ?_)))))))))))
   refine .condT rfl ?_
   refine .seq (fun K25 hK25 => .region (.mv rfl (.nil (hK25 _ _ ?_))))
   refine .ret ?_
   refine hret _ _ ?_
   refine ⟨_, rfl, ?_⟩
   first
   | exact rfl
   | exact absurd trivial (by assumption)
   | contradiction
   | (exfalso; omega)
  try simp only [sps] at h85
  refine .mg rfl rfl rfl rfl rfl (.move rfl) (.mg rfl rfl rfl rfl rfl (.move rfl) ?_)
  refine .callQg rfl rfl rfl rfl rfl rfl @Try.call12 rfl (eqInt64SS_c) ?_
  refine .mg rfl rfl rfl rfl rfl (.not rfl) (.m rfl rfl rfl (.pickF rfl rfl) (.mv rfl ?_))
  refine .split (fun h91 => ?_) (fun h91 => ?_)
  ·
   try simp only [sps] at h91
   refine .sg rfl rfl rfl rfl rfl (.sg rfl rfl rfl rfl rfl (.sg rfl rfl rfl rfl rfl (.m rfl rfl rfl (.pickT rfl rfl) (.nil (hK22 _ _ ?_)))))
   refine .condT rfl ?_
   refine .seq (fun K26 hK26 => .region (.mv rfl (.nil (hK26 _ _ ?_))))
   refine .ret ?_
   refine hret _ _ ?_
   refine ⟨_, rfl, ?_⟩
   first
   | exact rfl
   | exact absurd trivial (by assumption)
   | contradiction
   | (exfalso; omega)
  try simp only [sps] at h91
  refine .mg rfl rfl rfl rfl rfl (.move rfl) (.mg rfl rfl rfl rfl rfl (.move rfl) (.mg rfl rfl rfl rfl rfl (.cmp rfl rfl rfl) (.m rfl rfl rfl (.pickF rfl rfl) (.nil (hK22 _ _ ?_)))))
  refine .cond rfl (fun h95 => ?_) (fun h95 => ?_)
  ·
   try simp only [sps] at h95
   refine .seq (fun K27 hK27 => .region (.mv rfl (.nil (hK27 _ _ ?_))))
   refine .ret ?_
   refine hret _ _ ?_
   refine ⟨_, rfl, ?_⟩
   first
   | exact rfl
   | exact absurd trivial (by assumption)
   | contradiction
   | (exfalso; omega)
  try simp only [sps] at h95
  refine .skip ?_
  refine hK21 _ _ (.seq (fun K28 hK28 => .region (.mv rfl (.nil (hK28 _ _ (.seq (fun K29 hK29 => .region ?_)))))))
  refine .m rfl rfl rfl (.loadM ag_31_D rfl ⟨rfl, Mem.of_get at7008⟩) ?_
  refine .mv rfl ?_
  have w1_v37 := CatW.of_r bs_v37.v lv_v37
  have w2_v37 := IntssW.of_r bs_v37.w lv_v37
  have w3_v37 := IntssW.of_r bs_v37.u lv_v37
  refine .call rfl rfl rfl rfl @Try.call26 rfl (markCategory_c) ?_
  rintro _ H98 ⟨rfl, mk98⟩
  have sm98 := mk98.stm
  have nx_H98 := sm98.nx
  replace hle := StM.le_left hle sm98 (by omega)
  replace at1 := sm98.same _ _ (by omega) at1
  replace at5009 := sm98.same _ _ (by omega) at5009
  replace at6003 := sm98.same _ _ (by omega) at6003
  replace at7008 := sm98.same _ _ (by omega) at7008
  replace lv_v27 := Keep.stM lv_v27 sm98 (fun k hb hk => by omega)
  replace v27 := bs_v27.keep lv_v27 (Nat.le_refl _)
  replace lv_v28 := Keep.stM lv_v28 sm98 (fun k hb hk => by omega)
  replace v28 := bs_v28.keep lv_v28 (Nat.le_refl _)
  replace lv_w28 := Keep.stM lv_w28 sm98 (fun k hb hk => by omega)
  replace w28 := bs_w28.keep lv_w28 (Nat.le_refl _)
  replace lv_u28 := Keep.stM lv_u28 sm98 (fun k hb hk => by omega)
  replace u28 := bs_u28.keep lv_u28 (Nat.le_refl _)
  replace lv_v65 := Keep.stM lv_v65 sm98 (fun k hb hk => by omega)
  replace v65 := bs_v65.keep lv_v65 (Nat.le_refl _)
  replace h0 := base_h0.mono hle
  clear hb1 fsh1 c51 c61 i11 i21 hm1 hi1 hmsh1 hish1
  have hb1 : SFun.At _ g1 0 f p := ⟨Mem.of_get at1, h0⟩
  obtain ⟨fsh1, c51, c61, i11, i21⟩ := hb1.get
  have hm1 : MemN _ _ _ _ _ := ⟨rfl, hb1.1⟩
  have hi1 := hb1.2
  have hmsh1 : MemN _ _ _ _ _ := ⟨rfl, fsh1.1⟩
  have hish1 := fsh1.2
  clear i27
  have i27 := v27.inn
  clear i28
  have i28 := v28.inn
  clear j28
  have j28 := w28.intss
  clear k28
  have k28 := u28.intss
  clear mm5009
  have mm5009 : MemN _ _ _ _ _ := ⟨rfl, Mem.of_get at5009⟩
  clear mm6003
  have mm6003 : MemN _ _ _ _ _ := ⟨rfl, Mem.of_get at6003⟩
  clear mm7008
  have mm7008 : MemN _ _ _ _ _ := ⟨rfl, Mem.of_get at7008⟩
  clear i65
  have i65 := v65.inn
  have hd1_v37 := mk98.held bs_v37.nd1
  replace w1_v37 := w1_v37.stm sm98
  replace w2_v37 := w2_v37.stm sm98
  replace w3_v37 := w3_v37.stm sm98
  have bs_hd1_v37 := hd1_v37
  have lv_hd1_v37 : Keep H6003.next H98 H98 := fun _ _ _ h => h
  have bs_w1_v37 := w1_v37
  have lv_w1_v37 : Keep H6003.next H98 H98 := fun _ _ _ h => h
  have bs_w2_v37 := w2_v37
  have lv_w2_v37 : Keep H6003.next H98 H98 := fun _ _ _ h => h
  have bs_w3_v37 := w3_v37
  have lv_w3_v37 : Keep H6003.next H98 H98 := fun _ _ _ h => h
  refine .mv rfl (.nil (hK29 _ _ (.seq (fun K30 hK30 => .region (.mv rfl (.mv rfl ?_))))))
  refine .call rfl rfl rfl rfl @Try.call15 rfl (markInt64SS_c) ?_
  rintro _ H101 ⟨rfl, mk101⟩
  have sm101 := mk101.stm
  have nx_H101 := sm101.nx
  replace hle := StM.le_left hle sm101 (by omega)
  replace at1 := sm101.same _ _ (by omega) at1
  replace at5009 := sm101.same _ _ (by omega) at5009
  replace at6003 := sm101.same _ _ (by omega) at6003
  replace at7008 := sm101.same _ _ (by omega) at7008
  replace lv_v27 := Keep.stM lv_v27 sm101 (fun k hb hk => by omega)
  replace v27 := bs_v27.keep lv_v27 (Nat.le_refl _)
  replace lv_v28 := Keep.stM lv_v28 sm101 (fun k hb hk => by omega)
  replace v28 := bs_v28.keep lv_v28 (Nat.le_refl _)
  replace lv_w28 := Keep.stM lv_w28 sm101 (fun k hb hk => by omega)
  replace w28 := bs_w28.keep lv_w28 (Nat.le_refl _)
  replace lv_u28 := Keep.stM lv_u28 sm101 (fun k hb hk => by omega)
  replace u28 := bs_u28.keep lv_u28 (Nat.le_refl _)
  replace lv_v65 := Keep.stM lv_v65 sm101 (fun k hb hk => by omega)
  replace v65 := bs_v65.keep lv_v65 (Nat.le_refl _)
  replace h0 := base_h0.mono hle
  clear hb1 fsh1 c51 c61 i11 i21 hm1 hi1 hmsh1 hish1
  have hb1 : SFun.At _ g1 0 f p := ⟨Mem.of_get at1, h0⟩
  obtain ⟨fsh1, c51, c61, i11, i21⟩ := hb1.get
  have hm1 : MemN _ _ _ _ _ := ⟨rfl, hb1.1⟩
  have hi1 := hb1.2
  have hmsh1 : MemN _ _ _ _ _ := ⟨rfl, fsh1.1⟩
  have hish1 := fsh1.2
  clear i27
  have i27 := v27.inn
  clear i28
  have i28 := v28.inn
  clear j28
  have j28 := w28.intss
  clear k28
  have k28 := u28.intss
  clear mm5009
  have mm5009 : MemN _ _ _ _ _ := ⟨rfl, Mem.of_get at5009⟩
  clear mm6003
  have mm6003 : MemN _ _ _ _ _ := ⟨rfl, Mem.of_get at6003⟩
  clear mm7008
  have mm7008 : MemN _ _ _ _ _ := ⟨rfl, Mem.of_get at7008⟩
  clear i65
  have i65 := v65.inn
  replace hd1_v37 := Held.stB mk101.stb hd1_v37 bs_v37.dj12
  have hd2_v37 := mk101.held bs_v37.nd2
  replace w1_v37 := w1_v37.stm sm101
  replace w2_v37 := w2_v37.stm sm101
  replace w3_v37 := w3_v37.stm sm101
  have bs_hd1_v37 := hd1_v37
  have lv_hd1_v37 : Keep H6003.next H101 H101 := fun _ _ _ h => h
  have bs_hd2_v37 := hd2_v37
  have lv_hd2_v37 : Keep H6003.next H101 H101 := fun _ _ _ h => h
  have bs_w1_v37 := w1_v37
  have lv_w1_v37 : Keep H6003.next H101 H101 := fun _ _ _ h => h
  have bs_w2_v37 := w2_v37
  have lv_w2_v37 : Keep H6003.next H101 H101 := fun _ _ _ h => h
  have bs_w3_v37 := w3_v37
  have lv_w3_v37 : Keep H6003.next H101 H101 := fun _ _ _ h => h
  refine .mv rfl (.nil (hK30 _ _ (.seq (fun K31 hK31 => .region (.mv rfl (.mv rfl ?_))))))
  refine .call rfl rfl rfl rfl @Try.call15 rfl (markInt64SS_c) ?_
  rintro _ H104 ⟨rfl, mk104⟩
  have sm104 := mk104.stm
  have nx_H104 := sm104.nx
  replace hle := StM.le_left hle sm104 (by omega)
  replace at1 := sm104.same _ _ (by omega) at1
  replace at5009 := sm104.same _ _ (by omega) at5009
  replace at6003 := sm104.same _ _ (by omega) at6003
  replace at7008 := sm104.same _ _ (by omega) at7008
  replace lv_v27 := Keep.stM lv_v27 sm104 (fun k hb hk => by omega)
  replace v27 := bs_v27.keep lv_v27 (Nat.le_refl _)
  replace lv_v28 := Keep.stM lv_v28 sm104 (fun k hb hk => by omega)
  replace v28 := bs_v28.keep lv_v28 (Nat.le_refl _)
  replace lv_w28 := Keep.stM lv_w28 sm104 (fun k hb hk => by omega)
  replace w28 := bs_w28.keep lv_w28 (Nat.le_refl _)
  replace lv_u28 := Keep.stM lv_u28 sm104 (fun k hb hk => by omega)
  replace u28 := bs_u28.keep lv_u28 (Nat.le_refl _)
  replace lv_v65 := Keep.stM lv_v65 sm104 (fun k hb hk => by omega)
  replace v65 := bs_v65.keep lv_v65 (Nat.le_refl _)
  replace h0 := base_h0.mono hle
  clear hb1 fsh1 c51 c61 i11 i21 hm1 hi1 hmsh1 hish1
  have hb1 : SFun.At _ g1 0 f p := ⟨Mem.of_get at1, h0⟩
  obtain ⟨fsh1, c51, c61, i11, i21⟩ := hb1.get
  have hm1 : MemN _ _ _ _ _ := ⟨rfl, hb1.1⟩
  have hi1 := hb1.2
  have hmsh1 : MemN _ _ _ _ _ := ⟨rfl, fsh1.1⟩
  have hish1 := fsh1.2
  clear i27
  have i27 := v27.inn
  clear i28
  have i28 := v28.inn
  clear j28
  have j28 := w28.intss
  clear k28
  have k28 := u28.intss
  clear mm5009
  have mm5009 : MemN _ _ _ _ _ := ⟨rfl, Mem.of_get at5009⟩
  clear mm6003
  have mm6003 : MemN _ _ _ _ _ := ⟨rfl, Mem.of_get at6003⟩
  clear mm7008
  have mm7008 : MemN _ _ _ _ _ := ⟨rfl, Mem.of_get at7008⟩
  clear i65
  have i65 := v65.inn
  replace hd1_v37 := Held.stB mk104.stb hd1_v37 bs_v37.dj13
  replace hd2_v37 := Held.stB mk104.stb hd2_v37 bs_v37.dj23
  have hd3_v37 := mk104.held bs_v37.nd3
  replace w1_v37 := w1_v37.stm sm104
  replace w2_v37 := w2_v37.stm sm104
  replace w3_v37 := w3_v37.stm sm104
  have bs_hd1_v37 := hd1_v37
  have lv_hd1_v37 : Keep H6003.next H104 H104 := fun _ _ _ h => h
  have bs_hd2_v37 := hd2_v37
  have lv_hd2_v37 : Keep H6003.next H104 H104 := fun _ _ _ h => h
  have bs_hd3_v37 := hd3_v37
  have lv_hd3_v37 : Keep H6003.next H104 H104 := fun _ _ _ h => h
  have bs_w1_v37 := w1_v37
  have lv_w1_v37 : Keep H6003.next H104 H104 := fun _ _ _ h => h
  have bs_w2_v37 := w2_v37
  have lv_w2_v37 : Keep H6003.next H104 H104 := fun _ _ _ h => h
  have bs_w3_v37 := w3_v37
  have lv_w3_v37 : Keep H6003.next H104 H104 := fun _ _ _ h => h
  refine .mv rfl (.nil (hK31 _ _ (.seq (fun K32 hK32 => .region (.mv rfl (.nil (hK32 _ _ (.seq (fun K33 hK33 => .region ?_)))))))))
  refine .m rfl rfl rfl (.loadM ag_31_D rfl ⟨rfl, Mem.of_get at7008⟩) ?_
  refine .mv rfl ?_
  refine .callQ rfl rfl rfl rfl @Try.call27 rfl (heldCategory_c) ?_
  refine .mv rfl (.nil (hK33 _ _ (.seq (fun K34 hK34 => .seq (fun K35 hK35 => .region (.mv rfl (.m rfl rfl rfl (.cmp rfl rfl rfl) (.nil (hK35 _ _ ?_)))))))))
  refine .cond rfl (fun h109 => ?_) (fun h109 => ?_)
  ·
   try simp only [sps] at h109
   refine .seq (fun K36 hK36 => .region (.mv rfl (.nil (hK36 _ _ ?_))))
   refine .ret ?_
   refine hret _ _ ?_
   refine ⟨_, rfl, ?_⟩
   first
   | exact rfl
   | exact absurd trivial (by assumption)
   | contradiction
   | (exfalso; omega)
  try simp only [sps] at h109
  refine .skip ?_
  refine hK34 _ _ (.seq (fun K37 hK37 => .region (.mv rfl (.mv rfl ?_))))
  refine .callQ rfl rfl rfl rfl @Try.call16 rfl (heldInt64SSw_c) ?_
  refine .mv rfl (.nil (hK37 _ _ (.seq (fun K38 hK38 => .seq (fun K39 hK39 => .region (.mv rfl (.m rfl rfl rfl (.cmp rfl rfl rfl) (.nil (hK39 _ _ ?_)))))))))
  refine .cond rfl (fun h114 => ?_) (fun h114 => ?_)
  ·
   try simp only [sps] at h114
   refine .seq (fun K40 hK40 => .region (.mv rfl (.nil (hK40 _ _ ?_))))
   refine .ret ?_
   refine hret _ _ ?_
   refine ⟨_, rfl, ?_⟩
   first
   | exact rfl
   | exact absurd trivial (by assumption)
   | contradiction
   | (exfalso; omega)
  try simp only [sps] at h114
  refine .skip ?_
  refine hK38 _ _ (.seq (fun K41 hK41 => .region (.mv rfl (.mv rfl ?_))))
  refine .callQ rfl rfl rfl rfl @Try.call16 rfl (heldInt64SSw_c) ?_
  refine .mv rfl (.nil (hK41 _ _ (.seq (fun K42 hK42 => .seq (fun K43 hK43 => .region (.mv rfl (.m rfl rfl rfl (.cmp rfl rfl rfl) (.nil (hK43 _ _ ?_)))))))))
  refine .cond rfl (fun h119 => ?_) (fun h119 => ?_)
  ·
   try simp only [sps] at h119
   refine .seq (fun K44 hK44 => .region (.mv rfl (.nil (hK44 _ _ ?_))))
   refine .ret ?_
   refine hret _ _ ?_
   refine ⟨_, rfl, ?_⟩
   first
   | exact rfl
   | exact absurd trivial (by assumption)
   | contradiction
   | (exfalso; omega)
  try simp only [sps] at h119
  refine .skip ?_
  refine hK42 _ _ (.seq (fun K45 hK45 => .seq (fun K46 hK46 => .region (.mv rfl (.mv rfl (.m rfl rfl rfl (.cmp rfl rfl rfl) (.nil (hK46 _ _ ?_))))))))
  refine .cond rfl (fun h122 => ?_) (fun h122 => ?_)
  ·
   try simp only [sps] at h122
   refine .seq (fun K47 hK47 => .region (.mv rfl (.nil (hK47 _ _ ?_))))
   refine .ret ?_
   refine hret _ _ ?_
   refine ⟨_, rfl, ?_⟩
   first
   | exact rfl
   | exact absurd trivial (by assumption)
   | contradiction
   | (exfalso; omega)
  try simp only [sps] at h122
  refine .skip ?_
  refine hK45 _ _ (.seq (fun K48 hK48 => .region ?_))
  refine .m rfl rfl rfl (.loadM ag_41_LElementsCategory rfl ⟨rfl, Mem.of_get at1⟩) ?_
  refine .call rfl rfl rfl rfl @Try.call21 rfl (toSetFunctor_c) ?_
  rintro _ H125 ⟨le125, p125, rfl, v125⟩
  have nx_H125 := le125.1
  replace hle := hle.trans le125
  replace at1 := le125.2 _ _ at1
  replace at5009 := le125.2 _ _ at5009
  replace at6003 := le125.2 _ _ at6003
  replace at7008 := le125.2 _ _ at7008
  replace lv_v27 := Keep.le lv_v27 le125
  replace v27 := bs_v27.keep lv_v27 (Nat.le_refl _)
  replace lv_v28 := Keep.le lv_v28 le125
  replace v28 := bs_v28.keep lv_v28 (Nat.le_refl _)
  replace lv_w28 := Keep.le lv_w28 le125
  replace w28 := bs_w28.keep lv_w28 (Nat.le_refl _)
  replace lv_u28 := Keep.le lv_u28 le125
  replace u28 := bs_u28.keep lv_u28 (Nat.le_refl _)
  replace lv_v65 := Keep.le lv_v65 le125
  replace v65 := bs_v65.keep lv_v65 (Nat.le_refl _)
  replace lv_hd1_v37 := Keep.le lv_hd1_v37 le125
  replace hd1_v37 := bs_hd1_v37.keep lv_hd1_v37 (Nat.le_refl _)
  replace lv_hd2_v37 := Keep.le lv_hd2_v37 le125
  replace hd2_v37 := bs_hd2_v37.keep lv_hd2_v37 (Nat.le_refl _)
  replace lv_hd3_v37 := Keep.le lv_hd3_v37 le125
  replace hd3_v37 := bs_hd3_v37.keep lv_hd3_v37 (Nat.le_refl _)
  replace lv_w1_v37 := Keep.le lv_w1_v37 le125
  replace w1_v37 := bs_w1_v37.keep lv_w1_v37 (Nat.le_refl _)
  replace lv_w2_v37 := Keep.le lv_w2_v37 le125
  replace w2_v37 := bs_w2_v37.keep lv_w2_v37 (Nat.le_refl _)
  replace lv_w3_v37 := Keep.le lv_w3_v37 le125
  replace w3_v37 := bs_w3_v37.keep lv_w3_v37 (Nat.le_refl _)
  have bs_v125 := v125
  have lv_v125 : Keep H104.next H125 H125 := fun _ _ _ h => h
  replace h0 := base_h0.mono hle
  clear hb1 fsh1 c51 c61 i11 i21 hm1 hi1 hmsh1 hish1
  have hb1 : SFun.At _ g1 0 f p := ⟨Mem.of_get at1, h0⟩
  obtain ⟨fsh1, c51, c61, i11, i21⟩ := hb1.get
  have hm1 : MemN _ _ _ _ _ := ⟨rfl, hb1.1⟩
  have hi1 := hb1.2
  have hmsh1 : MemN _ _ _ _ _ := ⟨rfl, fsh1.1⟩
  have hish1 := fsh1.2
  clear i27
  have i27 := v27.inn
  clear i28
  have i28 := v28.inn
  clear j28
  have j28 := w28.intss
  clear k28
  have k28 := u28.intss
  clear mm5009
  have mm5009 : MemN _ _ _ _ _ := ⟨rfl, Mem.of_get at5009⟩
  clear mm6003
  have mm6003 : MemN _ _ _ _ _ := ⟨rfl, Mem.of_get at6003⟩
  clear mm7008
  have mm7008 : MemN _ _ _ _ _ := ⟨rfl, Mem.of_get at7008⟩
  clear i65
  have i65 := v65.inn
  have i125 := v125.inn
  refine .call rfl rfl rfl rfl @Try.call22 rfl (implElementsCategory_c) ?_
  rintro _ H126 ⟨le126, q126, a126, r126, a2126, r2126, rfl, v126⟩
  have nx_H126 := le126.1
  replace hle := hle.trans le126
  replace at1 := le126.2 _ _ at1
  replace at5009 := le126.2 _ _ at5009
  replace at6003 := le126.2 _ _ at6003
  replace at7008 := le126.2 _ _ at7008
  replace lv_v27 := Keep.le lv_v27 le126
  replace v27 := bs_v27.keep lv_v27 (Nat.le_refl _)
  replace lv_v28 := Keep.le lv_v28 le126
  replace v28 := bs_v28.keep lv_v28 (Nat.le_refl _)
  replace lv_w28 := Keep.le lv_w28 le126
  replace w28 := bs_w28.keep lv_w28 (Nat.le_refl _)
  replace lv_u28 := Keep.le lv_u28 le126
  replace u28 := bs_u28.keep lv_u28 (Nat.le_refl _)
  replace lv_v65 := Keep.le lv_v65 le126
  replace v65 := bs_v65.keep lv_v65 (Nat.le_refl _)
  replace lv_hd1_v37 := Keep.le lv_hd1_v37 le126
  replace hd1_v37 := bs_hd1_v37.keep lv_hd1_v37 (Nat.le_refl _)
  replace lv_hd2_v37 := Keep.le lv_hd2_v37 le126
  replace hd2_v37 := bs_hd2_v37.keep lv_hd2_v37 (Nat.le_refl _)
  replace lv_hd3_v37 := Keep.le lv_hd3_v37 le126
  replace hd3_v37 := bs_hd3_v37.keep lv_hd3_v37 (Nat.le_refl _)
  replace lv_w1_v37 := Keep.le lv_w1_v37 le126
  replace w1_v37 := bs_w1_v37.keep lv_w1_v37 (Nat.le_refl _)
  replace lv_w2_v37 := Keep.le lv_w2_v37 le126
  replace w2_v37 := bs_w2_v37.keep lv_w2_v37 (Nat.le_refl _)
  replace lv_w3_v37 := Keep.le lv_w3_v37 le126
  replace w3_v37 := bs_w3_v37.keep lv_w3_v37 (Nat.le_refl _)
  replace lv_v125 := Keep.le lv_v125 le126
  replace v125 := bs_v125.keep lv_v125 (Nat.le_refl _)
  have bs_v126 := v126
  have lv_v126 : Keep H125.next H126 H126 := fun _ _ _ h => h
  replace h0 := base_h0.mono hle
  clear hb1 fsh1 c51 c61 i11 i21 hm1 hi1 hmsh1 hish1
  have hb1 : SFun.At _ g1 0 f p := ⟨Mem.of_get at1, h0⟩
  obtain ⟨fsh1, c51, c61, i11, i21⟩ := hb1.get
  have hm1 : MemN _ _ _ _ _ := ⟨rfl, hb1.1⟩
  have hi1 := hb1.2
  have hmsh1 : MemN _ _ _ _ _ := ⟨rfl, fsh1.1⟩
  have hish1 := fsh1.2
  clear i27
  have i27 := v27.inn
  clear i28
  have i28 := v28.inn
  clear j28
  have j28 := w28.intss
  clear k28
  have k28 := u28.intss
  clear mm5009
  have mm5009 : MemN _ _ _ _ _ := ⟨rfl, Mem.of_get at5009⟩
  clear mm6003
  have mm6003 : MemN _ _ _ _ _ := ⟨rfl, Mem.of_get at6003⟩
  clear mm7008
  have mm7008 : MemN _ _ _ _ _ := ⟨rfl, Mem.of_get at7008⟩
  clear i65
  have i65 := v65.inn
  clear i125
  have i125 := v125.inn
  have i126 := v126.v.inn
  have j126 := v126.w.intss
  have k126 := v126.u.intss
  refine .mv rfl (.m rfl rfl rfl (.extract rfl rfl) (.m rfl rfl rfl (.extract rfl rfl) (.m rfl rfl rfl (.extract rfl rfl) (.m rfl rfl rfl (.extract rfl rfl) ?_))))
  refine .r rfl rfl rfl (.allocR rfl ze_31_E rfl) ?_
  rintro _ H16 ⟨g16, rfl, le16, ge16, at16⟩
  have nx_H16 := le16.1
  replace hle := hle.trans le16
  replace at1 := le16.2 _ _ at1
  replace at5009 := le16.2 _ _ at5009
  replace at6003 := le16.2 _ _ at6003
  replace at7008 := le16.2 _ _ at7008
  replace lv_v27 := Keep.le lv_v27 le16
  replace v27 := bs_v27.keep lv_v27 (Nat.le_refl _)
  replace lv_v28 := Keep.le lv_v28 le16
  replace v28 := bs_v28.keep lv_v28 (Nat.le_refl _)
  replace lv_w28 := Keep.le lv_w28 le16
  replace w28 := bs_w28.keep lv_w28 (Nat.le_refl _)
  replace lv_u28 := Keep.le lv_u28 le16
  replace u28 := bs_u28.keep lv_u28 (Nat.le_refl _)
  replace lv_v65 := Keep.le lv_v65 le16
  replace v65 := bs_v65.keep lv_v65 (Nat.le_refl _)
  replace lv_hd1_v37 := Keep.le lv_hd1_v37 le16
  replace hd1_v37 := bs_hd1_v37.keep lv_hd1_v37 (Nat.le_refl _)
  replace lv_hd2_v37 := Keep.le lv_hd2_v37 le16
  replace hd2_v37 := bs_hd2_v37.keep lv_hd2_v37 (Nat.le_refl _)
  replace lv_hd3_v37 := Keep.le lv_hd3_v37 le16
  replace hd3_v37 := bs_hd3_v37.keep lv_hd3_v37 (Nat.le_refl _)
  replace lv_w1_v37 := Keep.le lv_w1_v37 le16
  replace w1_v37 := bs_w1_v37.keep lv_w1_v37 (Nat.le_refl _)
  replace lv_w2_v37 := Keep.le lv_w2_v37 le16
  replace w2_v37 := bs_w2_v37.keep lv_w2_v37 (Nat.le_refl _)
  replace lv_w3_v37 := Keep.le lv_w3_v37 le16
  replace w3_v37 := bs_w3_v37.keep lv_w3_v37 (Nat.le_refl _)
  replace lv_v125 := Keep.le lv_v125 le16
  replace v125 := bs_v125.keep lv_v125 (Nat.le_refl _)
  replace lv_v126 := Keep.le lv_v126 le16
  replace v126 := bs_v126.keep lv_v126 (Nat.le_refl _)
  have lt_at16 := GHeap.ltg at16
  replace h0 := base_h0.mono hle
  clear hb1 fsh1 c51 c61 i11 i21 hm1 hi1 hmsh1 hish1
  have hb1 : SFun.At _ g1 0 f p := ⟨Mem.of_get at1, h0⟩
  obtain ⟨fsh1, c51, c61, i11, i21⟩ := hb1.get
  have hm1 : MemN _ _ _ _ _ := ⟨rfl, hb1.1⟩
  have hi1 := hb1.2
  have hmsh1 : MemN _ _ _ _ _ := ⟨rfl, fsh1.1⟩
  have hish1 := fsh1.2
  clear i27
  have i27 := v27.inn
  clear i28
  have i28 := v28.inn
  clear j28
  have j28 := w28.intss
  clear k28
  have k28 := u28.intss
  clear mm5009
  have mm5009 : MemN _ _ _ _ _ := ⟨rfl, Mem.of_get at5009⟩
  clear mm6003
  have mm6003 : MemN _ _ _ _ _ := ⟨rfl, Mem.of_get at6003⟩
  clear mm7008
  have mm7008 : MemN _ _ _ _ _ := ⟨rfl, Mem.of_get at7008⟩
  clear i65
  have i65 := v65.inn
  clear i125
  have i125 := v125.inn
  clear i126
  have i126 := v126.v.inn
  clear j126
  have j126 := v126.w.intss
  clear k126
  have k126 := v126.u.intss
  refine .r0 rfl rfl (.fillR rfl sz_31_D rfl rfl rfl rfl (by assumption) (by first | rfl | exact Nat.le_of_ble_eq_true rfl | simp)) ?_
  rintro _ H32009 ⟨rfl, st32009, at32009⟩
  have nx_H32009 := st32009.nx
  replace hle := hle.st st32009 (fun k hk => ⟨by omega, trivial⟩)
  replace at1 := st32009.same _ _ ⟨(by first | assumption | omega), trivial⟩ at1
  replace at5009 := st32009.same _ _ ⟨(by first | assumption | omega), trivial⟩ at5009
  replace at6003 := st32009.same _ _ ⟨(by first | assumption | omega), trivial⟩ at6003
  replace at7008 := st32009.same _ _ ⟨(by first | assumption | omega), trivial⟩ at7008
  replace lv_v27 := Keep.st lv_v27 st32009 (fun k hb hk => ⟨by omega, trivial⟩)
  replace v27 := bs_v27.keep lv_v27 (Nat.le_refl _)
  replace lv_v28 := Keep.st lv_v28 st32009 (fun k hb hk => ⟨by omega, trivial⟩)
  replace v28 := bs_v28.keep lv_v28 (Nat.le_refl _)
  replace lv_w28 := Keep.st lv_w28 st32009 (fun k hb hk => ⟨by omega, trivial⟩)
  replace w28 := bs_w28.keep lv_w28 (Nat.le_refl _)
  replace lv_u28 := Keep.st lv_u28 st32009 (fun k hb hk => ⟨by omega, trivial⟩)
  replace u28 := bs_u28.keep lv_u28 (Nat.le_refl _)
  replace lv_v65 := Keep.st lv_v65 st32009 (fun k hb hk => ⟨by omega, trivial⟩)
  replace v65 := bs_v65.keep lv_v65 (Nat.le_refl _)
  replace lv_hd1_v37 := Keep.st lv_hd1_v37 st32009 (fun k hb hk => ⟨by omega, trivial⟩)
  replace hd1_v37 := bs_hd1_v37.keep lv_hd1_v37 (Nat.le_refl _)
  replace lv_hd2_v37 := Keep.st lv_hd2_v37 st32009 (fun k hb hk => ⟨by omega, trivial⟩)
  replace hd2_v37 := bs_hd2_v37.keep lv_hd2_v37 (Nat.le_refl _)
  replace lv_hd3_v37 := Keep.st lv_hd3_v37 st32009 (fun k hb hk => ⟨by omega, trivial⟩)
  replace hd3_v37 := bs_hd3_v37.keep lv_hd3_v37 (Nat.le_refl _)
  replace lv_w1_v37 := Keep.st lv_w1_v37 st32009 (fun k hb hk => ⟨by omega, trivial⟩)
  replace w1_v37 := bs_w1_v37.keep lv_w1_v37 (Nat.le_refl _)
  replace lv_w2_v37 := Keep.st lv_w2_v37 st32009 (fun k hb hk => ⟨by omega, trivial⟩)
  replace w2_v37 := bs_w2_v37.keep lv_w2_v37 (Nat.le_refl _)
  replace lv_w3_v37 := Keep.st lv_w3_v37 st32009 (fun k hb hk => ⟨by omega, trivial⟩)
  replace w3_v37 := bs_w3_v37.keep lv_w3_v37 (Nat.le_refl _)
  replace lv_v125 := Keep.st lv_v125 st32009 (fun k hb hk => ⟨by omega, trivial⟩)
  replace v125 := bs_v125.keep lv_v125 (Nat.le_refl _)
  replace lv_v126 := Keep.st lv_v126 st32009 (fun k hb hk => ⟨by omega, trivial⟩)
  replace v126 := bs_v126.keep lv_v126 (Nat.le_refl _)
  have lt_at32009 := GHeap.ltg at32009
  replace h0 := base_h0.mono hle
  clear hb1 fsh1 c51 c61 i11 i21 hm1 hi1 hmsh1 hish1
  have hb1 : SFun.At _ g1 0 f p := ⟨Mem.of_get at1, h0⟩
  obtain ⟨fsh1, c51, c61, i11, i21⟩ := hb1.get
  have hm1 : MemN _ _ _ _ _ := ⟨rfl, hb1.1⟩
  have hi1 := hb1.2
  have hmsh1 : MemN _ _ _ _ _ := ⟨rfl, fsh1.1⟩
  have hish1 := fsh1.2
  clear i27
  have i27 := v27.inn
  clear i28
  have i28 := v28.inn
  clear j28
  have j28 := w28.intss
  clear k28
  have k28 := u28.intss
  clear mm5009
  have mm5009 : MemN _ _ _ _ _ := ⟨rfl, Mem.of_get at5009⟩
  clear mm6003
  have mm6003 : MemN _ _ _ _ _ := ⟨rfl, Mem.of_get at6003⟩
  clear mm7008
  have mm7008 : MemN _ _ _ _ _ := ⟨rfl, Mem.of_get at7008⟩
  clear i65
  have i65 := v65.inn
  clear i125
  have i125 := v125.inn
  clear i126
  have i126 := v126.v.inn
  clear j126
  have j126 := v126.w.intss
  clear k126
  have k126 := v126.u.intss
  have mm32009 : MemN _ _ _ _ _ := ⟨rfl, Mem.of_get at32009⟩
  refine .mv rfl (.mv rfl (.mv rfl (.nil (hK48 _ _ (.seq (fun K49 hK49 => .seq (fun K50 hK50 => .region ?_)))))))
  refine .m rfl rfl rfl (.loadM ag_31_D rfl ⟨rfl, Mem.of_get at32009⟩) ?_
  refine .m rfl rfl rfl (.loadM ag_31_D rfl ⟨rfl, Mem.of_get at5009⟩) ?_
  refine .callQ rfl rfl rfl rfl @Try.call23 rfl (eqCategory_c) ?_
  refine .m rfl rfl rfl (.not rfl) (.mv rfl ?_)
  refine .split (fun h135 => ?_) (fun h135 => ?_)
  ·
   try simp only [sps] at h135
   refine .sg rfl rfl rfl rfl rfl (.sg rfl rfl rfl rfl rfl (.sg rfl rfl rfl rfl rfl (.sg rfl rfl rfl rfl rfl (.m rfl rfl rfl (.pickT rfl rfl) (.mv rfl (.sg rfl rfl rfl rfl rfl (.sg rfl rfl rfl rfl rfl (.sg rfl rfl rfl rfl rfl (.sg rfl rfl rfl rfl rfl (.m rfl rfl rfl (.pickT rfl rfl) (.mv rfl (.sg rfl rfl rfl rfl rfl (.sg rfl rfl rfl rfl rfl (.sg rfl rfl rfl rfl rfl (.m rfl rfl rfl (.pickT rfl rfl) ?_)))))))))))))))
   refine .nil (hK50 _ _ ?_)
   refine .condT rfl ?_
   refine .seq (fun K51 hK51 => .region (.mv rfl (.nil (hK51 _ _ ?_))))
   refine .ret ?_
   refine hret _ _ ?_
   refine ⟨_, rfl, ?_⟩
   first
   | exact rfl
   | exact absurd trivial (by assumption)
   | contradiction
   | (exfalso; omega)
  try simp only [sps] at h135
  refine .mg rfl rfl rfl rfl rfl (.move rfl) (.mg rfl rfl rfl rfl rfl (.move rfl) ?_)
  refine .callQg rfl rfl rfl rfl rfl rfl @Try.call12 rfl (eqInt64SS_c) ?_
  refine .mg rfl rfl rfl rfl rfl (.not rfl) (.m rfl rfl rfl (.pickF rfl rfl) (.mv rfl ?_))
  refine .split (fun h141 => ?_) (fun h141 => ?_)
  ·
   try simp only [sps] at h141
   refine .sg rfl rfl rfl rfl rfl (.sg rfl rfl rfl rfl rfl (.sg rfl rfl rfl rfl rfl (.sg rfl rfl rfl rfl rfl (.m rfl rfl rfl (.pickT rfl rfl) (.mv rfl (.sg rfl rfl rfl rfl rfl (.sg rfl rfl rfl rfl rfl (.sg rfl rfl rfl rfl rfl (.m rfl rfl rfl (.pickT rfl rfl) (.nil (hK50 _ _ ?_)))))))))))
   refine .condT rfl ?_
   refine .seq (fun K52 hK52 => .region (.mv rfl (.nil (hK52 _ _ ?_))))
   refine .ret ?_
   refine hret _ _ ?_
   refine ⟨_, rfl, ?_⟩
   first
   | exact rfl
   | exact absurd trivial (by assumption)
   | contradiction
   | (exfalso; omega)
  try simp only [sps] at h141
  refine .mg rfl rfl rfl rfl rfl (.move rfl) (.mg rfl rfl rfl rfl rfl (.move rfl) ?_)
  refine .callQg rfl rfl rfl rfl rfl rfl @Try.call12 rfl (eqInt64SS_c) ?_
  refine .mg rfl rfl rfl rfl rfl (.not rfl) (.m rfl rfl rfl (.pickF rfl rfl) (.mv rfl ?_))
  refine .split (fun h147 => ?_) (fun h147 => ?_)
  ·
   try simp only [sps] at h147
   refine .sg rfl rfl rfl rfl rfl (.sg rfl rfl rfl rfl rfl (.sg rfl rfl rfl rfl rfl (.m rfl rfl rfl (.pickT rfl rfl) (.nil (hK50 _ _ ?_)))))
   refine .condT rfl ?_
   refine .seq (fun K53 hK53 => .region (.mv rfl (.nil (hK53 _ _ ?_))))
   refine .ret ?_
   refine hret _ _ ?_
   refine ⟨_, rfl, ?_⟩
   first
   | exact rfl
   | exact absurd trivial (by assumption)
   | contradiction
   | (exfalso; omega)
  try simp only [sps] at h147
  refine .mg rfl rfl rfl rfl rfl (.move rfl) (.mg rfl rfl rfl rfl rfl (.move rfl) (.mg rfl rfl rfl rfl rfl (.cmp rfl rfl rfl) (.m rfl rfl rfl (.pickF rfl rfl) (.nil (hK50 _ _ ?_)))))
  refine .cond rfl (fun h151 => ?_) (fun h151 => ?_)
  ·
   try simp only [sps] at h151
   refine .seq (fun K54 hK54 => .region (.mv rfl (.nil (hK54 _ _ ?_))))
   refine .ret ?_
   refine hret _ _ ?_
   refine ⟨_, rfl, ?_⟩
   first
   | exact rfl
   | exact absurd trivial (by assumption)
   | contradiction
   | (exfalso; omega)
  try simp only [sps] at h151
  refine .skip ?_
  refine hK49 _ _ (.seq (fun K55 hK55 => .region (.mv rfl (.nil (hK55 _ _ (.seq (fun K56 hK56 => .region ?_)))))))
  refine .m rfl rfl rfl (.loadM ag_31_D rfl ⟨rfl, Mem.of_get at7008⟩) ?_
  refine .mv rfl ?_
  refine .callQ rfl rfl rfl rfl @Try.call27 rfl (heldCategory_c) ?_
  refine .mv rfl (.nil (hK56 _ _ (.seq (fun K57 hK57 => .seq (fun K58 hK58 => .region (.mv rfl (.m rfl rfl rfl (.cmp rfl rfl rfl) (.nil (hK58 _ _ ?_)))))))))
  refine .cond rfl (fun h156 => ?_) (fun h156 => ?_)
  ·
   try simp only [sps] at h156
   refine .seq (fun K59 hK59 => .region (.mv rfl (.nil (hK59 _ _ ?_))))
   refine .ret ?_
   refine hret _ _ ?_
   refine ⟨_, rfl, ?_⟩
   first
   | exact rfl
   | exact absurd trivial (by assumption)
   | contradiction
   | (exfalso; omega)
  try simp only [sps] at h156
  refine .skip ?_
  refine hK57 _ _ (.seq (fun K60 hK60 => .region (.mv rfl (.mv rfl ?_))))
  refine .callQ rfl rfl rfl rfl @Try.call16 rfl (heldInt64SSw_c) ?_
  refine .mv rfl (.nil (hK60 _ _ (.seq (fun K61 hK61 => .seq (fun K62 hK62 => .region (.mv rfl (.m rfl rfl rfl (.cmp rfl rfl rfl) (.nil (hK62 _ _ ?_)))))))))
  refine .cond rfl (fun h161 => ?_) (fun h161 => ?_)
  ·
   try simp only [sps] at h161
   refine .seq (fun K63 hK63 => .region (.mv rfl (.nil (hK63 _ _ ?_))))
   refine .ret ?_
   refine hret _ _ ?_
   refine ⟨_, rfl, ?_⟩
   first
   | exact rfl
   | exact absurd trivial (by assumption)
   | contradiction
   | (exfalso; omega)
  try simp only [sps] at h161
  refine .skip ?_
  refine hK61 _ _ (.seq (fun K64 hK64 => .region (.mv rfl (.mv rfl ?_))))
  refine .callQ rfl rfl rfl rfl @Try.call16 rfl (heldInt64SSw_c) ?_
  refine .mv rfl (.nil (hK64 _ _ (.seq (fun K65 hK65 => .seq (fun K66 hK66 => .region (.mv rfl (.m rfl rfl rfl (.cmp rfl rfl rfl) (.nil (hK66 _ _ ?_)))))))))
  refine .cond rfl (fun h166 => ?_) (fun h166 => ?_)
  ·
   try simp only [sps] at h166
   refine .seq (fun K67 hK67 => .region (.mv rfl (.nil (hK67 _ _ ?_))))
   refine .ret ?_
   refine hret _ _ ?_
   refine ⟨_, rfl, ?_⟩
   first
   | exact rfl
   | exact absurd trivial (by assumption)
   | contradiction
   | (exfalso; omega)
  try simp only [sps] at h166
  refine .skip ?_
  refine hK65 _ _ (.seq (fun K68 hK68 => .seq (fun K69 hK69 => .region (.mv rfl (.mv rfl (.m rfl rfl rfl (.cmp rfl rfl rfl) (.nil (hK69 _ _ ?_))))))))
  refine .cond rfl (fun h169 => ?_) (fun h169 => ?_)
  ·
   try simp only [sps] at h169
   refine .seq (fun K70 hK70 => .region (.mv rfl (.nil (hK70 _ _ ?_))))
   refine .ret ?_
   refine hret _ _ ?_
   refine ⟨_, rfl, ?_⟩
   first
   | exact rfl
   | exact absurd trivial (by assumption)
   | contradiction
   | (exfalso; omega)
  try simp only [sps] at h169
  refine .skip ?_
  refine hK68 _ _ (.seq (fun K71 hK71 => .region (.mv rfl (.nil (hK71 _ _ ?_)))))
  refine .ret ?_
  refine hret _ _ ?_
  refine ⟨_, rfl, ?_⟩
  first
  | exact rfl
  | exact absurd trivial (by assumption)
  | contradiction
  | (exfalso; omega)
end Go.Proofs.Ytagkeabmdodfiaa
namespace Go.GL
open Go.RowKit Go.WideShapes Go.ChangeShapes Go.Deep

structure Imp1 (P : Program) (t : TypeId) (R : GHeap → Value → Prop) : Prop where
  mono : ∀ {H H' : GHeap} {g : Value}, H.Le H' → R H g → R H' g
  imp : ∀ {T : Type} {enc : TypeId × Value → T} {B : Nat} {w0 : World} {ρ : Place} {H : GHeap} {w : World} {held : Bool} {base fuel : Nat} {v : Value} {x : DataW T × List MemPlace}, Sim P B w0 ρ H w → w.heap.size ≤ B →
    DataW.trod enc P w 0 (fun _ => true) held fuel t v.cells.toList = some x → Value.okWide P w .any base t v → ∃ ρ' H' g, Sim P B w0 ρ' H' w ∧ Ext ρ ρ' ∧ H.Le H' ∧ VRel ρ' g v ∧ R H' g

def structT (P : Program) (t : TypeId) : Bool := match P.underlying t with | some (.struct _) => true | _ => false
theorem imp1_struct {P : Program} {t : TypeId} {α β : Type} {cells : α → β → List Value} {I : GHeap → α → β → Prop} {W : α → Prop} (hm : ∀ {H H' : GHeap} {c : α} {p : β}, I H c p → H.Le H' → I H' c p)
    (hI : Imports P t (fun ρ H cs => ∃ (c : α) (p : β), LRel ρ (cells c p) cs ∧ I H c p ∧ W c)) (hst : structT P t = true) : Imp1 P t (fun H g => ∃ (c : α) (p : β), g = .agg (cells c p).toArray ∧ I H c p ∧ W c) where
  mono h := fun ⟨c, p, h1, h2, h3⟩ => ⟨c, p, h1, hm h2 h, h3⟩
  imp := by
    intro T enc B w0 ρ H w held base fuel v x hs hB h hv
    have hagg : ∃ cs, v = .agg cs := by
      unfold Value.okWide at hv
      unfold structT at hst
      split at hst
      · rename_i fs hu
        rw [hu] at hv
        obtain ⟨cs, h, _⟩ := hv
        exact ⟨cs, h⟩
      · cases hst
    obtain ⟨cs, rfl⟩ := hagg
    obtain ⟨ρ', H', h1, h2, h3, c, p, h4, h5, h6⟩ := hI hs hB h
    exact ⟨ρ', H', _, h1, h2, h3, by have := VRel.agg_of h4; simpa [Value.cells] using this, c, p, rfl, h5, h6⟩
structure ImpAll (P : Program) (ts : List TypeId) (R : GHeap → List Value → Prop) : Prop where
  imp : ∀ {T : Type} {enc : TypeId × Value → T} {B : Nat} {w0 : World} {ρ : Place} {H : GHeap} {w : World} {base : Nat} {vs : List Value} {ds : List (DataW T)} {ps : List MemPlace}, Sim P B w0 ρ H w → w.heap.size ≤ B →
    DataW.TrodAll enc P w 0 (fun _ => true) true ts vs ds ps → (∀ (j : Nat) t v, ts[j]? = some t → vs[j]? = some v → Value.okWide P w .any base t v) → ds.length = ts.length ∧ ∃ ρ' H' gs, Sim P B w0 ρ' H' w ∧ Ext ρ ρ' ∧ H.Le H' ∧ LRel ρ' gs vs ∧ R H' gs
theorem ImpAll.nil {P : Program} : ImpAll P [] (fun _ gs => gs = []) where
  imp := by
    intro T enc B w0 ρ H w base vs ds ps hs hB h hv
    obtain ⟨rfl, rfl, rfl⟩ := trodAll_nil h
    exact ⟨rfl, ρ, H, [], hs, .refl ρ, .refl H, .nil ρ, rfl⟩
theorem ImpAll.cons {P : Program} {t : TypeId} {ts : List TypeId} {R1 : GHeap → Value → Prop} {R : GHeap → List Value → Prop} (h1 : Imp1 P t R1) (h2 : ImpAll P ts R) : ImpAll P (t :: ts) (fun H gs => ∃ g r, gs = g :: r ∧ R1 H g ∧ R H r) where
  imp := by
    intro T enc B w0 ρ H w base vs ds ps hs hB h hv
    obtain ⟨v, vs, d, ds, p, q, rfl, rfl, rfl, ⟨fuel, k1⟩, k2⟩ := trodAll_cons h
    obtain ⟨ρ1, H1, g, s1, e1, l1, v1, r1⟩ := h1.imp hs hB k1 (hv 0 t v rfl rfl)
    obtain ⟨hl, ρ2, H2, gs, s2, e2, l2, v2, r2⟩ := h2.imp s1 hB k2 (fun j t v ht hj => hv (j + 1) t v (by simpa using ht) (by simpa using hj))
    exact ⟨by simp [hl], ρ2, H2, g :: gs, s2, e1.trans e2, l1.trans l2, .cons (v1.mono e2) v2, g, gs, rfl, h1.mono l2 r1, r2⟩

theorem law_calls {P : Program} {f : FuncId} {fn : Func} {ts : List TypeId} {tb : TypeId} {R : GHeap → List Value → Prop} (hI : ImpAll P ts R) (hp : fn.params = ts.toArray)
    (hc : ∀ H gs, R H gs → GCalls P f gs H fun v _ => v = .bool true)
    {T : Type} {enc : TypeId × Value → T} {W : World} {base : Nat} {args : Array Value} {s : ChangeSpec} {apart fresh handsOn again : Bool} {ds gs : List (DataW T)} {before : List MemPlace}
    (hval : ∀ (j : Nat) t v, fn.params[j]? = some t → args[j]? = some v → Value.okWide P W .any base t v)
    (hW : DataW.Whole enc P fn.params.toList s.vars apart W args.toList ds gs before)
    (hl : laidOutB P = true) (hr : readB P fn.params.toList = true) (hv : s.vars = []) (hrt : fn.resultTypes = #[tb]) (htb : P.underlying tb = some .bool)
    (hs : ∀ ds : List (DataW T), ds.length = ts.length → (s.fn T ds).results = [.lit (.bool true)] ∧ (s.fn T ds).args = ds ∧ (s.fn T ds).vars = []) :
    Calls P f args W fun e W' => ∃ v, e = .returned v ∧ s.post enc P fn apart fresh handsOn again W args v W' := by
  have hWW := hW
  obtain ⟨p, q, hA, _⟩ := hW
  rw [hp] at hA
  obtain ⟨hlen, ρ, H, gs', hs', _, _, hrel, hR⟩ := hI.imp (base := base) (Sim.start P W) (Nat.le_refl _) (by simpa using hA) (fun j t v ht hj => hval j t v (by rw [hp]; simpa using ht) (by simpa using hj))
  have := (hc H gs' hR) _ _ ρ args.toList W hs' hrel
  rw [Array.toArray_toList] at this
  refine this.mono fun e W' ⟨v, c, ρ', H', he, hv', _, hsim, hrv⟩ => ?_
  subst hv'
  cases hrv
  exact ⟨_, he, law_post hl hr hv hrt htb hWW (hs ds hlen).1 (hs ds hlen).2.1 (hs ds hlen).2.2 hsim.below⟩
end Go.GL
